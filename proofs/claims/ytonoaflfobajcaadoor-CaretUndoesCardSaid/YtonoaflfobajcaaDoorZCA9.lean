/- Part 9 of the proof that for every argument the laws CaretDeletes and CaretUndoes answer true: what goes ahead of a caret moves it by so much, where its own element goes it stands where that was; behind a toggle, and another one of the same edit, a caret is where it was. -/
import Derived.Test.YtonoaflfobajcaaDoorZCA8
import Derived.Lib.SliceRun
section
namespace Go.Proofs.YtonoaflfobajcaaDoor.L
open Go.RowKit Go.Proofs.YtonoaflfobajcaaDoorW.PrintWords Go.Proofs.YtonoaflfobajcaaDoorW.PrintLast Go.Proofs.YtonoaflfobajcaaDoorW.PrintMore
set_option linter.unusedVariables false
set_option linter.unusedSimpArgs false
set_option maxHeartbeats 40000000
set_option maxRecDepth 1000000
section
abbrev RE (w : World) (base : Nat) (v : Value) (xs : List SElem) : Prop:=Qaq.R 43 w base (fun _ => True) v xs
theorem RE_set {w : World} {base g n c : Nat} {xs : List SElem} (h : RE w base (.slice (some ⟨g,0,none⟩) n c) xs) (i : Nat) (hi : i < n) (x : SElem) :
  RE (((w.setCell ⟨g,i * 3,none⟩ (.int .i64 x.f0)).setCell ⟨g,i * 3 + 1,none⟩ (.int .i64 x.f1)).setCell ⟨g,i * 3 + 2,none⟩ (.int .i64 x.f2)) base (.slice (some ⟨g,0,none⟩) n c) (xs.set i x) ∧
   w.grownBy (((w.setCell ⟨g,i * 3,none⟩ (.int .i64 x.f0)).setCell ⟨g,i * 3 + 1,none⟩ (.int .i64 x.f1)).setCell ⟨g,i * 3 + 2,none⟩ (.int .i64 x.f2)) (some g):=by
 obtain ⟨cs,hl,hM,hc,hf⟩:=Kd.R_elem h zElem (i : Int) (by omega) (by omega)
 have hl3 : cs.length = 3:=hl
 have:=Kd.R_seg h (i : Int) (by omega) (by omega) (c:=cs) (seg:=[.int .i64 x.f0, .int .i64 x.f1, .int .i64 x.f2]) (j:=0) (x':=x) (okp:=fun k => True ∧ k ≠ g) hl hc (by show 0 + 3 ≤ 3; omega) (by
  have : cs.take 0 ++ [Value.int .i64 x.f0, .int .i64 x.f1, .int .i64 x.f2] ++ cs.drop (0 + [Value.int .i64 x.f0, .int .i64 x.f1, .int .i64 x.f2].length) = [.int .i64 x.f0, .int .i64 x.f1, .int .i64 x.f2]:=by
   rw [List.take_zero,List.nil_append,List.drop_eq_nil_of_le (by simp; omega),List.append_nil]
  rw [this]; exact Qbs _ _ _ x) (fun k hk => hk)
 exact this
theorem grown_then {w w1 w2 : World} {row : Option Nat} (h : w.grownBy w1 row) (k : Below w1.heap.size w1 w2) : w.grownBy w2 row :=
 ⟨k.os.trans h.os,k.tape.trans h.tape,k.output.trans h.output,Nat.le_trans h.size k.size,fun i hi hne => (k.block i (Nat.lt_of_lt_of_le hi h.size)).trans (h.block i hi hne)⟩
theorem grown_grown {w w1 w2 : World} {row : Option Nat} (h : w.grownBy w1 row) (k : w1.grownBy w2 row) : w.grownBy w2 row :=
 ⟨k.os.trans h.os,k.tape.trans h.tape,k.output.trans h.output,Nat.le_trans h.size k.size,fun i hi hne => (k.block i (Nat.lt_of_lt_of_le hi h.size) hne).trans (h.block i hi hne)⟩
theorem filter_first (l : List SElem) (p : SElem → Bool) {i : Nat} (hi : i < l.length) (hpi : p (Qaa l (i : Int)) = true) (hlt : ∀ j,j < i → p (Qaa l (j : Int)) = false) : l.take i = (l.take (i + 1)).filter (fun x => !p x):=by
 rw [List.take_succ_eq_append_getElem hi,List.filter_append]
 rw [Qat _ _ hi] at hpi
 have h1 : (l.take i).filter (fun x => !p x) = l.take i:=by
  rw [List.filter_eq_self]
  intro x hx
  obtain ⟨j,hj,rfl⟩:=List.mem_take_iff_getElem.1 hx
  have:=hlt j (by omega)
  rw [Qat _ _ (by omega)] at this
  simp [this]
 rw [h1]; simp [hpi]
def zs (n : Nat) : List Value:=(Builtin.zeroCells #[.int .i64 0, .int .i64 0, .int .i64 0] n).toList
theorem zs_len (n : Nat) : (zs n).length = n * 3:=by simp [zs,Builtin.zeroCells]
theorem zs_one (n : Nat) : ∀ v ∈ zs n,v.oneCell' = true:=by
 intro v hv
 unfold zs Builtin.zeroCells at hv
 simp only [Array.toList_map,List.mem_map] at hv
 obtain ⟨i,_,rfl⟩:=hv
 have h : i % 3 = 0 ∨ i % 3 = 1 ∨ i % 3 = 2:=by omega
 show (#[Value.int .i64 0, .int .i64 0, .int .i64 0][i % 3]!).oneCell' = true
 rcases h with h | h | h <;> rw [h] <;> rfl
theorem run_clear_elem (w : World) (ty : TypeId) (b o n c : Nat) (hn : 0 < n) (hc : ∀ j,j < n * 3 → (w.cell? ⟨b,o + j,none⟩).isSome = true) (hf : ∀ j,j < n * 3 → w.frozen? ⟨b,o + j,none⟩ = false) :
  (Builtin.clear_ #[23] ty #[.slice (some ⟨b,o,none⟩) n c]).run Tryd.prog w = .ok (.tuple #[]) (w.setCells b o (zs n)):=by
 have hst:=run_storeCells_cells (P:=Tryd.prog) b o (zs n) 0 w (by rw [zs_len]; simpa using hc) (by rw [zs_len]; simpa using hf) (zs_one n)
 simp only [Nat.add_zero] at hst
 have hv:=Tryd.zeroValue43
 obtain ⟨m,rfl⟩ : ∃ m,n = m + 1:=⟨n - 1,by omega⟩
 simp only [Builtin.clear_]
 unfold zs at hst ⊢
 simp [run_underlying Tryd.underlying23,hv,Value.cells,hst]
theorem RE_clear {w : World} {base g n c : Nat} {xs : List SElem} (h : RE w base (.slice (some ⟨g,0,none⟩) n c) xs) (a : Nat) (ha : a ≤ n) (seg : List Value) (hs : a * 3 + seg.length ≤ n * 3) :
  RE (w.setCells g (a * 3) seg) base (.slice (some ⟨g,0,none⟩) a c) (xs.take a) ∧ w.grownBy (w.setCells g (a * 3) seg) (some g) ∧ (∀ j,j < n * 3 → (w.cell? ⟨g,j,none⟩).isSome = true) ∧ ∀ j,w.frozen? ⟨g,j,none⟩ = false:=by
 have hn:=(Kd.R_reads' h).1
 obtain ⟨_,inner0,own0,hr0⟩:=h
 have hT:=Kd.R_take (m:=a) (show RE w base (.slice (some ⟨g,0,none⟩) n c) xs from ⟨fun _ _ => trivial,inner0,own0,hr0⟩) (by omega)
 obtain ⟨hok,inner,ho,hr⟩:=hT
 obtain ⟨ho1,ho2⟩:=ho
 obtain ⟨_,ho02⟩:=own0
 rcases ho02 with ⟨hv,_⟩ | ⟨g0,cap0,cur0,hv0,hb0,hh0,hnc0,hcm0,hcs0,ht0⟩
 ·cases hv
 rcases ho2 with ⟨hv,_⟩ | ⟨g',cap',cur,hv,hb,hh,hnc',hcm,hcs,ht⟩
 ·cases hv
 injection hv with hA _ hc
 injection hA with hA
 injection hA with hg
 subst hg; subst hc
 injection hv0 with hA _ hc
 injection hA with hA
 injection hA with hg
 subst hg; subst hc
 have e : cur0 = cur:=by
  rw [hh] at hh0; injection hh0 with hh0; injection hh0 with hh0; exact hh0.symm
 subst e
 have hfit : a * 3 + seg.length ≤ cur0.size:=by
  have h3 : Qaq.sz = 3:=rfl
  rw [hcs0,h3]; omega
 obtain ⟨cur',h3,h4,h5⟩:=setCells_row seg (a * 3) w cur0 hh hfit
 obtain ⟨s1,s2,s3,s4⟩:=setCells_same g seg (a * 3) w
 refine ⟨⟨hok,inner,⟨ho1, .inr ⟨g,c,cur',by rw [List.length_take,Nat.min_eq_left (by omega)],hb,h3,hnc',hcm,by rw [h4,hcs], ?_⟩⟩,hr⟩,⟨s1,s2,s3,by rw [s4]; exact Nat.le_refl _,fun k _ hk => setCells_far seg _ k (fun he => hk (by rw [he]))⟩,fun j hj => ?_,fun j => blk_frozen hh j⟩
 ·rw [← ht,h5]
  have hl : (cur0.toList.take (a * 3)).length = a * 3:=by rw [List.length_take,Array.length_toList]; omega
  have h33 : (xs.take a).length * 3 = a * 3:=by rw [List.length_take]; omega
  show List.take ((xs.take a).length * 3) _ = List.take ((xs.take a).length * 3) _
  rw [h33,List.append_assoc,List.take_append_of_le_length (by omega),List.take_take,Nat.min_self]
 ·rw [cell_of_row w g j cur0 _ (0,0) hh,Array.getElem?_eq_getElem (by have h3 : Qaq.sz = 3:=rfl; rw [hcs0,h3]; omega)]
  rfl
theorem DeleteFuncElem (gf : Nat) (lb : Array Value) (base c : Nat) (A : Option Addr) (l : List SElem) (p : SElem → Bool) (w : World) (eg : ∀ args w,(callFunc gf args).run Tryd.prog w = .ok (.enter gf args) w)
  (hm : l.length ≤ 1000000000) (h0 : RE w base (.slice A l.length c) l)
  (hs : ∀ W x,x ∈ l → w.grownBy W (Value.slice A l.length c).ownBlock → Calls Tryd.prog gf (#[elV x] ++ lb) W fun e w' => e = .returned (.bool (p x)) ∧ Below W.heap.size W w') :
  Calls Tryd.prog 86 #[.slice A l.length c, .func (.func gf) #[] lb] w fun e w' => ∃ v,e = .returned v ∧ RE w' base v (l.filter fun x => !p x) ∧ w.grownBy w' (Value.slice A l.length c).ownBlock:=by
 have hu1:=Tryd.underlying23
 have hu2:=Tryd.underlying43
 have cI:=IndexFuncElem gf lb A c l (fun i => p (Qaa l (i : Int))) (fun _ W => Below w.heap.size w W) (fun _ W => Below w.heap.size w W) w eg (by omega) (Below.refl _ _) (fun i W hb => (Kd.R_reads' (Kd.R_below h0 hb)).2.2) (fun i W hi hb => by
  refine (hs W (Qaa l (i : Int)) (by rw [Qat _ _ hi]; exact List.getElem_mem hi) (grown_of_below hb _)).mono ?_
  rintro e w' ⟨rfl,hb'⟩
  have : Below w.heap.size w w':=Qav hb hb'
  exact ⟨rfl,fun _ => this,fun _ => this⟩)
 have HI:=Aside0.mk (firstAt_cases (fun i : Nat => p (Qaa l (i : Int))) l.length)
 generalize Qbf (fun i : Nat => p (Qaa l (i : Int))) l.length l.length 0 = i0 at cI HI
 have CI:=Aside0.mk cI
 have HS:=Aside0.mk hs
 have H0:=Aside0.mk h0
 clear cI hs h0
 go_enter Tryd.func86,Tryd.ntmps86
 go_wp2_with fail
 refine CI.out.mono ?_
 rintro e w1 ⟨rfl,hpost⟩
 have HP:=Aside0.mk hpost
 clear hpost CI
 rcases HI.out with ⟨i,hi,hpi,hlt,rfl⟩ | ⟨hno,rfl⟩
 ·have hne : ((i : Int) == -1) = false:=by simp
  obtain ⟨g,cap,hv,hbg,hgl,_⟩:=Kd.R_form H0.out (by omega)
  injection hv with ha _ hcap
  subst ha; subst hcap
  have hb1 : Below w.heap.size w w1:=by rcases HP.out with ⟨_,_,_,_,h⟩ | ⟨_,h⟩ <;> exact h
  have HG1:=Aside0.mk (grown_of_below hb1 (some g))
  have HR1:=Aside0.mk (Kd.R_below H0.out hb1)
  have HFT:=Aside0.mk (filter_first l p hi hpi hlt)
  clear HP HI hb1 H0
  go_wp2
  go_loopg [5,6,7] l.length (fun gg s5 s6 _ wr => ∃ (a b : Nat) (xs : List SElem),a < b ∧ b ≤ l.length ∧ l.length - b ≤ gg ∧ s5 = .int .i64 a ∧ s6 = .int .i64 b ∧ Aside0 (xs.length = l.length) ∧ Aside0 (xs.take a = (l.take b).filter (fun x => !p x)) ∧ Aside0 (xs.drop b = l.drop b) ∧ Aside0 (RE wr base (.slice (some ⟨g,0,none⟩) l.length c) xs) ∧ Aside0 (w.grownBy wr (some g)))
  case atStart => exact ⟨i,i + 1,l,by omega,by omega,by omega,rfl,by go_num,⟨rfl⟩,HFT,⟨rfl⟩,HR1,HG1⟩
  case round =>
   clear HFT HR1 HG1
   obtain ⟨a,b,xs,hab,hbn,hgk,rfl,rfl,HL,HF,HD,HR,HG⟩:=hrel
   by_cases hlt2 : b < l.length
   ·obtain ⟨g',rfl⟩ : ∃ g',gk = g' + 1:=⟨gk - 1,by omega⟩
    have hltz : (b : Int) < (l.length : Int):=by omega
    have h0z : (0 : Int) ≤ (b : Int):=by omega
    obtain ⟨hn,_,hC⟩:=Kd.R_reads' HR.out
    obtain ⟨ad,hA,x0,x1,x2⟩:=Qba hC (b : Int) h0z (by omega)
    injection hA with hA
    subst hA
    clear hC hn
    simp only [Int.toNat_natCast,Qcw] at x0 x1 x2
    have hx : Qaa xs (b : Int) = Qaa l (b : Int):=by
     have hb2 : b < xs.length:=by rw [HL.out]; exact hlt2
     rw [Qat _ _ hb2,Qat _ _ hlt2]
     have:=HD.out
     rw [List.drop_eq_getElem_cons hb2,List.drop_eq_getElem_cons hlt2] at this
     injection this
    rw [hx] at x0 x1 x2
    have HM:=Aside0.mk (show Qaa l (b : Int) ∈ l by rw [Qat _ _ hlt2]; exact List.getElem_mem hlt2)
    generalize hxe : Qaa l (b : Int) = x at x0 x1 x2 HM
    have HXE:=Aside0.mk hxe
    clear hxe hx
    have hal : Below wr.heap.size wr (wr.alloc (.cells #[.int .i64 x.f0, .int .i64 x.f1, .int .i64 x.f2] 43)):=Qag (Below.refl _ _) _
    have HC:=Aside0.mk (HS.out _ x HM.out (grown_then HG.out hal))
    have HG2:=Aside0.mk (grown_then HG.out hal)
    have HR2:=Aside0.mk (Kd.R_below HR.out hal)
    have HLT : xs.length = l.length:=HL.out
    have ha1 : a < xs.length:=by omega
    clear hal HG HR
    go_wp2_with fail
    refine HC.out.mono ?_
    rintro e w2 ⟨rfl,hb2⟩
    have d0:=Qac hb2 (show (wr.alloc (.cells #[.int .i64 x.f0, .int .i64 x.f1, .int .i64 x.f2] 43)).cell? ⟨wr.heap.size,0,none⟩ = some (.int .i64 x.f0) by simp)
    have d1:=Qac hb2 (show (wr.alloc (.cells #[.int .i64 x.f0, .int .i64 x.f1, .int .i64 x.f2] 43)).cell? ⟨wr.heap.size,1,none⟩ = some (.int .i64 x.f1) by simp)
    have d2:=Qac hb2 (show (wr.alloc (.cells #[.int .i64 x.f0, .int .i64 x.f1, .int .i64 x.f2] 43)).cell? ⟨wr.heap.size,2,none⟩ = some (.int .i64 x.f2) by simp)
    have HG3:=Aside0.mk (grown_then HG2.out hb2)
    have HR3:=Aside0.mk (Kd.R_below HR2.out hb2)
    clear hb2 HG2 HR2 x0 x1 x2 HC
    have hxl : l[b] = x:=by rw [← Qat _ _ hlt2]; exact HXE.out
    have hD2 : xs.drop (b + 1) = l.drop (b + 1):=by
     have:=HD.out
     rw [List.drop_eq_getElem_cons (show b < xs.length by omega),List.drop_eq_getElem_cons hlt2] at this
     injection this
    have HD2:=Aside0.mk hD2
    have hF2:=HF.out
    cases hp : p x with
    | true =>
     have hF3 : xs.take a = (l.take (b + 1)).filter (fun x => !p x):=by
      rw [List.take_succ_eq_append_getElem hlt2,List.filter_append,hxl,← hF2]; simp [hp]
     have HF3:=Aside0.mk hF3
     clear hF3 hF2 hD2 hp HF HD hxl
     go_wp2
     go_roundg g'
     case measure => omega
     case rel => exact ⟨a,b + 1,xs,by omega,by omega,by omega,rfl,by go_num,HL,HF3,HD2,HR3,HG3⟩
    | false =>
     have hF3 : (xs.set a x).take (a + 1) = (l.take (b + 1)).filter (fun x => !p x):=by
      rw [List.take_succ_eq_append_getElem hlt2,List.filter_append,hxl,← hF2,List.take_succ_eq_append_getElem (by simp; omega),List.take_set_of_le (Nat.le_refl a)]; simp [hp]
     have HF3:=Aside0.mk hF3
     have HL3:=Aside0.mk (show (xs.set a x).length = l.length by rw [List.length_set]; exact HLT)
     have HD3:=Aside0.mk (show (xs.set a x).drop (b + 1) = l.drop (b + 1) by rw [List.drop_set_of_lt (by omega)]; exact hD2)
     obtain ⟨cs,hcl,_,hcc,hff⟩:=Kd.R_elem HR3.out zElem (a : Int) (by omega) (by omega)
     have hcl3 : cs.length = 3:=hcl
     have hR4:=RE_set HR3.out a (by omega) x
     have HR4:=Aside0.mk hR4.1
     have HG4:=Aside0.mk (grown_grown HG3.out hR4.2)
     obtain ⟨q0,q1,q2,rfl⟩ : ∃ q0 q1 q2,cs = [q0,q1,q2]:=by
      match cs,hcl3 with
      | [q0,q1,q2],_ => exact ⟨q0,q1,q2,rfl⟩
     have e0 : w2.cell? ⟨g,a * 3,none⟩ = some q0:=hcc 0 _ rfl
     have e1 : w2.cell? ⟨g,a * 3 + 1,none⟩ = some q1:=hcc 1 _ rfl
     have e2 : w2.cell? ⟨g,a * 3 + 2,none⟩ = some q2:=hcc 2 _ rfl
     have f0 : w2.frozen? ⟨g,a * 3,none⟩ = false:=hff 0
     have f1 : w2.frozen? ⟨g,a * 3 + 1,none⟩ = false:=hff 1
     have f2 : w2.frozen? ⟨g,a * 3 + 2,none⟩ = false:=hff 2
     clear hF3 hF2 hD2 hp HF HD hxl hR4 hcc hff hcl hcl3 HG3 HR3
     go_wp2
     go_roundg g'
     case measure => omega
     case rel => exact ⟨a + 1,b + 1,xs.set a x,by omega,by omega,by omega,by go_num,by go_num,HL3,HF3,HD3,HR4,HG4⟩
   ·obtain rfl : b = l.length:=by omega
    have hltz : ¬ (l.length : Int) < (l.length : Int):=by omega
    obtain ⟨r1,r2,r3,r4⟩:=RE_clear HR.out a (by omega) (zs (l.length - a)) (by rw [zs_len]; omega)
    have HR5:=Aside0.mk r1
    have HG5:=Aside0.mk (grown_grown HG.out r2)
    have hcl : ∀ ty,(Builtin.clear_ #[23] ty #[.slice (some ⟨g,a * 3,none⟩) (l.length - a) (c - a)]).run Tryd.prog wr = .ok (.tuple #[]) (wr.setCells g (a * 3) (zs (l.length - a))) :=
     fun ty => run_clear_elem wr ty g (a * 3) _ _ (by omega) (fun j hj => r3 _ (by omega)) (fun j hj => r4 _)
    have hF5:=HF.out
    rw [List.take_length] at hF5
    have HF5:=Aside0.mk hF5
    have hnc:=(Kd.R_reads' HR.out).2.1
    have hac : c ≠ a:=by omega
    have hac1 : (a : Int) ≤ (c : Int):=by omega
    have hac2 : ¬ (c : Int) < (a : Int):=by omega
    clear r1 r2 r3 r4 HR HG HD HF hF5
    go_wp2
    go_ret
    exact ⟨_,rfl,by rw [← HF5.out]; exact HR5.out,HG5.out⟩
 ·go_wp2
  go_ret
  have hb1 : Below w.heap.size w w1:=by rcases HP.out with ⟨_,_,_,_,h⟩ | ⟨_,h⟩ <;> exact h
  refine ⟨_,rfl, ?_,grown_of_below hb1 _⟩
  have : l.filter (fun x => !p x) = l:=by
   rw [List.filter_eq_self]
   intro x hx
   obtain ⟨j,hj,rfl⟩:=List.getElem_of_mem hx
   have:=hno j hj
   rw [Qat _ _ hj] at this
   simp [this]
  rw [this]
  exact Kd.R_below H0.out hb1
end
section
abbrev MapE (w : World) (b n : Nat) (S : Int × Int × Int → Bool) : Prop:=MapB encE 43 4 w b n S
theorem seen1_calls (c1 c2 b1 b2 n1 n2 : Nat) (x : SElem) (G T : Int × Int × Int → Bool) (W : World) (h1 : W.cell? ⟨c1,0,none⟩ = some (.map (some b1))) (h2 : W.cell? ⟨c2,0,none⟩ = some (.map (some b2)))
  (hG : MapE W b1 n1 G) (hT : MapE W b2 n2 T) (hx : inI x.f0 ∧ inI x.f1 ∧ inI x.f2) :
  Calls Tryd.prog 111 #[elV x, .pointer (some ⟨c1,0,none⟩), .pointer (some ⟨c2,0,none⟩)] W fun e w' => e = .returned (.bool (G (x.f0,x.f1,x.f2) || !T (x.f0,x.f1,x.f2))) ∧ Below W.heap.size W w':=by
 have l1:=World.block_lt_of_cell? W _ h1
 have l2:=World.block_lt_of_cell? W _ h2
 simp only at l1 l2
 obtain ⟨kl,hkl⟩:=keyE (x:=(x.f0,x.f1,x.f2)) hx.1 hx.2.1 hx.2.2
 have hal : Below W.heap.size W (W.alloc (.cells #[.int .i64 x.f0, .int .i64 x.f1, .int .i64 x.f2] 43)):=Qag (Below.refl _ _) _
 have k1:=(hG.below hal hG.lt).look lawE Tryd.underlying117 Tryd.underlying4 zeroB (x.f0,x.f1,x.f2) hkl
 have k2:=(hT.below hal hT.lt).look lawE Tryd.underlying117 Tryd.underlying4 zeroB (x.f0,x.f1,x.f2) hkl
 have d1:=Qac hal h1
 have d2:=Qac hal h2
 simp only [encE] at k1 k2
 have HAL:=Aside0.mk hal
 unfold elV
 generalize hg : G (x.f0,x.f1,x.f2) = gq at k1 ⊢
 generalize ht : T (x.f0,x.f1,x.f2) = tq at k2 ⊢
 clear hG hT hx hkl hal h1 h2 hg ht
 cases gq
 ·go_enter Tryd.func111,Tryd.ntmps111
  go_wp2
  go_ret
  exact ⟨rfl,HAL.out⟩
 ·go_enter Tryd.func111,Tryd.ntmps111
  go_wp2
  go_ret
  exact ⟨rfl,HAL.out⟩
end
section
attribute [local go_sem] Qbp Qbn Qby Qbx Qbc Qbb Qbo Qbm
def op_All.l0 : Nat → List (SElem) → Int → Int → Int → Int → Int → Int → Int → Int → ByteArray → List (SElem) → Int → Int → Int → Option ((List (SElem)))
 | 0,_,_,_,_,_,_,_,_,_,_,_,_,_,_ => none
 | k + 1,x2,x5,x6,x295000,x295001,x295002,x295003,x295004,x295005,x295006,x295007,x295008,x295009,x295010 => if x6 < x5 then ((op_At.f x295000 x295001 x295002 x295003 x295004 x295005 x295006 x295007 x295008 x295009 x295010 x6).bind fun bt296 => (if x2.length < 5864062014805 then (op_All.l0 k (x2 ++ [(⟨bt296.1,bt296.2.1,bt296.2.2⟩ : SElem)]) x5 (wrap64 (x6 + 1)) x295000 x295001 x295002 x295003 x295004 x295005 x295006 x295007 x295008 x295009 x295010) else (none))) else (some x2)
def op_All.f (k : Nat) (a0_0 : Int) (a0_1 : Int) (a0_2 : Int) (a0_3 : Int) (a0_4 : Int) (a0_5 : Int) (a0_6 : ByteArray) (l0_7 : List (SElem)) (a0_8 : Int) (a0_9 : Int) (a0_10 : Int) : Option ((List (SElem))):=(op_Size.f a0_0 a0_1 a0_2 a0_3 a0_4 a0_5 a0_6 l0_7 a0_8 a0_9 a0_10).bind fun t295 => (op_All.l0 k ([] : List (SElem)) t295 0 a0_0 a0_1 a0_2 a0_3 a0_4 a0_5 a0_6 l0_7 a0_8 a0_9 a0_10)
theorem op_All.calls (k : Nat) (a0_0 : Int) (a0_1 : Int) (a0_2 : Int) (a0_3 : Int) (a0_4 : Int) (a0_5 : Int) (a0_6 : ByteArray) (A0_7 : Option Addr) (c0_7 : Nat) (l0_7 : List (SElem)) (a0_8 : Int) (a0_9 : Int) (a0_10 : Int) (r : List (SElem)) (w : World) (hr0_7 : Kd.C Qaq w A0_7 l0_7.length l0_7) (hc0_7 : l0_7.length ≤ c0_7) (h : op_All.f k a0_0 a0_1 a0_2 a0_3 a0_4 a0_5 a0_6 l0_7 a0_8 a0_9 a0_10 = some r) :
  Calls Tryd.prog 93 #[.agg #[.int .i64 a0_0, .int .i64 a0_1, .int .i64 a0_2, .int .i64 a0_3, .int .i64 a0_4, .int .i64 a0_5, .string a0_6, .slice A0_7 l0_7.length c0_7, .int .i64 a0_8, .int .i64 a0_9, .int .i64 a0_10]] w fun e w' => ∃ v0_ : Value,e = .returned (v0_) ∧ Kd.R Qaq 43 w' w.heap.size (fun _ => True) v0_ r ∧ Below w.heap.size w w':=by
 have hu55:=Tryd.underlying55
 have HR0_7:=Aside0.mk hr0_7
 have HC0_7:=Aside0.mk hc0_7
 clear hr0_7 hc0_7
 have HB:=Aside0.mk (Below.refl w.heap.size w)
 unfold op_All.f at h; have H:=h
 clear h
 obtain ⟨t295,A2,H⟩:=bE H
 have H':=Aside0.mk H
 clear H
 go_enter Tryd.func93,Tryd.ntmps93
 go_wp2_with (first | ((with_reducible refine Qae (N:=1) rfl ?_); refine bx 1 #[.int .i64 a0_0, .int .i64 a0_1, .int .i64 a0_2, .int .i64 a0_3, .int .i64 a0_4, .int .i64 a0_5, .string a0_6, .slice A0_7 l0_7.length c0_7, .int .i64 a0_8, .int .i64 a0_9, .int .i64 a0_10] 55 (h := ?_); intro gb294 hg w3 hbox hb; have BK294:=Aside0.mk (hbox); have GW294:=bz HB hg; have GE294:=bz HB hg; replace HB:=bs HB hb; clear hb hbox hg; obtain ⟨_,_,_,_,_,_,_,_,_,_,_,_,_,_,_,_,_,_,_,_,_,_⟩:=kc11 BK294) | ((with_reducible refine Qab (f:=95) rfl ?_); refine gl (some 5) Tryd.func95 #[.agg #[.int .i64 a0_0, .int .i64 a0_1, .int .i64 a0_2, .int .i64 a0_3, .int .i64 a0_4, .int .i64 a0_5, .string a0_6, .slice A0_7 l0_7.length c0_7, .int .i64 a0_8, .int .i64 a0_9, .int .i64 a0_10]] (h := ?_); (with_reducible refine (op_Size.calls a0_0 a0_1 a0_2 a0_3 a0_4 a0_5 a0_6 _ _ l0_7 a0_8 a0_9 a0_10 t295 _ ?side1 ?side2 A2.out).mono ?_); (case side1 => exact cb HR0_7 HB); (case side2 => exact HC0_7.out); rintro e w5 ⟨rfl,hb⟩; refine ⟨_,rfl, ?_⟩; replace BK294:=bl BK294 hb; replace HB:=bs HB hb; clear hb))
 go_loopg [2,6] k (fun kq v2 v6 w' => ∃ (x2_1 : List (SElem)) (x6_1 : Int),v6 = .int .i64 x6_1 ∧ Aside0 (op_All.l0 kq x2_1 t295 x6_1 a0_0 a0_1 a0_2 a0_3 a0_4 a0_5 a0_6 l0_7 a0_8 a0_9 a0_10 = some r) ∧ Aside0 (kq ≤ k) ∧ Aside0 (Kd.R Qaq 43 w' w.heap.size (fun _ => True) v2 x2_1) ∧ Aside0 (w'.heap[gb294]? = some (.cells #[.int .i64 a0_0, .int .i64 a0_1, .int .i64 a0_2, .int .i64 a0_3, .int .i64 a0_4, .int .i64 a0_5, .string a0_6,(.slice A0_7 l0_7.length c0_7), .int .i64 a0_8, .int .i64 a0_9, .int .i64 a0_10] 55 (0,0))) ∧ Aside0 (Below w.heap.size w w'))
 case atStart => exact ⟨(([] : List (SElem))),(0),rf,H',⟨Nat.le_refl _⟩,⟨by first | exact Kd.R_nil _ _ _ _ _ | exact Kd.N_nil _ _ _ _ _ | exact Kd.V_nil _ _ _ _ _ | exact Kd.Q_nil _ _ _ _ _ | exact Kd.S_nil _ _ _ _ _⟩,⟨kk BK294⟩,⟨bw HB⟩⟩
 case round =>
  clear H'
  obtain ⟨x2_1,x6_1,rfl,HA,HK1,HO_2,BK294,HB⟩:=hrel
  cases gk with
  | zero => exact absurd HA.out (by simp [op_All.l0])
  | succ k1 =>
   have H:=HA.out
   clear HA
   simp only [op_All.l0] at H
   by_cases c6 : x6_1 < t295; rotate_left
   ·rw [if_neg c6] at H
    have c6b0:=decide_eq_false c6
    clear c6
    obtain rfl:=Option.some.inj H
    go_wp2
    go_ret
    exact ⟨_,re,by (with_reducible repeat (first | apply Kd.R_alloc | apply Kd.R_drewN | apply Kd.R_drew)); exact HO_2.out,bw HB⟩
   rw [if_pos c6] at H
   have c6b0:=decide_eq_true c6
   clear c6
   obtain ⟨⟨t296,t297,t298⟩,A7,H⟩:=bE H
   try dsimp only at H
   by_cases c8 : x2_1.length < 5864062014805; rotate_left
   ·rw [if_neg c8] at H
    exact absurd H (by simp)
   rw [if_pos c8] at H
   have LMc8:=Aside0.mk c8
   clear c8
   obtain ⟨y299,hy299⟩ : ∃ y_ : List (SElem),y_ = (x2_1 ++ [(⟨t296,t297,t298⟩ : SElem)]):=⟨_,rfl⟩
   first | rw [Option.bind_some,← hy299] at H | rw [← hy299] at H
   have Ny299:=Aside0.mk hy299
   clear hy299
   have H':=Aside0.mk H
   clear H
   obtain ⟨_,_,_,_,_,_,_,_,_,_,_,_,_,_,_,_,_,_,_,_,_,_⟩:=kc11 BK294
   go_wp2_with (first | ((with_reducible refine Qab (f:=96) rfl ?_); refine gl (some 12) Tryd.func96 #[.agg #[.int .i64 a0_0, .int .i64 a0_1, .int .i64 a0_2, .int .i64 a0_3, .int .i64 a0_4, .int .i64 a0_5, .string a0_6, .slice A0_7 l0_7.length c0_7, .int .i64 a0_8, .int .i64 a0_9, .int .i64 a0_10], .int .i64 x6_1] (h := ?_); (with_reducible refine (op_At.calls a0_0 a0_1 a0_2 a0_3 a0_4 a0_5 a0_6 _ _ l0_7 a0_8 a0_9 a0_10 x6_1 t296 t297 t298 _ ?side1 ?side2 A7.out).mono ?_); (case side1 => exact cb HR0_7 HB); (case side2 => exact HC0_7.out); rintro e w10 ⟨rfl,hb⟩; refine ⟨_,rfl, ?_⟩; replace HO_2:=rb HO_2 hb; replace BK294:=bl BK294 hb; replace HB:=bs HB hb; clear hb) | ((with_reducible refine Qcf (b:=.append) (xs:=#[.tmp 9, .tmp 13]) rfl ?_); at_builtin; refine Kd.R_append Qaq (w0:=w) w.heap.size rfl (.tmp 9) (.tmp 13) 23 43 (.agg #[(.int .i64 0),(.int .i64 0),(.int .i64 0)]) 24 rfl Tryd.underlying23 info43 rfl (by decide) (by omega) u2 x2_1 (⟨t296,t297,t298⟩ : SElem) [.int .i64 t296, .int .i64 t297, .int .i64 t298] (fun _ => True) (fun _ => False) rfl rfl ?aP (fun _ hk => hk.elim) ?aF ?aO ?aB ?aS ?aL ?_; (case aP => exact Qbs _ _ _ (⟨t296,t297,t298⟩ : SElem)); (case aB => exact (bw HB)); (case aF => exact (fun _ _ => trivial)); (case aO => exact (rk HO_2)); (case aS => exact (Qai (bw HB))); (case aL => have:=LMc8.out; omega); intro v300 w11 ho hb hg hat; rw [← Ny299.out] at ho; have n0_:=Aside0.mk (Qcm (kk BK294) hg (Kd.R_ne HO_2.out BK294.out (by decide))); have n1_:=Aside0.mk (hb); have n2_:=Aside0.mk (ho); clear BK294; clear HB; clear HO_2; have BK294:=n0_; have HB:=n1_; have HO301:=n2_; clear n0_ n1_ n2_; clear ho hb hg hat))
   go_roundg k1
   case measure => have:=HK1.out; omega
   case rel => exact ⟨(y299),(wrap64 (x6_1 + 1)),rf,H',⟨by have:=HK1.out; omega⟩,⟨rk HO301⟩,⟨kk BK294⟩,⟨bw HB⟩⟩
def doc_Counts.l0 : Nat → List (SOp) → List Int → List (SOp) → Int → Int → Option (List Int)
 | 0,_,_,_,_,_ => none
 | k + 1,x0,x3,x10,x11,x12 => if x12 < x11 then (if 0 ≤ x12 then (if x12 < (x10.length : Int) then (if ((Qad x10 x12).f2) = 2 then ((tree_Find.f x0 ((Qad x10 x12).f6) ((Qad x10 x12).f7)).bind fun t307 => (if 0 ≤ t307 then (if t307 < (x3.length : Int) then (if ((Qad x10 x12).f8) = (rd x3 t307) then (doc_Counts.l0 k x0 (x3.set (t307 : Int).toNat (wrap64 ((rd x3 t307) + 1))) x10 x11 (wrap64 (x12 + 1))) else (doc_Counts.l0 k x0 x3 x10 x11 (wrap64 (x12 + 1)))) else (none)) else (none))) else (doc_Counts.l0 k x0 x3 x10 x11 (wrap64 (x12 + 1)))) else (none)) else (none)) else (some x3)
def doc_Counts.f (k : Nat) (l0 : List (SOp)) : Option (List Int):=if 0 ≤ (l0.length : Int) then (if ((l0.length : Int) : Int).toNat ≤ 35184372088832 then (doc_Counts.l0 k l0 (List.replicate ((l0.length : Int) : Int).toNat 0) l0 (l0.length : Int) 0) else (none)) else (none)
theorem doc_Counts.calls (k : Nat) (A0 : Option Addr) (c0 : Nat) (l0 : List (SOp)) (r : List Int) (w : World) (hr0 : Kd.C kOp w A0 l0.length l0) (hc0 : l0.length ≤ c0) (h : doc_Counts.f k l0 = some r) :
  Calls Tryd.prog 134 #[.slice A0 l0.length c0] w fun e w' => ∃ v0_ : Value,e = .returned (v0_) ∧ Kd.R (Kd.int .i64) 3 w' w.heap.size (fun _ => True) v0_ r ∧ Below w.heap.size w w':=by
 have hu55:=Tryd.underlying55
 have HR0:=Aside0.mk hr0
 have HC0:=Aside0.mk hc0
 clear hr0 hc0
 have HB:=Aside0.mk (Below.refl w.heap.size w)
 unfold doc_Counts.f at h; have H:=h
 clear h
 by_cases c2 : 0 ≤ (l0.length : Int); rotate_left
 ·rw [if_neg c2] at H
  exact absurd H (by simp)
 rw [if_pos c2] at H
 have c2b0:=eq_true c2
 have c2b1:=decide_eq_true c2
 clear c2
 by_cases c3 : ((l0.length : Int) : Int).toNat ≤ 35184372088832; rotate_left
 ·rw [if_neg c3] at H
  exact absurd H (by simp)
 rw [if_pos c3] at H
 have c3b0:=eq_true c3
 have c3b1:=decide_eq_true c3
 clear c3
 obtain ⟨y302,hy302⟩ : ∃ y_ : List Int,y_ = (List.replicate ((l0.length : Int) : Int).toNat 0):=⟨_,rfl⟩
 first | rw [Option.bind_some,← hy302] at H | rw [← hy302] at H
 have Ny302:=Aside0.mk hy302
 clear hy302
 have H':=Aside0.mk H
 clear H
 go_enter Tryd.func134,Tryd.ntmps134
 go_wp2_with (first | ((with_reducible refine Qae (N:=9) rfl ?_); refine Kd.R_make (Kd.int .i64) _ 3 rfl (N:=9) rfl 25 _ _ rfl (l0.length : Int) rfl rfl Tryd.underlying25 (.int .i64 0) 8 info3 rfl (by decide) (by omega) 0 (ok:=fun _ => True) (okp:=fun _ => True) rfl (fun _ hk => hk) trivial (od) (Nat.le_trans (Nat.mul_le_mul_right _ (od : (l0.length : Int).toNat ≤ 35184372088832)) (by omega)) (Below.refl _ _) (Nat.le_refl _) ?_; intro v303 w4 ho5 hb hg_ hnew_; clear hg_ hnew_; (first | rw [← Ny302.out] at ho5 | (simp only [Int.reduceToNat] at ho5; rw [← Ny302.out] at ho5)); have HO304:=Aside0.mk (Kd.R_lower ho5 (Qai (bw HB))); replace HB:=bs HB hb; clear hb ho5))
 repeat (go_quiet (first | ((with_reducible refine Qae (N:=9) rfl ?_); refine Kd.R_make (Kd.int .i64) _ 3 rfl (N:=9) rfl 25 _ _ rfl (l0.length : Int) rfl rfl Tryd.underlying25 (.int .i64 0) 8 info3 rfl (by decide) (by omega) 0 (ok:=fun _ => True) (okp:=fun _ => True) rfl (fun _ hk => hk) trivial (od) (Nat.le_trans (Nat.mul_le_mul_right _ (od : (l0.length : Int).toNat ≤ 35184372088832)) (by omega)) (Below.refl _ _) (Nat.le_refl _) ?_; intro v303 w4 ho5 hb hg_ hnew_; clear hg_ hnew_; (first | rw [← Ny302.out] at ho5 | (simp only [Int.reduceToNat] at ho5; rw [← Ny302.out] at ho5)); have HO304:=Aside0.mk (Kd.R_lower ho5 (Qai (bw HB))); replace HB:=bs HB hb; clear hb ho5)); try go_wp2_with (first | ((with_reducible refine Qae (N:=9) rfl ?_); refine Kd.R_make (Kd.int .i64) _ 3 rfl (N:=9) rfl 25 _ _ rfl (l0.length : Int) rfl rfl Tryd.underlying25 (.int .i64 0) 8 info3 rfl (by decide) (by omega) 0 (ok:=fun _ => True) (okp:=fun _ => True) rfl (fun _ hk => hk) trivial (od) (Nat.le_trans (Nat.mul_le_mul_right _ (od : (l0.length : Int).toNat ≤ 35184372088832)) (by omega)) (Below.refl _ _) (Nat.le_refl _) ?_; intro v303 w4 ho5 hb hg_ hnew_; clear hg_ hnew_; (first | rw [← Ny302.out] at ho5 | (simp only [Int.reduceToNat] at ho5; rw [← Ny302.out] at ho5)); have HO304:=Aside0.mk (Kd.R_lower ho5 (Qai (bw HB))); replace HB:=bs HB hb; clear hb ho5)))
 go_loopg [12] k (fun kq v12 w' => ∃ (x3_1 : List Int) (x12_1 : Int),v12 = .int .i64 x12_1 ∧ Aside0 (doc_Counts.l0 kq l0 x3_1 l0 (l0.length : Int) x12_1 = some r) ∧ Aside0 (kq ≤ k) ∧ Aside0 (Kd.R (Kd.int .i64) 3 w' w.heap.size (fun _ => True) v303 x3_1) ∧ Aside0 (Below w.heap.size w w'))
 case atStart => exact ⟨(y302),(0),rf,H',⟨Nat.le_refl _⟩,⟨rk HO304⟩,⟨bw HB⟩⟩
 case round =>
  clear H'
  try clear c2b0; try clear c2b1; try clear c3b0; try clear c3b1
  obtain ⟨x3_1,x12_1,rfl,HA,HK1,HO_3,HB⟩:=hrel
  cases gk with
  | zero => exact absurd HA.out (by simp [doc_Counts.l0])
  | succ k1 =>
   have H:=HA.out
   clear HA
   simp only [doc_Counts.l0] at H
   by_cases c6 : x12_1 < (l0.length : Int); rotate_left
   ·rw [if_neg c6] at H
    have c6b0:=decide_eq_false c6
    clear c6
    obtain rfl:=Option.some.inj H
    go_wp2
    repeat (go_quiet (fail); try go_wp2)
    go_ret
    exact ⟨_,re,by (with_reducible repeat (first | apply Kd.R_alloc | apply Kd.R_drewN | apply Kd.R_drew)); exact HO_3.out,bw HB⟩
   rw [if_pos c6] at H
   have c6b0:=decide_eq_true c6
   clear c6
   by_cases c7 : 0 ≤ x12_1; rotate_left
   ·rw [if_neg c7] at H
    exact absurd H (by simp)
   rw [if_pos c7] at H
   have c7b0:=decide_eq_true c7
   clear c7
   by_cases c8 : x12_1 < (l0.length : Int); rotate_left
   ·rw [if_neg c8] at H
    exact absurd H (by simp)
   rw [if_pos c8] at H
   have c8b0:=decide_eq_true c8
   clear c8
   by_cases c9 : ((Qad l0 x12_1).f2) = 2; rotate_left
   ·rw [if_neg c9] at H
    obtain ⟨c9b0,c9b1⟩:=bF c9
    have H':=Aside0.mk H
    clear H
    have p305 : 0 ≤ (x12_1 : Int):=od
    have q305 : x12_1 < (l0.length : Int):=od
    obtain ⟨ad305,A305_7,c305_7,e305,hx305_0,hx305_1,hx305_2,hx305_3,hx305_4,hx305_5,hx305_6,hx305_7,hx305_8,hx305_9,hx305_10,hl305_7,hi305_7⟩:=Qck HR0.out x12_1 p305 q305
    cases e305
    replace hx305_0:=cl HB hx305_0
    replace hx305_1:=cl HB hx305_1
    replace hx305_2:=cl HB hx305_2
    replace hx305_3:=cl HB hx305_3
    replace hx305_4:=cl HB hx305_4
    replace hx305_5:=cl HB hx305_5
    replace hx305_6:=cl HB hx305_6
    replace hx305_7:=cl HB hx305_7
    replace hx305_8:=cl HB hx305_8
    replace hx305_9:=cl HB hx305_9
    replace hx305_10:=cl HB hx305_10
    have HR305_7:=Aside0.mk hi305_7
    have HC305_7:=Aside0.mk hl305_7
    clear hi305_7 hl305_7
    replace p305:=eq_true p305
    replace q305:=eq_true q305
    go_wp2_with (first | ((with_reducible refine Qae (N:=5) rfl ?_); refine bx 5 #[.int .i64 0, .int .i64 0, .int .i64 0, .int .i64 0, .int .i64 0, .int .i64 0, .string (⟨#[]⟩ : ByteArray), .slice none 0 0, .int .i64 0, .int .i64 0, .int .i64 0] 55 (h := ?_); intro gb306 hg w27 hbox hb; have BK306:=Aside0.mk (hbox); have GW306:=bz HB hg; have GE306:=bz HB hg; replace HO_3:=rb HO_3 hb; replace HB:=bs HB hb; clear hb hbox hg; obtain ⟨_,_,_,_,_,_,_,_,_,_,_,_,_,_,_,_,_,_,_,_,_,_⟩:=kc11 BK306))
    repeat (go_quiet (first | ((with_reducible refine Qae (N:=5) rfl ?_); refine bx 5 #[.int .i64 0, .int .i64 0, .int .i64 0, .int .i64 0, .int .i64 0, .int .i64 0, .string (⟨#[]⟩ : ByteArray), .slice none 0 0, .int .i64 0, .int .i64 0, .int .i64 0] 55 (h := ?_); intro gb306 hg w27 hbox hb; have BK306:=Aside0.mk (hbox); have GW306:=bz HB hg; have GE306:=bz HB hg; replace HO_3:=rb HO_3 hb; replace HB:=bs HB hb; clear hb hbox hg; obtain ⟨_,_,_,_,_,_,_,_,_,_,_,_,_,_,_,_,_,_,_,_,_,_⟩:=kc11 BK306)); try go_wp2_with (first | ((with_reducible refine Qae (N:=5) rfl ?_); refine bx 5 #[.int .i64 0, .int .i64 0, .int .i64 0, .int .i64 0, .int .i64 0, .int .i64 0, .string (⟨#[]⟩ : ByteArray), .slice none 0 0, .int .i64 0, .int .i64 0, .int .i64 0] 55 (h := ?_); intro gb306 hg w27 hbox hb; have BK306:=Aside0.mk (hbox); have GW306:=bz HB hg; have GE306:=bz HB hg; replace HO_3:=rb HO_3 hb; replace HB:=bs HB hb; clear hb hbox hg; obtain ⟨_,_,_,_,_,_,_,_,_,_,_,_,_,_,_,_,_,_,_,_,_,_⟩:=kc11 BK306)))
    go_roundg k1
    case measure => have:=HK1.out; omega
    case rel => exact ⟨(x3_1),(wrap64 (x12_1 + 1)),rf,H',⟨by have:=HK1.out; omega⟩,⟨by (with_reducible repeat (first | apply Kd.R_alloc | apply Kd.R_drewN | apply Kd.R_drew)); exact Kd.R_mono (rf11 (Kd.R_types HO_3.out BK306.out (by decide))) (fun _ hk => trivial)⟩,⟨bw HB⟩⟩
   rw [if_pos c9] at H
   obtain ⟨c9b0,c9b1⟩:=bT c9
   clear c9
   obtain ⟨t307,A10,H⟩:=bE H
   by_cases c11 : 0 ≤ t307; rotate_left
   ·rw [if_neg c11] at H
    exact absurd H (by simp)
   rw [if_pos c11] at H
   have c11b0:=decide_eq_true c11
   clear c11
   by_cases c12 : t307 < (x3_1.length : Int); rotate_left
   ·rw [if_neg c12] at H
    exact absurd H (by simp)
   rw [if_pos c12] at H
   have c12b0:=decide_eq_true c12
   clear c12
   by_cases c13 : ((Qad l0 x12_1).f8) = (rd x3_1 t307); rotate_left
   ·rw [if_neg c13] at H
    obtain ⟨c13b0,c13b1⟩:=bF c13
    have H':=Aside0.mk H
    clear H
    have p305 : 0 ≤ (x12_1 : Int):=od
    have q305 : x12_1 < (l0.length : Int):=od
    obtain ⟨ad305,A305_7,c305_7,e305,hx305_0,hx305_1,hx305_2,hx305_3,hx305_4,hx305_5,hx305_6,hx305_7,hx305_8,hx305_9,hx305_10,hl305_7,hi305_7⟩:=Qck HR0.out x12_1 p305 q305
    cases e305
    replace hx305_0:=cl HB hx305_0
    replace hx305_1:=cl HB hx305_1
    replace hx305_2:=cl HB hx305_2
    replace hx305_3:=cl HB hx305_3
    replace hx305_4:=cl HB hx305_4
    replace hx305_5:=cl HB hx305_5
    replace hx305_6:=cl HB hx305_6
    replace hx305_7:=cl HB hx305_7
    replace hx305_8:=cl HB hx305_8
    replace hx305_9:=cl HB hx305_9
    replace hx305_10:=cl HB hx305_10
    have HR305_7:=Aside0.mk hi305_7
    have HC305_7:=Aside0.mk hl305_7
    clear hi305_7 hl305_7
    replace p305:=eq_true p305
    replace q305:=eq_true q305
    go_wp2_with (first | ((with_reducible refine Qae (N:=5) rfl ?_); refine bx 5 #[.int .i64 0, .int .i64 0, .int .i64 0, .int .i64 0, .int .i64 0, .int .i64 0, .string (⟨#[]⟩ : ByteArray), .slice none 0 0, .int .i64 0, .int .i64 0, .int .i64 0] 55 (h := ?_); intro gb306 hg w22 hbox hb; have BK306:=Aside0.mk (hbox); have GW306:=bz HB hg; have GE306:=bz HB hg; replace HO_3:=rb HO_3 hb; replace HB:=bs HB hb; clear hb hbox hg; obtain ⟨_,_,_,_,_,_,_,_,_,_,_,_,_,_,_,_,_,_,_,_,_,_⟩:=kc11 BK306) | (go_at_call 103; (with_reducible refine (tree_Find.calls _ _ l0 ((Qad l0 x12_1).f6) ((Qad l0 x12_1).f7) t307 _ ?side1 ?side2 A10.out).mono ?_); (case side1 => exact Kd.C_below HR0.out (bw HB)); (case side2 => exact HC0.out); rintro e w24 ⟨rfl,hb⟩; replace HO_3:=Aside0.mk (Kd.R_below (by (with_reducible repeat (first | apply Kd.R_alloc | apply Kd.R_drewN | apply Kd.R_drew)); exact (Kd.R_mono (rf11 (Kd.R_types HO_3.out BK306.out (by decide))) (fun _ h_ => h_.1))) hb); replace BK306:=Aside0.mk (Qbl (bp11 (kk BK306)) hb); replace HB:=bs HB hb; clear hb; obtain ⟨_,_,_,_,_,_,_,_,_,_,_,_,_,_,_,_,_,_,_,_,_,_⟩:=kc11 BK306; obtain ⟨Ao26,co26,eo26⟩:=Kd.R_slice HO_3.out; subst eo26; have p308 : 0 ≤ (t307 : Int):=od; have q308 : t307 < (x3_1.length : Int):=od; obtain ⟨ad308,e308,hx308_0⟩:=Kd.at_int (Kd.R_reads' HO_3.out).2.2 t307 p308 q308; cases e308; replace p308:=eq_true p308; replace q308:=eq_true q308))
    repeat (go_quiet (first | ((with_reducible refine Qae (N:=5) rfl ?_); refine bx 5 #[.int .i64 0, .int .i64 0, .int .i64 0, .int .i64 0, .int .i64 0, .int .i64 0, .string (⟨#[]⟩ : ByteArray), .slice none 0 0, .int .i64 0, .int .i64 0, .int .i64 0] 55 (h := ?_); intro gb306 hg w22 hbox hb; have BK306:=Aside0.mk (hbox); have GW306:=bz HB hg; have GE306:=bz HB hg; replace HO_3:=rb HO_3 hb; replace HB:=bs HB hb; clear hb hbox hg; obtain ⟨_,_,_,_,_,_,_,_,_,_,_,_,_,_,_,_,_,_,_,_,_,_⟩:=kc11 BK306) | (go_at_call 103; (with_reducible refine (tree_Find.calls _ _ l0 ((Qad l0 x12_1).f6) ((Qad l0 x12_1).f7) t307 _ ?side1 ?side2 A10.out).mono ?_); (case side1 => exact Kd.C_below HR0.out (bw HB)); (case side2 => exact HC0.out); rintro e w24 ⟨rfl,hb⟩; replace HO_3:=Aside0.mk (Kd.R_below (by (with_reducible repeat (first | apply Kd.R_alloc | apply Kd.R_drewN | apply Kd.R_drew)); exact (Kd.R_mono (rf11 (Kd.R_types HO_3.out BK306.out (by decide))) (fun _ h_ => h_.1))) hb); replace BK306:=Aside0.mk (Qbl (bp11 (kk BK306)) hb); replace HB:=bs HB hb; clear hb; obtain ⟨_,_,_,_,_,_,_,_,_,_,_,_,_,_,_,_,_,_,_,_,_,_⟩:=kc11 BK306; obtain ⟨Ao26,co26,eo26⟩:=Kd.R_slice HO_3.out; subst eo26; have p308 : 0 ≤ (t307 : Int):=od; have q308 : t307 < (x3_1.length : Int):=od; obtain ⟨ad308,e308,hx308_0⟩:=Kd.at_int (Kd.R_reads' HO_3.out).2.2 t307 p308 q308; cases e308; replace p308:=eq_true p308; replace q308:=eq_true q308)); try go_wp2_with (first | ((with_reducible refine Qae (N:=5) rfl ?_); refine bx 5 #[.int .i64 0, .int .i64 0, .int .i64 0, .int .i64 0, .int .i64 0, .int .i64 0, .string (⟨#[]⟩ : ByteArray), .slice none 0 0, .int .i64 0, .int .i64 0, .int .i64 0] 55 (h := ?_); intro gb306 hg w22 hbox hb; have BK306:=Aside0.mk (hbox); have GW306:=bz HB hg; have GE306:=bz HB hg; replace HO_3:=rb HO_3 hb; replace HB:=bs HB hb; clear hb hbox hg; obtain ⟨_,_,_,_,_,_,_,_,_,_,_,_,_,_,_,_,_,_,_,_,_,_⟩:=kc11 BK306) | (go_at_call 103; (with_reducible refine (tree_Find.calls _ _ l0 ((Qad l0 x12_1).f6) ((Qad l0 x12_1).f7) t307 _ ?side1 ?side2 A10.out).mono ?_); (case side1 => exact Kd.C_below HR0.out (bw HB)); (case side2 => exact HC0.out); rintro e w24 ⟨rfl,hb⟩; replace HO_3:=Aside0.mk (Kd.R_below (by (with_reducible repeat (first | apply Kd.R_alloc | apply Kd.R_drewN | apply Kd.R_drew)); exact (Kd.R_mono (rf11 (Kd.R_types HO_3.out BK306.out (by decide))) (fun _ h_ => h_.1))) hb); replace BK306:=Aside0.mk (Qbl (bp11 (kk BK306)) hb); replace HB:=bs HB hb; clear hb; obtain ⟨_,_,_,_,_,_,_,_,_,_,_,_,_,_,_,_,_,_,_,_,_,_⟩:=kc11 BK306; obtain ⟨Ao26,co26,eo26⟩:=Kd.R_slice HO_3.out; subst eo26; have p308 : 0 ≤ (t307 : Int):=od; have q308 : t307 < (x3_1.length : Int):=od; obtain ⟨ad308,e308,hx308_0⟩:=Kd.at_int (Kd.R_reads' HO_3.out).2.2 t307 p308 q308; cases e308; replace p308:=eq_true p308; replace q308:=eq_true q308)))
    go_roundg k1
    case measure => have:=HK1.out; omega
    case rel => exact ⟨(x3_1),(wrap64 (x12_1 + 1)),rf,H',⟨by have:=HK1.out; omega⟩,⟨rk HO_3⟩,⟨bw HB⟩⟩
   rw [if_pos c13] at H
   obtain ⟨c13b0,c13b1⟩:=bT c13
   clear c13
   obtain ⟨y310,hy310⟩ : ∃ y_ : List Int,y_ = (x3_1.set (t307 : Int).toNat (wrap64 ((rd x3_1 t307) + 1))):=⟨_,rfl⟩
   first | rw [Option.bind_some,← hy310] at H | rw [← hy310] at H
   have Ny310:=Aside0.mk hy310
   clear hy310
   have H':=Aside0.mk H
   clear H
   have p305 : 0 ≤ (x12_1 : Int):=od
   have q305 : x12_1 < (l0.length : Int):=od
   obtain ⟨ad305,A305_7,c305_7,e305,hx305_0,hx305_1,hx305_2,hx305_3,hx305_4,hx305_5,hx305_6,hx305_7,hx305_8,hx305_9,hx305_10,hl305_7,hi305_7⟩:=Qck HR0.out x12_1 p305 q305
   cases e305
   replace hx305_0:=cl HB hx305_0
   replace hx305_1:=cl HB hx305_1
   replace hx305_2:=cl HB hx305_2
   replace hx305_3:=cl HB hx305_3
   replace hx305_4:=cl HB hx305_4
   replace hx305_5:=cl HB hx305_5
   replace hx305_6:=cl HB hx305_6
   replace hx305_7:=cl HB hx305_7
   replace hx305_8:=cl HB hx305_8
   replace hx305_9:=cl HB hx305_9
   replace hx305_10:=cl HB hx305_10
   have HR305_7:=Aside0.mk hi305_7
   have HC305_7:=Aside0.mk hl305_7
   clear hi305_7 hl305_7
   replace p305:=eq_true p305
   replace q305:=eq_true q305
   go_wp2_with (first | ((with_reducible refine Qae (N:=5) rfl ?_); refine bx 5 #[.int .i64 0, .int .i64 0, .int .i64 0, .int .i64 0, .int .i64 0, .int .i64 0, .string (⟨#[]⟩ : ByteArray), .slice none 0 0, .int .i64 0, .int .i64 0, .int .i64 0] 55 (h := ?_); intro gb306 hg w15 hbox hb; have BK306:=Aside0.mk (hbox); have GW306:=bz HB hg; have GE306:=bz HB hg; replace HO_3:=rb HO_3 hb; replace HB:=bs HB hb; clear hb hbox hg; obtain ⟨_,_,_,_,_,_,_,_,_,_,_,_,_,_,_,_,_,_,_,_,_,_⟩:=kc11 BK306) | (go_at_call 103; (with_reducible refine (tree_Find.calls _ _ l0 ((Qad l0 x12_1).f6) ((Qad l0 x12_1).f7) t307 _ ?side1 ?side2 A10.out).mono ?_); (case side1 => exact Kd.C_below HR0.out (bw HB)); (case side2 => exact HC0.out); rintro e w17 ⟨rfl,hb⟩; replace HO_3:=Aside0.mk (Kd.R_below (by (with_reducible repeat (first | apply Kd.R_alloc | apply Kd.R_drewN | apply Kd.R_drew)); exact (Kd.R_mono (rf11 (Kd.R_types HO_3.out BK306.out (by decide))) (fun _ h_ => h_.1))) hb); replace BK306:=Aside0.mk (Qbl (bp11 (kk BK306)) hb); replace HB:=bs HB hb; clear hb; obtain ⟨_,_,_,_,_,_,_,_,_,_,_,_,_,_,_,_,_,_,_,_,_,_⟩:=kc11 BK306; obtain ⟨Ao19,co19,eo19⟩:=Kd.R_slice HO_3.out; subst eo19; have p308 : 0 ≤ (t307 : Int):=od; have q308 : t307 < (x3_1.length : Int):=od; obtain ⟨ad308,e308,hx308_0⟩:=Kd.at_int (Kd.R_reads' HO_3.out).2.2 t307 p308 q308; cases e308; replace p308:=eq_true p308; replace q308:=eq_true q308; have p309 : 0 ≤ (t307 : Int):=od; have q309 : t307 < (x3_1.length : Int):=od; obtain ⟨ad309,e309,hx309_0⟩:=Kd.at_int (Kd.R_reads' HO_3.out).2.2 t307 p309 q309; obtain rfl : ad308 = ad309:=(by injection e309); replace p309:=eq_true p309; replace q309:=eq_true q309; have p14 : 0 ≤ (t307 : Int):=od; have q14 : (t307 : Int) < ((x3_1.length : Int) : Int):=od; obtain ⟨go14,co14,eo14,gb14,gl14,cl14,HG14⟩:=Kd.R_form HO_3.out (by omega); (first | cases eo14 | (injection eo14 with ea_ en_ ec_; (first | subst ea_ | (injection ea_ with ea_; subst ea_)); subst ec_; clear en_)); have GB14:=Aside0.mk gb14; have GG14:=Aside0.mk HG14; clear gb14 gl14 HG14; (first | simp only [Qcw] at hx308_0 | skip); (first | simp only [Qcw] at hx309_0 | skip); obtain ⟨hx14_0,hf14_0⟩:=Kd.R_celln 0 HO_3.out (t307 : Int) p14 q14; replace p14:=eq_true p14; replace q14:=eq_true q14; obtain ⟨hy20_,hz20_⟩:=Kd.R_celln 0 HO_3.out (t307 : Int) (od) (od); have HP20:=Kd.R_putg HO_3.out (t307 : Int) (wrap64 ((rd x3_1 t307) + 1))) | ((with_reducible refine gate_store (t:=3) (p:=37) rfl ?_); (try (rw [Qbw w17]; generalize hq_ : World.drewN w17 _ = w17; have n0_:=Aside0.mk (Kd.R_at hq_ HO_3.out); have n1_:=Aside0.mk (blk_at hq_ BK306.out); have n2_:=Aside0.mk (below_at hq_ HB.out); clear hq_ HO_3 BK306 HB; have HO_3:=n0_; have BK306:=n1_; have HB:=n2_; clear n0_ n1_ n2_; (try (obtain ⟨hy20_,hz20_⟩:=Kd.R_celln 0 HO_3.out (t307 : Int) (od) (od))); (try (have HP20:=Kd.R_putg HO_3.out (t307 : Int) (wrap64 ((rd x3_1 t307) + 1)))))); refine store_event (t:=3) (p:=37) (v := ?vo_w21) (w1:=(w17.setCell ⟨go14,(t307 : Int).toNat,none⟩ (.int .i64 (wrap64 ((rd x3_1 t307) + 1))))) ?hg ?ho ?hn ?hr ?_; (case ho => rfl); (case hg => rfl); (case hn => rfl); (case hr => first | (go_simp; done) | (go_simp; rfl)); intro w21 hw; have hg : w17.grownBy w21 (some go14):=(by rw [hw]; exact HP20.2); have hp_ : Kd.R (Kd.int .i64) 3 w21 w.heap.size (fun _ => True) (.slice (some ⟨go14,0,none⟩) x3_1.length co19) y310:=(by rw [hw,Ny310.out]; exact HP20.1); clear HP20; replace BK306:=Aside0.mk (Qcm (kk BK306) hg (Kd.R_ne HO_3.out BK306.out (by decide))); replace HO_3:=Aside0.mk (hp_); replace HB:=Aside0.mk ((by rw [hw]; exact Qda (HB.out) GB14.out : Below w.heap.size w w21)); clear hg hw hp_))
   repeat (go_quiet (first | ((with_reducible refine Qae (N:=5) rfl ?_); refine bx 5 #[.int .i64 0, .int .i64 0, .int .i64 0, .int .i64 0, .int .i64 0, .int .i64 0, .string (⟨#[]⟩ : ByteArray), .slice none 0 0, .int .i64 0, .int .i64 0, .int .i64 0] 55 (h := ?_); intro gb306 hg w15 hbox hb; have BK306:=Aside0.mk (hbox); have GW306:=bz HB hg; have GE306:=bz HB hg; replace HO_3:=rb HO_3 hb; replace HB:=bs HB hb; clear hb hbox hg; obtain ⟨_,_,_,_,_,_,_,_,_,_,_,_,_,_,_,_,_,_,_,_,_,_⟩:=kc11 BK306) | (go_at_call 103; (with_reducible refine (tree_Find.calls _ _ l0 ((Qad l0 x12_1).f6) ((Qad l0 x12_1).f7) t307 _ ?side1 ?side2 A10.out).mono ?_); (case side1 => exact Kd.C_below HR0.out (bw HB)); (case side2 => exact HC0.out); rintro e w17 ⟨rfl,hb⟩; replace HO_3:=Aside0.mk (Kd.R_below (by (with_reducible repeat (first | apply Kd.R_alloc | apply Kd.R_drewN | apply Kd.R_drew)); exact (Kd.R_mono (rf11 (Kd.R_types HO_3.out BK306.out (by decide))) (fun _ h_ => h_.1))) hb); replace BK306:=Aside0.mk (Qbl (bp11 (kk BK306)) hb); replace HB:=bs HB hb; clear hb; obtain ⟨_,_,_,_,_,_,_,_,_,_,_,_,_,_,_,_,_,_,_,_,_,_⟩:=kc11 BK306; obtain ⟨Ao19,co19,eo19⟩:=Kd.R_slice HO_3.out; subst eo19; have p308 : 0 ≤ (t307 : Int):=od; have q308 : t307 < (x3_1.length : Int):=od; obtain ⟨ad308,e308,hx308_0⟩:=Kd.at_int (Kd.R_reads' HO_3.out).2.2 t307 p308 q308; cases e308; replace p308:=eq_true p308; replace q308:=eq_true q308; have p309 : 0 ≤ (t307 : Int):=od; have q309 : t307 < (x3_1.length : Int):=od; obtain ⟨ad309,e309,hx309_0⟩:=Kd.at_int (Kd.R_reads' HO_3.out).2.2 t307 p309 q309; obtain rfl : ad308 = ad309:=(by injection e309); replace p309:=eq_true p309; replace q309:=eq_true q309; have p14 : 0 ≤ (t307 : Int):=od; have q14 : (t307 : Int) < ((x3_1.length : Int) : Int):=od; obtain ⟨go14,co14,eo14,gb14,gl14,cl14,HG14⟩:=Kd.R_form HO_3.out (by omega); (first | cases eo14 | (injection eo14 with ea_ en_ ec_; (first | subst ea_ | (injection ea_ with ea_; subst ea_)); subst ec_; clear en_)); have GB14:=Aside0.mk gb14; have GG14:=Aside0.mk HG14; clear gb14 gl14 HG14; (first | simp only [Qcw] at hx308_0 | skip); (first | simp only [Qcw] at hx309_0 | skip); obtain ⟨hx14_0,hf14_0⟩:=Kd.R_celln 0 HO_3.out (t307 : Int) p14 q14; replace p14:=eq_true p14; replace q14:=eq_true q14; obtain ⟨hy20_,hz20_⟩:=Kd.R_celln 0 HO_3.out (t307 : Int) (od) (od); have HP20:=Kd.R_putg HO_3.out (t307 : Int) (wrap64 ((rd x3_1 t307) + 1))) | ((with_reducible refine gate_store (t:=3) (p:=37) rfl ?_); (try (rw [Qbw w17]; generalize hq_ : World.drewN w17 _ = w17; have n0_:=Aside0.mk (Kd.R_at hq_ HO_3.out); have n1_:=Aside0.mk (blk_at hq_ BK306.out); have n2_:=Aside0.mk (below_at hq_ HB.out); clear hq_ HO_3 BK306 HB; have HO_3:=n0_; have BK306:=n1_; have HB:=n2_; clear n0_ n1_ n2_; (try (obtain ⟨hy20_,hz20_⟩:=Kd.R_celln 0 HO_3.out (t307 : Int) (od) (od))); (try (have HP20:=Kd.R_putg HO_3.out (t307 : Int) (wrap64 ((rd x3_1 t307) + 1)))))); refine store_event (t:=3) (p:=37) (v := ?vo_w21) (w1:=(w17.setCell ⟨go14,(t307 : Int).toNat,none⟩ (.int .i64 (wrap64 ((rd x3_1 t307) + 1))))) ?hg ?ho ?hn ?hr ?_; (case ho => rfl); (case hg => rfl); (case hn => rfl); (case hr => first | (go_simp; done) | (go_simp; rfl)); intro w21 hw; have hg : w17.grownBy w21 (some go14):=(by rw [hw]; exact HP20.2); have hp_ : Kd.R (Kd.int .i64) 3 w21 w.heap.size (fun _ => True) (.slice (some ⟨go14,0,none⟩) x3_1.length co19) y310:=(by rw [hw,Ny310.out]; exact HP20.1); clear HP20; replace BK306:=Aside0.mk (Qcm (kk BK306) hg (Kd.R_ne HO_3.out BK306.out (by decide))); replace HO_3:=Aside0.mk (hp_); replace HB:=Aside0.mk ((by rw [hw]; exact Qda (HB.out) GB14.out : Below w.heap.size w w21)); clear hg hw hp_)); try go_wp2_with (first | ((with_reducible refine Qae (N:=5) rfl ?_); refine bx 5 #[.int .i64 0, .int .i64 0, .int .i64 0, .int .i64 0, .int .i64 0, .int .i64 0, .string (⟨#[]⟩ : ByteArray), .slice none 0 0, .int .i64 0, .int .i64 0, .int .i64 0] 55 (h := ?_); intro gb306 hg w15 hbox hb; have BK306:=Aside0.mk (hbox); have GW306:=bz HB hg; have GE306:=bz HB hg; replace HO_3:=rb HO_3 hb; replace HB:=bs HB hb; clear hb hbox hg; obtain ⟨_,_,_,_,_,_,_,_,_,_,_,_,_,_,_,_,_,_,_,_,_,_⟩:=kc11 BK306) | (go_at_call 103; (with_reducible refine (tree_Find.calls _ _ l0 ((Qad l0 x12_1).f6) ((Qad l0 x12_1).f7) t307 _ ?side1 ?side2 A10.out).mono ?_); (case side1 => exact Kd.C_below HR0.out (bw HB)); (case side2 => exact HC0.out); rintro e w17 ⟨rfl,hb⟩; replace HO_3:=Aside0.mk (Kd.R_below (by (with_reducible repeat (first | apply Kd.R_alloc | apply Kd.R_drewN | apply Kd.R_drew)); exact (Kd.R_mono (rf11 (Kd.R_types HO_3.out BK306.out (by decide))) (fun _ h_ => h_.1))) hb); replace BK306:=Aside0.mk (Qbl (bp11 (kk BK306)) hb); replace HB:=bs HB hb; clear hb; obtain ⟨_,_,_,_,_,_,_,_,_,_,_,_,_,_,_,_,_,_,_,_,_,_⟩:=kc11 BK306; obtain ⟨Ao19,co19,eo19⟩:=Kd.R_slice HO_3.out; subst eo19; have p308 : 0 ≤ (t307 : Int):=od; have q308 : t307 < (x3_1.length : Int):=od; obtain ⟨ad308,e308,hx308_0⟩:=Kd.at_int (Kd.R_reads' HO_3.out).2.2 t307 p308 q308; cases e308; replace p308:=eq_true p308; replace q308:=eq_true q308; have p309 : 0 ≤ (t307 : Int):=od; have q309 : t307 < (x3_1.length : Int):=od; obtain ⟨ad309,e309,hx309_0⟩:=Kd.at_int (Kd.R_reads' HO_3.out).2.2 t307 p309 q309; obtain rfl : ad308 = ad309:=(by injection e309); replace p309:=eq_true p309; replace q309:=eq_true q309; have p14 : 0 ≤ (t307 : Int):=od; have q14 : (t307 : Int) < ((x3_1.length : Int) : Int):=od; obtain ⟨go14,co14,eo14,gb14,gl14,cl14,HG14⟩:=Kd.R_form HO_3.out (by omega); (first | cases eo14 | (injection eo14 with ea_ en_ ec_; (first | subst ea_ | (injection ea_ with ea_; subst ea_)); subst ec_; clear en_)); have GB14:=Aside0.mk gb14; have GG14:=Aside0.mk HG14; clear gb14 gl14 HG14; (first | simp only [Qcw] at hx308_0 | skip); (first | simp only [Qcw] at hx309_0 | skip); obtain ⟨hx14_0,hf14_0⟩:=Kd.R_celln 0 HO_3.out (t307 : Int) p14 q14; replace p14:=eq_true p14; replace q14:=eq_true q14; obtain ⟨hy20_,hz20_⟩:=Kd.R_celln 0 HO_3.out (t307 : Int) (od) (od); have HP20:=Kd.R_putg HO_3.out (t307 : Int) (wrap64 ((rd x3_1 t307) + 1))) | ((with_reducible refine gate_store (t:=3) (p:=37) rfl ?_); (try (rw [Qbw w17]; generalize hq_ : World.drewN w17 _ = w17; have n0_:=Aside0.mk (Kd.R_at hq_ HO_3.out); have n1_:=Aside0.mk (blk_at hq_ BK306.out); have n2_:=Aside0.mk (below_at hq_ HB.out); clear hq_ HO_3 BK306 HB; have HO_3:=n0_; have BK306:=n1_; have HB:=n2_; clear n0_ n1_ n2_; (try (obtain ⟨hy20_,hz20_⟩:=Kd.R_celln 0 HO_3.out (t307 : Int) (od) (od))); (try (have HP20:=Kd.R_putg HO_3.out (t307 : Int) (wrap64 ((rd x3_1 t307) + 1)))))); refine store_event (t:=3) (p:=37) (v := ?vo_w21) (w1:=(w17.setCell ⟨go14,(t307 : Int).toNat,none⟩ (.int .i64 (wrap64 ((rd x3_1 t307) + 1))))) ?hg ?ho ?hn ?hr ?_; (case ho => rfl); (case hg => rfl); (case hn => rfl); (case hr => first | (go_simp; done) | (go_simp; rfl)); intro w21 hw; have hg : w17.grownBy w21 (some go14):=(by rw [hw]; exact HP20.2); have hp_ : Kd.R (Kd.int .i64) 3 w21 w.heap.size (fun _ => True) (.slice (some ⟨go14,0,none⟩) x3_1.length co19) y310:=(by rw [hw,Ny310.out]; exact HP20.1); clear HP20; replace BK306:=Aside0.mk (Qcm (kk BK306) hg (Kd.R_ne HO_3.out BK306.out (by decide))); replace HO_3:=Aside0.mk (hp_); replace HB:=Aside0.mk ((by rw [hw]; exact Qda (HB.out) GB14.out : Below w.heap.size w w21)); clear hg hw hp_)))
   go_roundg k1
   case measure => have:=HK1.out; omega
   case rel => exact ⟨(y310),(wrap64 (x12_1 + 1)),rf,H',⟨by have:=HK1.out; omega⟩,⟨rk HO_3⟩,⟨bw HB⟩⟩
def doc_Works.l0 : Nat → List (SOp) → List Bool → List Int → Int → Int → Option (List Bool)
 | 0,_,_,_,_,_ => none
 | k + 1,x0,x3,x10,x11,x12 => if x12 < x11 then (if 0 ≤ x12 then (if x12 < (x10.length : Int) then (if x12 < (x0.length : Int) then (if ((Qad x0 x12).f2) = 1 then (if x12 < (x3.length : Int) then (doc_Works.l0 k x0 (x3.set (x12 : Int).toNat ((Int.tmod (rd x10 x12) 2) == 0)) x10 x11 (wrap64 (x12 + 1))) else (none)) else (if x12 < (x3.length : Int) then (doc_Works.l0 k x0 (x3.set (x12 : Int).toNat false) x10 x11 (wrap64 (x12 + 1))) else (none))) else (none)) else (none)) else (none)) else (some x3)
def doc_Works.f (k : Nat) (l0 : List (SOp)) : Option (List Bool):=if 0 ≤ (l0.length : Int) then (if ((l0.length : Int) : Int).toNat ≤ 281474976710656 then ((doc_Counts.f k l0).bind fun t314 => (doc_Works.l0 k l0 (List.replicate ((l0.length : Int) : Int).toNat false) t314 (t314.length : Int) 0)) else (none)) else (none)
theorem doc_Works.calls (k : Nat) (A0 : Option Addr) (c0 : Nat) (l0 : List (SOp)) (r : List Bool) (w : World) (hr0 : Kd.C kOp w A0 l0.length l0) (hc0 : l0.length ≤ c0) (h : doc_Works.f k l0 = some r) :
  Calls Tryd.prog 110 #[.slice A0 l0.length c0] w fun e w' => ∃ v0_ : Value,e = .returned (v0_) ∧ Kd.R Kd.bool 4 w' w.heap.size (fun _ => True) v0_ r ∧ Below w.heap.size w w':=by
 have HR0:=Aside0.mk hr0
 have HC0:=Aside0.mk hc0
 clear hr0 hc0
 have HB:=Aside0.mk (Below.refl w.heap.size w)
 unfold doc_Works.f at h; have H:=h
 clear h
 by_cases c2 : 0 ≤ (l0.length : Int); rotate_left
 ·rw [if_neg c2] at H
  exact absurd H (by simp)
 rw [if_pos c2] at H
 have c2b0:=eq_true c2
 have c2b1:=decide_eq_true c2
 clear c2
 by_cases c3 : ((l0.length : Int) : Int).toNat ≤ 281474976710656; rotate_left
 ·rw [if_neg c3] at H
  exact absurd H (by simp)
 rw [if_pos c3] at H
 have c3b0:=eq_true c3
 have c3b1:=decide_eq_true c3
 clear c3
 obtain ⟨y311,hy311⟩ : ∃ y_ : List Bool,y_ = (List.replicate ((l0.length : Int) : Int).toNat false):=⟨_,rfl⟩
 first | rw [Option.bind_some,← hy311] at H | rw [← hy311] at H
 have Ny311:=Aside0.mk hy311
 clear hy311
 obtain ⟨t314,A4,H⟩:=bE H
 have H':=Aside0.mk H
 clear H
 go_enter Tryd.func110,Tryd.ntmps110
 go_wp2_with (first | ((with_reducible refine Qae (N:=8) rfl ?_); refine Kd.R_make Kd.bool _ 4 rfl (N:=8) rfl 85 _ _ rfl (l0.length : Int) rfl rfl Tryd.underlying85 (.bool false) 1 info4 rfl (by decide) (by omega) false (ok:=fun _ => True) (okp:=fun _ => True) rfl (fun _ hk => hk) trivial (od) (Nat.le_trans (Nat.mul_le_mul_right _ (od : (l0.length : Int).toNat ≤ 281474976710656)) (by omega)) (Below.refl _ _) (Nat.le_refl _) ?_; intro v312 w5 ho6 hb hg_ hnew_; clear hg_ hnew_; (first | rw [← Ny311.out] at ho6 | (simp only [Int.reduceToNat] at ho6; rw [← Ny311.out] at ho6)); have HO313:=Aside0.mk (Kd.R_lower ho6 (Qai (bw HB))); replace HB:=bs HB hb; clear hb ho6) | ((with_reducible refine Qab (f:=134) rfl ?_); refine gl (some 10) Tryd.func134 #[.slice A0 l0.length c0] (h := ?_); (with_reducible refine (doc_Counts.calls k _ _ l0 t314 _ ?side1 ?side2 A4.out).mono ?_); (case side1 => exact cb HR0 HB); (case side2 => exact HC0.out); rintro e w7 ⟨v315,rfl,ho0,hb⟩; refine ⟨_,rfl, ?_⟩; have HO316:=Aside0.mk (Kd.R_lower ho0 (Qai (bw HB))); replace HO313:=rb HO313 hb; replace HB:=bs HB hb; clear hb; clear ho0; obtain ⟨Ao8,co8,eo8⟩:=Kd.R_slice HO316.out; subst eo8))
 go_loopg [12] k (fun kq v12 w' => ∃ (x3_1 : List Bool) (x12_1 : Int),v12 = .int .i64 x12_1 ∧ Aside0 (doc_Works.l0 kq l0 x3_1 t314 (t314.length : Int) x12_1 = some r) ∧ Aside0 (kq ≤ k) ∧ Aside0 (Kd.R Kd.bool 4 w' w.heap.size (fun _ => True) v312 x3_1) ∧ Aside0 (Kd.R (Kd.int .i64) 3 w' w.heap.size (fun _ => True) (.slice Ao8 t314.length co8) t314) ∧ Aside0 (Below w.heap.size w w'))
 case atStart => exact ⟨(y311),(0),rf,H',⟨Nat.le_refl _⟩,⟨rk HO313⟩,⟨rk HO316⟩,⟨bw HB⟩⟩
 case round =>
  clear H'
  try clear c2b0; try clear c2b1; try clear c3b0; try clear c3b1
  obtain ⟨x3_1,x12_1,rfl,HA,HK1,HO_3,HO_10,HB⟩:=hrel
  cases gk with
  | zero => exact absurd HA.out (by simp [doc_Works.l0])
  | succ k1 =>
   have H:=HA.out
   clear HA
   simp only [doc_Works.l0] at H
   by_cases c9 : x12_1 < (t314.length : Int); rotate_left
   ·rw [if_neg c9] at H
    have c9b0:=decide_eq_false c9
    clear c9
    obtain rfl:=Option.some.inj H
    go_wp2
    go_ret
    exact ⟨_,re,by (with_reducible repeat (first | apply Kd.R_alloc | apply Kd.R_drewN | apply Kd.R_drew)); exact HO_3.out,bw HB⟩
   rw [if_pos c9] at H
   have c9b0:=decide_eq_true c9
   clear c9
   by_cases c10 : 0 ≤ x12_1; rotate_left
   ·rw [if_neg c10] at H
    exact absurd H (by simp)
   rw [if_pos c10] at H
   have c10b0:=decide_eq_true c10
   clear c10
   by_cases c11 : x12_1 < (t314.length : Int); rotate_left
   ·rw [if_neg c11] at H
    exact absurd H (by simp)
   rw [if_pos c11] at H
   have c11b0:=decide_eq_true c11
   clear c11
   by_cases c12 : x12_1 < (l0.length : Int); rotate_left
   ·rw [if_neg c12] at H
    exact absurd H (by simp)
   rw [if_pos c12] at H
   have c12b0:=decide_eq_true c12
   clear c12
   by_cases c13 : ((Qad l0 x12_1).f2) = 1
   ·rw [if_pos c13] at H
    obtain ⟨c13b0,c13b1⟩:=bT c13
    clear c13
    by_cases c14 : x12_1 < (x3_1.length : Int); rotate_left
    ·rw [if_neg c14] at H
     exact absurd H (by simp)
    rw [if_pos c14] at H
    have c14b0:=decide_eq_true c14
    clear c14
    obtain ⟨y319,hy319⟩ : ∃ y_ : List Bool,y_ = (x3_1.set (x12_1 : Int).toNat ((Int.tmod (rd t314 x12_1) 2) == 0)):=⟨_,rfl⟩
    first | rw [Option.bind_some,← hy319] at H | rw [← hy319] at H
    have Ny319:=Aside0.mk hy319
    clear hy319
    have H':=Aside0.mk H
    clear H
    have p317 : 0 ≤ (x12_1 : Int):=od
    have q317 : x12_1 < (t314.length : Int):=od
    obtain ⟨ad317,e317,hx317_0⟩:=Kd.at_int (Kd.R_reads' HO_10.out).2.2 x12_1 p317 q317
    cases e317
    replace p317:=eq_true p317
    replace q317:=eq_true q317
    have p318 : 0 ≤ (x12_1 : Int):=od
    have q318 : x12_1 < (l0.length : Int):=od
    obtain ⟨ad318,A318_7,c318_7,e318,hx318_0,hx318_1,hx318_2,hx318_3,hx318_4,hx318_5,hx318_6,hx318_7,hx318_8,hx318_9,hx318_10,hl318_7,hi318_7⟩:=Qck HR0.out x12_1 p318 q318
    cases e318
    replace hx318_0:=cl HB hx318_0
    replace hx318_1:=cl HB hx318_1
    replace hx318_2:=cl HB hx318_2
    replace hx318_3:=cl HB hx318_3
    replace hx318_4:=cl HB hx318_4
    replace hx318_5:=cl HB hx318_5
    replace hx318_6:=cl HB hx318_6
    replace hx318_7:=cl HB hx318_7
    replace hx318_8:=cl HB hx318_8
    replace hx318_9:=cl HB hx318_9
    replace hx318_10:=cl HB hx318_10
    have HR318_7:=Aside0.mk hi318_7
    have HC318_7:=Aside0.mk hl318_7
    clear hi318_7 hl318_7
    replace p318:=eq_true p318
    replace q318:=eq_true q318
    have p15 : 0 ≤ (x12_1 : Int):=od
    have q15 : (x12_1 : Int) < ((x3_1.length : Int) : Int):=od
    obtain ⟨go15,co15,eo15,gb15,gl15,cl15,HG15⟩:=Kd.R_form HO_3.out (by omega)
    (first | cases eo15 | (injection eo15 with ea_ en_ ec_; (first | subst ea_ | (injection ea_ with ea_; subst ea_)); subst ec_; clear en_))
    have GB15:=Aside0.mk gb15
    have GG15:=Aside0.mk HG15
    clear gb15 gl15 HG15
    obtain ⟨hx15_0,hf15_0⟩:=Kd.R_celln false HO_3.out (x12_1 : Int) p15 q15
    replace p15:=eq_true p15
    replace q15:=eq_true q15
    have HP16:=Kd.R_putg HO_3.out (x12_1 : Int) ((Int.tmod (rd t314 x12_1) 2) == 0)
    go_wp2_with (first | ((with_reducible refine gate_store (t:=4) (p:=30) rfl ?_); refine store_event (t:=4) (p:=30) (v := ?vo_w17) (w1:=(wr.setCell ⟨go15,(x12_1 : Int).toNat,none⟩ (.bool ((Int.tmod (rd t314 x12_1) 2) == 0)))) ?hg ?ho ?hn ?hr ?_; (case ho => rfl); (case hg => rfl); (case hn => rfl); (case hr => first | (go_simp; done) | (go_simp; rfl)); intro w17 hw; have hg : wr.grownBy w17 (some go15):=(by rw [hw]; exact HP16.2); have hp_ : Kd.R Kd.bool 4 w17 w.heap.size (fun _ => True) (.slice (some ⟨go15,0,none⟩) x3_1.length co15) y319:=(by rw [hw,Ny319.out]; exact HP16.1); clear HP16; replace HO_10:=Aside0.mk (Kd.R_over' (v:=(.slice (some ⟨go15,0,none⟩) x3_1.length co15)) (rk HO_10) (Kd.R_typed HO_3.out) (by decide) hg); replace HO_3:=Aside0.mk (hp_); replace HB:=Aside0.mk ((by rw [hw]; exact Qda (HB.out) GB15.out : Below w.heap.size w w17)); clear hg hw hp_))
    go_roundg k1
    case measure => have:=HK1.out; omega
    case rel => exact ⟨(y319),(wrap64 (x12_1 + 1)),rf,H',⟨by have:=HK1.out; omega⟩,⟨rk HO_3⟩,⟨rk HO_10⟩,⟨bw HB⟩⟩
   rw [if_neg c13] at H
   obtain ⟨c13b0,c13b1⟩:=bF c13
   by_cases c18 : x12_1 < (x3_1.length : Int); rotate_left
   ·rw [if_neg c18] at H
    exact absurd H (by simp)
   rw [if_pos c18] at H
   have c18b0:=decide_eq_true c18
   clear c18
   obtain ⟨y320,hy320⟩ : ∃ y_ : List Bool,y_ = (x3_1.set (x12_1 : Int).toNat false):=⟨_,rfl⟩
   first | rw [Option.bind_some,← hy320] at H | rw [← hy320] at H
   have Ny320:=Aside0.mk hy320
   clear hy320
   have H':=Aside0.mk H
   clear H
   have p317 : 0 ≤ (x12_1 : Int):=od
   have q317 : x12_1 < (t314.length : Int):=od
   obtain ⟨ad317,e317,hx317_0⟩:=Kd.at_int (Kd.R_reads' HO_10.out).2.2 x12_1 p317 q317
   cases e317
   replace p317:=eq_true p317
   replace q317:=eq_true q317
   have p318 : 0 ≤ (x12_1 : Int):=od
   have q318 : x12_1 < (l0.length : Int):=od
   obtain ⟨ad318,A318_7,c318_7,e318,hx318_0,hx318_1,hx318_2,hx318_3,hx318_4,hx318_5,hx318_6,hx318_7,hx318_8,hx318_9,hx318_10,hl318_7,hi318_7⟩:=Qck HR0.out x12_1 p318 q318
   cases e318
   replace hx318_0:=cl HB hx318_0
   replace hx318_1:=cl HB hx318_1
   replace hx318_2:=cl HB hx318_2
   replace hx318_3:=cl HB hx318_3
   replace hx318_4:=cl HB hx318_4
   replace hx318_5:=cl HB hx318_5
   replace hx318_6:=cl HB hx318_6
   replace hx318_7:=cl HB hx318_7
   replace hx318_8:=cl HB hx318_8
   replace hx318_9:=cl HB hx318_9
   replace hx318_10:=cl HB hx318_10
   have HR318_7:=Aside0.mk hi318_7
   have HC318_7:=Aside0.mk hl318_7
   clear hi318_7 hl318_7
   replace p318:=eq_true p318
   replace q318:=eq_true q318
   have p19 : 0 ≤ (x12_1 : Int):=od
   have q19 : (x12_1 : Int) < ((x3_1.length : Int) : Int):=od
   obtain ⟨go19,co19,eo19,gb19,gl19,cl19,HG19⟩:=Kd.R_form HO_3.out (by omega)
   (first | cases eo19 | (injection eo19 with ea_ en_ ec_; (first | subst ea_ | (injection ea_ with ea_; subst ea_)); subst ec_; clear en_))
   have GB19:=Aside0.mk gb19
   have GG19:=Aside0.mk HG19
   clear gb19 gl19 HG19
   obtain ⟨hx19_0,hf19_0⟩:=Kd.R_celln false HO_3.out (x12_1 : Int) p19 q19
   replace p19:=eq_true p19
   replace q19:=eq_true q19
   have HP20:=Kd.R_putg HO_3.out (x12_1 : Int) false
   go_wp2_with (first | ((with_reducible refine gate_store (t:=4) (p:=30) rfl ?_); refine store_event (t:=4) (p:=30) (v := ?vo_w21) (w1:=(wr.setCell ⟨go19,(x12_1 : Int).toNat,none⟩ (.bool false))) ?hg ?ho ?hn ?hr ?_; (case ho => rfl); (case hg => rfl); (case hn => rfl); (case hr => first | (go_simp; done) | (go_simp; rfl)); intro w21 hw; have hg : wr.grownBy w21 (some go19):=(by rw [hw]; exact HP20.2); have hp_ : Kd.R Kd.bool 4 w21 w.heap.size (fun _ => True) (.slice (some ⟨go19,0,none⟩) x3_1.length co19) y320:=(by rw [hw,Ny320.out]; exact HP20.1); clear HP20; replace HO_10:=Aside0.mk (Kd.R_over' (v:=(.slice (some ⟨go19,0,none⟩) x3_1.length co19)) (rk HO_10) (Kd.R_typed HO_3.out) (by decide) hg); replace HO_3:=Aside0.mk (hp_); replace HB:=Aside0.mk ((by rw [hw]; exact Qda (HB.out) GB19.out : Below w.heap.size w w21)); clear hg hw hp_))
   go_roundg k1
   case measure => have:=HK1.out; omega
   case rel => exact ⟨(y320),(wrap64 (x12_1 + 1)),rf,H',⟨by have:=HK1.out; omega⟩,⟨rk HO_3⟩,⟨rk HO_10⟩,⟨bw HB⟩⟩
end
section
def InB (n : List Int) (b : Int) : Prop:=∀ x ∈ n,0 ≤ x ∧ x ≤ b
theorem cstep_bound (l : List SOp) {n : List Int} {b : Int} (h : InB n b) (hb : 0 ≤ b) (o : SOp) : InB (cstep l n o) (b + 1):=by
 have hd : 0 ≤ n.getD (Qbi l o.f6 o.f7).toNat 0 ∧ n.getD (Qbi l o.f6 o.f7).toNat 0 ≤ b:=by
  rw [List.getD_eq_getElem?_getD]
  cases hq : n[(Qbi l o.f6 o.f7).toNat]? with
  | none => exact ⟨Int.le_refl _,hb⟩
  | some y => exact h y (List.mem_of_getElem? hq)
 unfold cstep
 split
 ·split
  ·intro x hx
   rcases List.mem_or_eq_of_mem_set hx with hx | rfl
   ·have:=h x hx; omega
   ·omega
  ·intro x hx; have:=h x hx; omega
 ·intro x hx; have:=h x hx; omega
theorem tree_Find_f {l : List SOp} (hl : l.length ≤ 1000000) (a b : Int) : tree_Find.f l a b = some (Qbi l a b):=by unfold tree_Find.f; rw [if_pos (by omega)]
theorem Counts_loop {l : List SOp} (h : RowOk l) : ∀ d i,i + d = l.length → ∀ n : List Int,n.length = l.length → InB n (i : Int) → (l.take i).foldl (cstep l) (List.replicate l.length 0) = n → Ev (fun k => doc_Counts.l0 k l n l (l.length : Int) (i : Int)) (countsL l)
 | 0,i,hi,n,hn,hb,hf => by
  rw [List.take_of_length_le (by omega)] at hf
  have : countsL l = n:=hf
  rw [this]
  refine Ev.step (f:=fun _ => some n) (fun k => ?_) (Ev.now _)
  simp only [doc_Counts.l0]
  rw [if_neg (by omega)]
 | d + 1,i,hi,n,hn,hb,hf => by
  have hlt : i < l.length:=by omega
  have h40:=h.sums.1
  have ih:=Counts_loop h d (i + 1) (by omega) (cstep l n l[i]) (by rw [cstep_length]; exact hn) (by have:=cstep_bound l hb (by omega) l[i]; simpa using this) (by
   rw [List.take_succ_eq_append_getElem hlt,List.foldl_append,hf]; rfl)
  refine Ev.step (fun k => ?_) ih
  simp only [doc_Counts.l0]
  rw [if_pos (by omega),if_pos (by omega),if_pos (by omega),Qar _ _ hlt,Qdh hlt (by omega)]
  by_cases h2 : l[i].f2 = 2
  ·obtain ⟨j,hj,_,_,_,e⟩:=tog_found h (List.getElem_mem hlt) h2
   have hd : 0 ≤ n.getD j 0 ∧ n.getD j 0 ≤ (i : Int):=by
    rw [List.getD_eq_getElem?_getD]
    cases hq : n[j]? with
    | none => exact ⟨Int.le_refl _,by simp⟩
    | some y => exact hb y (List.mem_of_getElem? hq)
   rw [if_pos h2,tree_Find_f (by omega),Option.bind_some]
   unfold cstep
   rw [if_pos h2,e]
   rw [if_pos (by omega),if_pos (by omega)]
   have hrd : rd n (j : Int) = n.getD j 0:=by unfold rd; rw [Int.toNat_natCast]
   rw [hrd,Int.toNat_natCast,Qaj (by omega) (by omega)]
   by_cases h8 : l[i].f8 = n.getD j 0
   ·rw [if_pos h8,if_pos h8]
   ·rw [if_neg h8,if_neg h8]
  ·rw [if_neg h2]
   unfold cstep
   rw [if_neg h2]
theorem Counts_ev {l : List SOp} (h : RowOk l) : Ev (fun k => doc_Counts.f k l) (countsL l):=by
 have h40:=h.sums.1
 refine Ev.congr (fun k => ?_) (Counts_loop h l.length 0 (Nat.zero_add _) (List.replicate l.length 0) (by simp) (fun x hx => by rw [List.eq_of_mem_replicate hx]; exact ⟨Int.le_refl _,Int.le_refl _⟩) rfl)
 unfold doc_Counts.f
 rw [if_pos (by omega),if_pos (by omega),Int.toNat_natCast]
 rfl
theorem counts_bound {l : List SOp} : InB (countsL l) (l.length : Int):=by
 have : ∀ i,i ≤ l.length → InB ((l.take i).foldl (cstep l) (List.replicate l.length 0)) (i : Int):=by
  intro i
  induction i with
  | zero => intro _ x hx; rw [List.eq_of_mem_replicate hx]; exact ⟨Int.le_refl _,Int.le_refl _⟩
  | succ i ih =>
   intro hi
   rw [List.take_succ_eq_append_getElem (by omega),List.foldl_append]
   have:=cstep_bound l (ih (by omega)) (by omega) (l[i]'(by omega))
   simpa using this
 have:=this l.length (Nat.le_refl _)
 rwa [List.take_length] at this
def worksL (l : List SOp) : List Bool:=l.map (Qbk l)
theorem Works_loop {l : List SOp} (h : RowOk l) : ∀ d i,i + d = l.length → Ev (fun k => doc_Works.l0 k l ((l.take i).map (Qbk l) ++ List.replicate (l.length - i) false) (countsL l) (l.length : Int) (i : Int)) (worksL l)
 | 0,i,hi => by
  rw [List.take_of_length_le (by omega),show l.length - i = 0 by omega]
  simp only [List.replicate_zero,List.append_nil]
  refine Ev.step (f:=fun _ => some (worksL l)) (fun k => ?_) (Ev.now _)
  simp only [doc_Works.l0]
  rw [if_neg (by omega)]
  rfl
 | d + 1,i,hi => by
  have hlt : i < l.length:=by omega
  have h40:=h.sums.1
  have ih:=Works_loop h d (i + 1) (by omega)
  have hc:=counts_at h hlt
  have hcb : 0 ≤ (countsL l).getD i 0:=by
   rw [List.getD_eq_getElem?_getD]
   cases hq : (countsL l)[i]? with
   | none => exact Int.le_refl _
   | some y => exact (counts_bound y (List.mem_of_getElem? hq)).1
  have hset : ∀ b,b = Qbk l l[i] → ((l.take i).map (Qbk l) ++ List.replicate (l.length - i) false).set i b = (l.take (i + 1)).map (Qbk l) ++ List.replicate (l.length - (i + 1)) false:=by
   intro b hb
   have hl : ((l.take i).map (Qbk l)).length = i:=by rw [List.length_map,List.length_take]; omega
   rw [List.set_append,if_neg (by omega),hl,Nat.sub_self,show l.length - i = (l.length - (i + 1)) + 1 by omega,List.replicate_succ,List.set_cons_zero,List.take_succ_eq_append_getElem hlt,List.map_append,hb]
   simp
  have hlen : (((l.take i).map (Qbk l) ++ List.replicate (l.length - i) false).length : Int) = l.length:=by
   rw [List.length_append,List.length_map,List.length_take,List.length_replicate]; omega
  refine Ev.step (fun k => ?_) ih
  simp only [doc_Works.l0]
  rw [hlen,if_pos (by omega),if_pos (by omega),if_pos (by rw [counts_length]; omega),if_pos (by omega),Qar _ _ hlt,Qdh hlt (by omega),Int.toNat_natCast]
  have hrd : rd (countsL l) (i : Int) = cntR l l[i].f0 l[i].f1:=by unfold rd; rw [Int.toNat_natCast,hc]
  by_cases h1 : l[i].f2 = 1
  ·rw [if_pos h1,if_pos (by omega),hset _ ?_]
   rw [hrd]
   unfold Qbk
   rw [← hc,Int.tmod_eq_emod_of_nonneg hcb,h1]
   simp
  ·rw [if_neg h1,if_pos (by omega),hset _ ?_]
   unfold Qbk
   simp [h1]
theorem Works_ev {l : List SOp} (h : RowOk l) : Ev (fun k => doc_Works.f k l) (worksL l):=by
 have h40:=h.sums.1
 refine Ev.congr (f:=fun k => (doc_Counts.f k l).bind fun t314 => doc_Works.l0 k l (List.replicate l.length false) t314 (t314.length : Int) 0) (fun k => ?_) (Ev.bind (f:=fun k t314 => doc_Works.l0 k l (List.replicate l.length false) t314 (t314.length : Int) 0) (Counts_ev h) ?_)
 ·unfold doc_Works.f
  rw [if_pos (by omega),if_pos (by omega),Int.toNat_natCast]
 ·rw [counts_length]
  have:=Works_loop h l.length 0 (Nat.zero_add _)
  simpa using this
theorem All_loop (o : SOp) (hs : Qal o ≤ 1000000) : ∀ d i,i + d = Qal o → Ev (fun k => op_All.l0 k ((List.range i).map fun j : Nat => (⟨o.f0,o.f1,(j : Int)⟩ : SElem)) (Qal o : Int) (i : Int) o.f0 o.f1 o.f2 o.f3.f0 o.f3.f1 o.f3.f2 o.f4 o.f5 o.f6 o.f7 o.f8) (Qbd o)
 | 0,i,hi => by
  obtain rfl : i = Qal o:=by omega
  refine Ev.step (f:=fun _ => some (Qbd o)) (fun k => ?_) (Ev.now _)
  simp only [op_All.l0]
  rw [if_neg (by omega)]
  rfl
 | d + 1,i,hi => by
  have ih:=All_loop o hs d (i + 1) (by omega)
  rw [List.range_succ,List.map_append] at ih
  refine Ev.step (fun k => ?_) ih
  simp only [op_All.l0]
  unfold op_At.f
  rw [if_pos (by omega),Option.bind_some,if_pos (by simp; omega),Qdh (show i < Qal o by omega) (by omega)]
  rfl
theorem All_ev (o : SOp) (hs : Sm o) (h12 : Qal o ≤ 1000000) : Ev (fun k => op_All.f k o.f0 o.f1 o.f2 o.f3.f0 o.f3.f1 o.f3.f2 o.f4 o.f5 o.f6 o.f7 o.f8) (Qbd o):=by
 refine Ev.congr (fun k => ?_) (All_loop o h12 (Qal o) 0 (Nat.zero_add _))
 unfold op_All.f
 rw [op_Size_f o hs,Option.bind_some]
 rfl
end
section
def mkE (k : Int × Int × Int) : SElem:=⟨k.1,k.2.1,k.2.2⟩
def goneS (l ms : List SOp) : Int × Int × Int → Bool:=fun k => ms.any fun o => Qbk l o && decide (mkE k ∈ o.f5)
def theS (l ms : List SOp) : Int × Int × Int → Bool:=fun k => ms.any fun o => Qbk l o && decide (mkE k ∈ Qbd o)
def addS (S : Int × Int × Int → Bool) (es : List SElem) : Int × Int × Int → Bool:=fun k => S k || decide (mkE k ∈ es)
theorem addS_nil (S : Int × Int × Int → Bool) : addS S [] = S:=by funext k; simp [addS]
theorem addS_snoc (S : Int × Int × Int → Bool) (es : List SElem) (x : SElem) : updB (addS S es) (x.f0,x.f1,x.f2) = addS S (es ++ [x]):=by
 funext k
 unfold updB addS
 by_cases h : k = (x.f0,x.f1,x.f2)
 ·rw [if_pos h]
  have : mkE k = x:=by rw [h]; rfl
  simp [this]
 ·rw [if_neg h]
  have : mkE k ≠ x:=fun e => h (by rw [← e]; rfl)
  simp [this]
theorem goneS_snoc (l ms : List SOp) (o : SOp) : goneS l (ms ++ [o]) = if Qbk l o = true then addS (goneS l ms) o.f5 else goneS l ms:=by
 funext k
 have h1 : ∀ b : Bool,(if b = true then (fun k => goneS l ms k || decide (mkE k ∈ o.f5)) else goneS l ms) k = (goneS l ms k || (b && decide (mkE k ∈ o.f5))):=by intro b; cases b <;> simp
 refine Eq.trans ?_ (h1 (Qbk l o)).symm
 unfold goneS
 rw [List.any_append]; simp
theorem theS_snoc (l ms : List SOp) (o : SOp) : theS l (ms ++ [o]) = if Qbk l o = true then addS (theS l ms) (Qbd o) else theS l ms:=by
 funext k
 have h1 : ∀ b : Bool,(if b = true then (fun k => theS l ms k || decide (mkE k ∈ Qbd o)) else theS l ms) k = (theS l ms k || (b && decide (mkE k ∈ Qbd o))):=by intro b; cases b <;> simp
 refine Eq.trans ?_ (h1 (Qbk l o)).symm
 unfold theS
 rw [List.any_append]; simp
structure K2 (b1 b2 : Nat) (w w' : World) : Prop where
 os : w'.os = w.os
 tape : w'.tape = w.tape
 output : w'.output = w.output
 size : w.heap.size ≤ w'.heap.size
 block : ∀ k,k < w.heap.size → k ≠ b1 → k ≠ b2 → w'.heap[k]? = w.heap[k]?
theorem K2.refl (b1 b2 : Nat) (w : World) : K2 b1 b2 w w:=⟨rfl,rfl,rfl,Nat.le_refl _,fun _ _ _ _ => rfl⟩
theorem K2.below {b1 b2 : Nat} {w w1 w2 : World} (h : K2 b1 b2 w w1) (k : Below w1.heap.size w1 w2) : K2 b1 b2 w w2 :=
 ⟨k.os.trans h.os,k.tape.trans h.tape,k.output.trans h.output,Nat.le_trans h.size k.size,fun i hi h1 h2 => (k.block i (Nat.lt_of_lt_of_le hi h.size)).trans (h.block i hi h1 h2)⟩
theorem K2.grown {b1 b2 b : Nat} {w w1 w2 : World} (h : K2 b1 b2 w w1) (k : w1.grownBy w2 (some b)) (hb : b = b1 ∨ b = b2) : K2 b1 b2 w w2 :=
 ⟨k.os.trans h.os,k.tape.trans h.tape,k.output.trans h.output,Nat.le_trans h.size k.size,fun i hi h1 h2 => (k.block i (Nat.lt_of_lt_of_le hi h.size) (fun e => by injection e with e; rcases hb with rfl | rfl; exact h1 e; exact h2 e)).trans (h.block i hi h1 h2)⟩
theorem K2.cell {b1 b2 : Nat} {w w' : World} (h : K2 b1 b2 w w') {a : Addr} {v : Value} (hc : w.cell? a = some v) (h1 : a.block ≠ b1) (h2 : a.block ≠ b2) : w'.cell? a = some v:=by
 have:=h.block a.block (World.block_lt_of_cell? w a hc) h1 h2
 simpa [World.cell?,this] using hc
theorem K2.toBelow {b1 b2 B : Nat} {w0 w w' : World} (hb : Below B w0 w) (h : K2 b1 b2 w w') (hB : B ≤ w.heap.size) (h1 : B ≤ b1) (h2 : B ≤ b2) : Below B w0 w' :=
 hb.trans ⟨h.os,h.tape,h.output,h.size,fun i hi => h.block i (Nat.lt_of_lt_of_le hi hB) (by omega) (by omega)⟩
theorem smalls_Sm {l : List SOp} (h : smalls l = true) : ∀ o ∈ l,Sm o:=by
 unfold smalls SmB at h
 simp only [Bool.and_eq_true,decide_eq_true_eq,List.all_eq_true] at h
 intro o ho
 have:=h.2 o ho
 exact ⟨by omega,by omega⟩
theorem opOk_gone200 {o : SOp} (h : opOk o = true) : o.f5.length ≤ 200:=by
 rcases Qcp h with ⟨_,h2⟩ | ⟨_,h2⟩
 ·unfold editOk goneOk at h2
  simp only [Bool.and_eq_true,decide_eq_true_eq] at h2
  omega
 ·unfold Qce at h2
  simp only [Bool.and_eq_true,List.isEmpty_iff] at h2
  rw [h2.2]; simp
theorem gone_in {o : SOp} (h : opOk o = true) : ∀ e ∈ o.f5,inI e.f0 ∧ inI e.f1 ∧ inI e.f2:=by
 intro e he
 obtain ⟨hb,hk,_⟩:=opOk_goneMem h e he
 obtain ⟨i0,i1⟩:=elemOk_in hk hb
 have:=elemOk_pos hk hb
 exact ⟨i0,i1,by unfold inI; omega⟩
theorem chain_in {o : SOp} (h : opOk o = true) : ∀ e ∈ Qbd o,inI e.f0 ∧ inI e.f1 ∧ inI e.f2:=by
 intro e he
 obtain ⟨e0,e1,h2,h3⟩:=(mem_chain o e).1 he
 have hn:=opOk_name h
 have hs:=(Qco h).1
 rw [← e0,← e1]
 exact ⟨hn.1,hn.2,by unfold inI; omega⟩
theorem K2.trans {b1 b2 : Nat} {w w1 w2 : World} (h : K2 b1 b2 w w1) (k : K2 b1 b2 w1 w2) : K2 b1 b2 w w2 :=
 ⟨k.os.trans h.os,k.tape.trans h.tape,k.output.trans h.output,Nat.le_trans h.size k.size,fun i hi h1 h2 => (k.block i (Nat.lt_of_lt_of_le hi h.size) h1 h2).trans (h.block i hi h1 h2)⟩
theorem ord_in {l : List SOp} (h : RowOk l) : ∀ e,e ∈ ordL l → inI e.f0 ∧ inI e.f1 ∧ inI e.f2:=by
 intro e he
 obtain ⟨p,hp,e0,e1,h2,h3⟩:=(mem_ordL h e).1 he
 exact chain_in (h.oks p hp) e ((mem_chain p e).2 ⟨e0,e1,h2,h3⟩)
theorem mk_runE (t : TypeId) (w : World) : (Instr.makeMap t none).run Tryd.prog w = .ok (.map (some w.heap.size)) (w.alloc (.map #[] 0)):=rfl
theorem seen_start (w : World) : Below w.heap.size w ((((w.alloc (.map #[] 0)).alloc (.cells #[.map (some w.heap.size)] 117)).alloc (.map #[] 0)).alloc (.cells #[.map (some (w.heap.size + 1 + 1))] 117)) ∧
  MapE ((((w.alloc (.map #[] 0)).alloc (.cells #[.map (some w.heap.size)] 117)).alloc (.map #[] 0)).alloc (.cells #[.map (some (w.heap.size + 1 + 1))] 117)) w.heap.size 0 (fun _ => false) ∧
  MapE ((((w.alloc (.map #[] 0)).alloc (.cells #[.map (some w.heap.size)] 117)).alloc (.map #[] 0)).alloc (.cells #[.map (some (w.heap.size + 1 + 1))] 117)) (w.heap.size + 1 + 1) 0 (fun _ => false) ∧
  (((((w.alloc (.map #[] 0)).alloc (.cells #[.map (some w.heap.size)] 117)).alloc (.map #[] 0)).alloc (.cells #[.map (some (w.heap.size + 1 + 1))] 117)).cell? ⟨w.heap.size + 1,0,none⟩ = some (.map (some w.heap.size)) ∧
   ((((w.alloc (.map #[] 0)).alloc (.cells #[.map (some w.heap.size)] 117)).alloc (.map #[] 0)).alloc (.cells #[.map (some (w.heap.size + 1 + 1))] 117)).cell? ⟨w.heap.size + 1 + 1 + 1,0,none⟩ = some (.map (some (w.heap.size + 1 + 1)))) ∧
  ((((w.alloc (.map #[] 0)).alloc (.cells #[.map (some w.heap.size)] 117)).alloc (.map #[] 0)).alloc (.cells #[.map (some (w.heap.size + 1 + 1))] 117)).heap.size = w.heap.size + 4:=by
 have m1 : MapE (w.alloc (.map #[] 0)) w.heap.size 0 (fun _ => false):=MapB.made _ _ _ _
 have m1':=m1.kept (World.grownBy_alloc _ (.cells #[.map (some w.heap.size)] 117) none) (by simp)
 have hs2 : ((w.alloc (.map #[] 0)).alloc (.cells #[.map (some w.heap.size)] 117)).heap.size = w.heap.size + 1 + 1:=by simp
 have hb2 : Below w.heap.size w ((w.alloc (.map #[] 0)).alloc (.cells #[.map (some w.heap.size)] 117)):=Qag (Qag (Below.refl _ _) _) _
 have hc2 : ((w.alloc (.map #[] 0)).alloc (.cells #[.map (some w.heap.size)] 117)).cell? ⟨w.heap.size + 1,0,none⟩ = some (.map (some w.heap.size)):=top_cell _ _ _ _ 0 (by simp)
 generalize (w.alloc (.map #[] 0)).alloc (.cells #[.map (some w.heap.size)] 117) = w2 at m1' hs2 hb2 hc2 ⊢
 have m2 : MapE (w2.alloc (.map #[] 0)) (w.heap.size + 1 + 1) 0 (fun _ => false):=by
  have:=MapB.made encE 43 4 w2; rw [hs2] at this; exact this
 have m1'':=m1'.kept (World.grownBy_alloc _ (.map #[] 0) none) (by simp)
 have hs3 : (w2.alloc (.map #[] 0)).heap.size = w.heap.size + 1 + 1 + 1:=by simp [hs2]
 have hb3:=Qag hb2 (.map #[] 0)
 have hc3:=Qac (Qag (Below.refl w2.heap.size w2) (.map #[] 0)) hc2
 generalize w2.alloc (.map #[] 0) = w3 at m1'' m2 hs3 hb3 hc3 ⊢
 have m1a:=m1''.kept (World.grownBy_alloc _ (.cells #[.map (some (w.heap.size + 1 + 1))] 117) none) (by simp)
 have m2a:=m2.kept (World.grownBy_alloc _ (.cells #[.map (some (w.heap.size + 1 + 1))] 117) none) (by simp)
 exact ⟨Qag hb3 _,m1a,m2a,⟨Qac (Qag (Below.refl w3.heap.size w3) _) hc3,top_cell _ _ _ _ 0 hs3⟩,by simp [hs3]⟩
def doc_Seen.f (l0 : List (SOp)) : Option ((List (SElem))):=if smalls l0 = true ∧ mayB l0 = true then some (Qbh l0) else none
theorem doc_Seen.calls (A0 : Option Addr) (c0 : Nat) (l0 : List (SOp)) (r : List (SElem)) (w : World) (hr0 : Kd.C kOp w A0 l0.length l0) (hc0 : l0.length ≤ c0) (h : doc_Seen.f l0 = some r) :
  Calls Tryd.prog 77 #[.slice A0 l0.length c0] w fun e w' => ∃ v0_ : Value,e = .returned (v0_) ∧ Kd.R Qaq 43 w' w.heap.size (fun _ => True) v0_ r ∧ Below w.heap.size w w':=by
 unfold doc_Seen.f at h
 split at h
 case isFalse => cases h
 rename_i hsm
 obtain ⟨hs,hm⟩:=hsm
 obtain rfl:=Option.some.inj h
 have hrow:=(Qdi l0).1 hm
 obtain ⟨kw,hkw⟩:=Ev.rounds (Works_ev hrow)
 have HR0:=Aside0.mk hr0
 have HC0:=Aside0.mk hc0
 have HW:=Aside0.mk (fun (W : World) (hb : Below w.heap.size w W) => doc_Works.calls kw A0 c0 l0 (worksL l0) W (Kd.C_below hr0 hb) hc0 hkw)
 have HROW:=Aside0.mk hrow
 have HSM:=Aside0.mk hs
 clear hr0 hc0 h hm hs hkw hrow
 go_enter Tryd.func77,Tryd.ntmps77
 have mk1:=fun w => mk_runE 117 w
 obtain ⟨s0,s1,s2,s3,s4⟩:=seen_start w
 have S1:=Aside0.mk s1
 have S2:=Aside0.mk s2
 have hW4:=HW.out _ s0
 have S0:=Aside0.mk s0
 have HW4:=Aside0.mk hW4
 have S3:=Aside0.mk s3
 have S4:=Aside0.mk s4
 clear s0 s1 s2 s3 s4 hW4 HW
 go_wp2_with fail
 refine HW4.out.mono ?_
 rintro e wW ⟨vW,rfl,hRW,hbW⟩
 obtain ⟨HBW,M1,M2,c1,c2,lW⟩ : Aside0 (Below w.heap.size w wW) ∧ Aside0 (MapE wW w.heap.size 0 (fun _ => false)) ∧ Aside0 (MapE wW (w.heap.size + 1 + 1) 0 (fun _ => false)) ∧ wW.cell? ⟨w.heap.size + 1,0,none⟩ = some (.map (some w.heap.size)) ∧ wW.cell? ⟨w.heap.size + 1 + 1 + 1,0,none⟩ = some (.map (some (w.heap.size + 1 + 1))) ∧ w.heap.size + 4 ≤ wW.heap.size:=by
  refine ⟨⟨Qav S0.out hbW⟩,⟨S1.out.below hbW S1.out.lt⟩,⟨S2.out.below hbW S2.out.lt⟩,Qac hbW S3.out.1,Qac hbW S3.out.2, ?_⟩
  have:=hbW.size; rw [S4.out] at this; exact this
 have hRW2:=Kd.R_mono (Kd.R_bound hRW) (ok':=fun k => k ≠ w.heap.size ∧ k ≠ w.heap.size + 1 + 1) (fun k hk => by have:=hk.2.1; rw [S4.out] at this; exact ⟨by omega,by omega⟩)
 have hlW : (worksL l0).length = l0.length:=by simp [worksL]
 obtain ⟨AW,cW,rfl,hcW,_⟩:=Kd.R_reads hRW2
 rw [hlW] at hcW ⊢
 have HCW:=Aside0.mk (fun (wr : World) (hk : K2 w.heap.size (w.heap.size + 1 + 1) wW wr) => (Kd.R_reads' (Kd.R_step hRW2 (fun k ho hlt => hk.block k hlt ho.1 ho.2))).2.2)
 have HC1:=Aside0.mk c1
 have HC2:=Aside0.mk c2
 have LW:=Aside0.mk lW
 clear hRW hRW2 hbW c1 c2 lW S0 S1 S2 S3 S4 HW4 hcW mk1
 rw [hlW] at HCW
 clear hlW
 go_wp2
 go_loopg [16] l0.length (fun gg s16 wr => ∃ i : Nat,i ≤ l0.length ∧ l0.length - i ≤ gg ∧ s16 = .int .i64 i ∧ Aside0 (K2 w.heap.size (w.heap.size + 1 + 1) wW wr) ∧ Aside0 (∃ n1 n2,n1 ≤ 200 * i ∧ n2 ≤ 12 * i ∧ MapE wr w.heap.size n1 (goneS l0 (l0.take i)) ∧ MapE wr (w.heap.size + 1 + 1) n2 (theS l0 (l0.take i))))
 case atStart => exact ⟨0,Nat.zero_le _,by omega,rfl,⟨K2.refl _ _ _⟩,⟨0,0,Nat.le_refl _,Nat.le_refl _,M1.out,M2.out⟩⟩
 case round =>
  clear M1 M2
  obtain ⟨i,hi,hgk,rfl,HK,HM⟩:=hrel
  have h40:=HROW.out.sums.1
  by_cases hlt : i < l0.length
  ·obtain ⟨g',rfl⟩ : ∃ g',gk = g' + 1:=⟨gk - 1,by omega⟩
   have hltz : (i : Int) < (l0.length : Int):=by omega
   have h0z : (0 : Int) ≤ (i : Int):=by omega
   obtain ⟨adW,rfl,xw⟩:=Kd.at_bool (HCW.out wr HK.out) (i : Int) h0z (by omega)
   simp only [Int.toNat_natCast] at xw
   have hrdw : rdOf false (worksL l0) (i : Int) = Qbk l0 l0[i]:=by
    unfold rdOf worksL
    rw [Int.toNat_natCast,List.getD_eq_getElem?_getD,List.getElem?_map,List.getElem?_eq_getElem hlt]; rfl
   rw [hrdw] at xw
   cases hwk : Qbk l0 l0[i] with
   | false =>
    rw [hwk] at xw
    have HM2:=Aside0.mk (show ∃ n1 n2,n1 ≤ 200 * (i + 1) ∧ n2 ≤ 12 * (i + 1) ∧ MapE wr w.heap.size n1 (goneS l0 (l0.take (i + 1))) ∧ MapE wr (w.heap.size + 1 + 1) n2 (theS l0 (l0.take (i + 1))) by
     obtain ⟨n1,n2,h1,h2,h3,h4⟩:=HM.out
     rw [List.take_succ_eq_append_getElem hlt,goneS_snoc,theS_snoc,hwk]
     exact ⟨n1,n2,by omega,by omega,h3,h4⟩)
    clear hwk hrdw HM
    go_wp2
    go_roundg g'
    case measure => omega
    case rel => exact ⟨i + 1,by omega,by omega,by go_num,HK,HM2⟩
   | true =>
    rw [hwk] at xw
    have hoi:=HROW.out.oks _ (List.getElem_mem hlt)
    have hSm:=smalls_Sm HSM.out _ (List.getElem_mem hlt)
    obtain ⟨ad,A7,c7,rfl,x0,x1,x2,x3,x4,x5,x6,x7,x8,x9,x10,l7,g7⟩:=Qck HR0.out (i : Int) h0z hltz
    have LW1:=LW.out
    have hbr : Below w.heap.size w wr:=K2.toBelow HBW.out HK.out (by omega) (Nat.le_refl _) (by omega)
    simp only [Int.toNat_natCast,Qar _ _ hlt] at x0 x1 x2 x3 x4 x5 x6 x7 x8 x9 x10 l7 g7
    generalize hoe : l0[i] = o at x0 x1 x2 x3 x4 x5 x6 x7 x8 x9 x10 l7 g7 hwk hoi hSm
    have HOE:=Aside0.mk hoe
    have HWK:=Aside0.mk hwk
    have HOI:=Aside0.mk hoi
    have HSO:=Aside0.mk hSm
    have HG7:=Aside0.mk g7
    have HL7:=Aside0.mk l7
    have HX:=Aside0.mk (And.intro x0 (And.intro x1 (And.intro x2 (And.intro x3 (And.intro x4 (And.intro x5 (And.intro x6 (And.intro x7 (And.intro x8 (And.intro x9 x10))))))))))
    have e7:=Qac hbr x7
    have h200:=opOk_gone200 hoi
    clear x0 x1 x2 x3 x4 x5 x6 x7 x8 x9 x10 l7 g7 hwk hoi hSm hoe hrdw hbr
    go_wp2
    go_loopg [29] o.f5.length (fun gg s29 w' => ∃ j : Nat,j ≤ o.f5.length ∧ o.f5.length - j ≤ gg ∧ s29 = .int .i64 j ∧ Aside0 (K2 w.heap.size (w.heap.size + 1 + 1) wW w') ∧ Aside0 (∃ n1 n2,n1 ≤ 200 * i + j ∧ n2 ≤ 12 * i ∧ MapE w' w.heap.size n1 (addS (goneS l0 (l0.take i)) (o.f5.take j)) ∧ MapE w' (w.heap.size + 1 + 1) n2 (theS l0 (l0.take i))))
    case atStart =>
     obtain ⟨n1,n2,h1,h2,h3,h4⟩:=HM.out
     exact ⟨0,Nat.zero_le _,by omega,rfl,HK,⟨n1,n2,by omega,by omega,by rw [List.take_zero,addS_nil]; exact h3,h4⟩⟩
    case round =>
     clear HM HK xw e7
     obtain ⟨j,hj,hgk2,rfl,HK,HM⟩:=hrel
     by_cases hjl : j < o.f5.length
     ·obtain ⟨g2,rfl⟩ : ∃ g2,gk = g2 + 1:=⟨gk - 1,by omega⟩
      have hjz : (j : Int) < (o.f5.length : Int):=by omega
      have hj0 : (0 : Int) ≤ (j : Int):=by omega
      have hbr : Below w.heap.size w wr:=K2.toBelow HBW.out HK.out (by omega) (Nat.le_refl _) (by omega)
      obtain ⟨ad7,rfl,y0,y1,y2⟩:=Qba (Kd.C_below HG7.out hbr) (j : Int) hj0 hjz
      simp only [Int.toNat_natCast,Qat _ _ hjl] at y0 y1 y2
      have hxi:=gone_in HOI.out _ (List.getElem_mem hjl)
      have hsn:=addS_snoc (goneS l0 (l0.take i)) (o.f5.take j) o.f5[j]
      rw [← List.take_succ_eq_append_getElem hjl] at hsn
      generalize o.f5[j] = x at y0 y1 y2 hxi hsn
      obtain ⟨n1,n2,h1,h2,h3,h4⟩:=HM.out
      have hal : Below wr.heap.size wr (wr.alloc (.cells #[.int .i64 x.f0, .int .i64 x.f1, .int .i64 x.f2] 43)):=Qag (Below.refl _ _) _
      obtain ⟨kl,hkl⟩:=keyE (x:=(x.f0,x.f1,x.f2)) hxi.1 hxi.2.1 hxi.2.2
      obtain ⟨w6,hrun,hm6,hg6⟩:=(h3.below hal h3.lt).store lawE Tryd.underlying117 Tryd.underlying4 (Nat.lt_of_le_of_lt (m:=10000) (by omega) (by decide)) encE_inj (x.f0,x.f1,x.f2) hkl
      rw [hsn] at hm6
      simp only [encE] at hrun
      have q1:=Qac hal (HK.out.cell HC1.out (by simp) (by simp))
      have HK6:=Aside0.mk ((HK.out.below hal).grown hg6 (.inl rfl))
      have HM6:=Aside0.mk (show ∃ n1 n2,n1 ≤ 200 * i + (j + 1) ∧ n2 ≤ 12 * i ∧ MapE w6 w.heap.size n1 (addS (goneS l0 (l0.take i)) (o.f5.take (j + 1))) ∧ MapE w6 (w.heap.size + 1 + 1) n2 (theS l0 (l0.take i)) from
       ⟨n1 + 1,n2,by omega,h2,hm6,(h4.below hal h4.lt).kept hg6 (fun e => by injection e with e; omega)⟩)
      clear h1 h2 h3 h4 hm6 hg6 hsn hxi hkl hal hbr HM HK
      go_wp2
      go_roundg g2
      case measure => omega
      case rel => exact ⟨j + 1,by omega,by omega,by go_num,HK6,HM6⟩
     ·obtain rfl : j = o.f5.length:=by omega
      have hjz : ¬ (o.f5.length : Int) < (o.f5.length : Int):=by omega
      have hbr : Below w.heap.size w wr:=K2.toBelow HBW.out HK.out (by omega) (Nat.le_refl _) (by omega)
      obtain ⟨x0,x1,x2,x3,x4,x5,x6,x7,x8,x9,x10⟩:=HX.out
      replace x0:=Qac hbr x0
      replace x1:=Qac hbr x1
      replace x2:=Qac hbr x2
      replace x3:=Qac hbr x3
      replace x4:=Qac hbr x4
      replace x5:=Qac hbr x5
      replace x6:=Qac hbr x6
      replace x7:=Qac hbr x7
      replace x8:=Qac hbr x8
      replace x9:=Qac hbr x9
      replace x10:=Qac hbr x10
      have hsz:=(Qco HOI.out).1
      obtain ⟨ka,hka⟩:=Ev.rounds (All_ev o HSO.out (by omega))
      have HAL:=Aside0.mk (op_All.calls ka o.f0 o.f1 o.f2 o.f3.f0 o.f3.f1 o.f3.f2 o.f4 A7 c7 o.f5 o.f6 o.f7 o.f8 (Qbd o) wr (Kd.C_below HG7.out hbr) HL7.out hka)
      have HSZ:=Aside0.mk hsz
      clear hbr hka hsz
      go_wp2_with fail
      refine HAL.out.mono ?_
      rintro e wA ⟨vA,rfl,hRA,hbA⟩
      have hsr:=HK.out.size
      have hRA2:=Kd.R_mono (Kd.R_bound hRA) (ok':=fun k => k ≠ w.heap.size ∧ k ≠ w.heap.size + 1 + 1) (fun k hk => by have:=hk.2.1; exact ⟨by omega,by omega⟩)
      have hlA : (Qbd o).length = Qal o:=Qdf o
      obtain ⟨AA,cA,rfl,hcA,_⟩:=Kd.R_reads hRA2
      have HCA:=Aside0.mk (fun (w' : World) (hk : K2 w.heap.size (w.heap.size + 1 + 1) wA w') => (Kd.R_reads' (Kd.R_step hRA2 (fun k ho hlt => hk.block k hlt ho.1 ho.2))).2.2)
      have HKA:=Aside0.mk (HK.out.below hbA)
      have HMA:=Aside0.mk (show ∃ n1 n2,n1 ≤ 200 * i + o.f5.length ∧ n2 ≤ 12 * i ∧ MapE wA w.heap.size n1 (addS (goneS l0 (l0.take i)) o.f5) ∧ MapE wA (w.heap.size + 1 + 1) n2 (theS l0 (l0.take i)) by
       obtain ⟨n1,n2,h1,h2,h3,h4⟩:=HM.out
       rw [List.take_length] at h3
       exact ⟨n1,n2,h1,h2,h3.below hbA h3.lt,h4.below hbA h4.lt⟩)
      have HLA:=Aside0.mk (show (Qbd o).length ≤ 12 by rw [hlA]; exact HSZ.out)
      clear hRA hRA2 hlA hcA hbA HAL HK HM x0 x1 x2 x3 x4 x5 x6 x7 x8 x9 x10 hsr
      go_wp2
      go_loopg [42] (Qbd o).length (fun gg s42 w' => ∃ j : Nat,j ≤ (Qbd o).length ∧ (Qbd o).length - j ≤ gg ∧ s42 = .int .i64 j ∧ Aside0 (K2 w.heap.size (w.heap.size + 1 + 1) wA w') ∧ Aside0 (∃ n1 n2,n1 ≤ 200 * (i + 1) ∧ n2 ≤ 12 * i + j ∧ MapE w' w.heap.size n1 (addS (goneS l0 (l0.take i)) o.f5) ∧ MapE w' (w.heap.size + 1 + 1) n2 (addS (theS l0 (l0.take i)) ((Qbd o).take j))))
      case atStart =>
       obtain ⟨n1,n2,h1,h2,h3,h4⟩:=HMA.out
       exact ⟨0,Nat.zero_le _,by omega,rfl,⟨K2.refl _ _ _⟩,⟨n1,n2,by omega,by omega,h3,by rw [List.take_zero,addS_nil]; exact h4⟩⟩
      case round =>
       clear HMA
       obtain ⟨j,hj,hgk2,rfl,HK,HM⟩:=hrel
       have hcl:=HLA.out
       by_cases hjl : j < (Qbd o).length
       ·obtain ⟨g2,rfl⟩ : ∃ g2,gk = g2 + 1:=⟨gk - 1,by omega⟩
        have hjz : (j : Int) < ((Qbd o).length : Int):=by omega
        have hj0 : (0 : Int) ≤ (j : Int):=by omega
        obtain ⟨ad7,rfl,y0,y1,y2⟩:=Qba (HCA.out wr HK.out) (j : Int) hj0 hjz
        simp only [Int.toNat_natCast,Qat _ _ hjl] at y0 y1 y2
        have hxi:=chain_in HOI.out _ (List.getElem_mem hjl)
        have hsn:=addS_snoc (theS l0 (l0.take i)) ((Qbd o).take j) (Qbd o)[j]
        rw [← List.take_succ_eq_append_getElem hjl] at hsn
        generalize (Qbd o)[j] = x at y0 y1 y2 hxi hsn
        obtain ⟨n1,n2,h1,h2,h3,h4⟩:=HM.out
        have hal : Below wr.heap.size wr (wr.alloc (.cells #[.int .i64 x.f0, .int .i64 x.f1, .int .i64 x.f2] 43)):=Qag (Below.refl _ _) _
        obtain ⟨kl,hkl⟩:=keyE (x:=(x.f0,x.f1,x.f2)) hxi.1 hxi.2.1 hxi.2.2
        obtain ⟨w6,hrun,hm6,hg6⟩:=(h4.below hal h4.lt).store lawE Tryd.underlying117 Tryd.underlying4 (Nat.lt_of_le_of_lt (m:=10000) (by omega) (by decide)) encE_inj (x.f0,x.f1,x.f2) hkl
        rw [hsn] at hm6
        simp only [encE] at hrun
        have q1:=Qac hal (HK.out.cell (HKA.out.cell HC2.out (by show w.heap.size + 1 + 1 + 1 ≠ _; omega) (by show w.heap.size + 1 + 1 + 1 ≠ _; omega)) (by show w.heap.size + 1 + 1 + 1 ≠ _; omega) (by show w.heap.size + 1 + 1 + 1 ≠ _; omega))
        have HK6:=Aside0.mk ((HK.out.below hal).grown hg6 (.inr rfl))
        have HM6:=Aside0.mk (show ∃ n1 n2,n1 ≤ 200 * (i + 1) ∧ n2 ≤ 12 * i + (j + 1) ∧ MapE w6 w.heap.size n1 (addS (goneS l0 (l0.take i)) o.f5) ∧ MapE w6 (w.heap.size + 1 + 1) n2 (addS (theS l0 (l0.take i)) ((Qbd o).take (j + 1))) from
         ⟨n1,n2 + 1,h1,by omega,(h3.below hal h3.lt).kept hg6 (fun e => by injection e with e; omega),hm6⟩)
        clear h1 h2 h3 h4 hm6 hg6 hsn hxi hkl hal HM HK
        go_wp2
        go_roundg g2
        case measure => omega
        case rel => exact ⟨j + 1,by omega,by omega,by go_num,HK6,HM6⟩
       ·obtain rfl : j = (Qbd o).length:=by omega
        have hjz : ¬ ((Qbd o).length : Int) < ((Qbd o).length : Int):=by omega
        have HK8:=Aside0.mk (K2.trans HKA.out HK.out)
        have HM8:=Aside0.mk (show ∃ n1 n2,n1 ≤ 200 * (i + 1) ∧ n2 ≤ 12 * (i + 1) ∧ MapE wr w.heap.size n1 (goneS l0 (l0.take (i + 1))) ∧ MapE wr (w.heap.size + 1 + 1) n2 (theS l0 (l0.take (i + 1))) by
         obtain ⟨n1,n2,h1,h2,h3,h4⟩:=HM.out
         rw [List.take_length] at h4
         rw [List.take_succ_eq_append_getElem hlt,HOE.out,goneS_snoc,theS_snoc,HWK.out]
         exact ⟨n1,n2,h1,by omega,h3,h4⟩)
        clear HK HM
        go_wp2
        go_roundg g'
        case measure => omega
        case rel => exact ⟨i + 1,by omega,by omega,by go_num,HK8,HM8⟩
  ·obtain rfl : i = l0.length:=by omega
   have hltz : ¬ (l0.length : Int) < (l0.length : Int):=by omega
   have LW1:=LW.out
   have hbr : Below w.heap.size w wr:=K2.toBelow HBW.out HK.out (by omega) (Nat.le_refl _) (by omega)
   have HAL:=Aside0.mk (tree_All.calls A0 c0 l0 (ordL l0) wr (Kd.C_below HR0.out hbr) HC0.out (tree_All_f HSM.out HROW.out))
   have HBR:=Aside0.mk hbr
   clear hbr
   go_wp2_with fail
   refine HAL.out.mono ?_
   rintro e wA ⟨vA,rfl,hRA,hbA⟩
   obtain ⟨AA,cA,rfl⟩:=Kd.R_slice hRA
   have hsr:=HK.out.size
   have hlen : (ordL l0).length ≤ 200:=by rw [(Qdd HROW.out).2]; exact HROW.out.sums.2
   have hown:=Kd.R_base hRA
   have hD:=DeleteFuncElem 111 #[.pointer (some ⟨w.heap.size + 1,0,none⟩), .pointer (some ⟨w.heap.size + 1 + 1 + 1,0,none⟩)] wr.heap.size cA AA (ordL l0) (fun x => goneS l0 l0 (x.f0,x.f1,x.f2) || !theS l0 l0 (x.f0,x.f1,x.f2)) wA
    (enters_at Tryd.func111 (by kernel_rfl) rfl) (by omega) hRA (fun W x hx hg => by
     obtain ⟨n1,n2,h1,h2,h3,h4⟩:=HM.out
     rw [List.take_length] at h3 h4
     have a3:=(h3.below hbA h3.lt).kept hg (fun e => by have:=hown _ e.symm; omega)
     have a4:=(h4.below hbA h4.lt).kept hg (fun e => by have:=hown _ e.symm; omega)
     have k1:=Qac hbA (HK.out.cell HC1.out (by show w.heap.size + 1 ≠ _; omega) (by show w.heap.size + 1 ≠ _; omega))
     have k2:=Qac hbA (HK.out.cell HC2.out (by show w.heap.size + 1 + 1 + 1 ≠ _; omega) (by show w.heap.size + 1 + 1 + 1 ≠ _; omega))
     have k1':=Qap hg (fun e => by have:=hown _ e.symm; simp only at this; omega) k1
     have k2':=Qap hg (fun e => by have:=hown _ e.symm; simp only at this; omega) k2
     exact seen1_calls _ _ _ _ n1 n2 x _ _ W k1' k2' a3 a4 (ord_in HROW.out x hx))
   have HD:=Aside0.mk hD
   have HBA:=Aside0.mk (Qav HBR.out hbA)
   have HOWN:=Aside0.mk hown
   have HSZ:=Aside0.mk hbA.size
   clear hD hRA hbA hown
   go_wp2_with fail
   refine HD.out.mono ?_
   rintro e w2 ⟨v,rfl,hRv,hgv⟩
   have HRV:=Aside0.mk hRv
   have HGV:=Aside0.mk hgv
   clear hRv hgv
   go_wp2
   go_ret
   have hz:=HBR.out.size
   have hzA:=HSZ.out
   refine ⟨_,rfl,Kd.R_lower HRV.out hz,pw_below_grown HBA.out _ HBA.out.size HGV.out (fun k hk => by have:=HOWN.out k hk; omega)⟩
end
section
attribute [local go_sem] Qbp Qbn Qby Qbx Qbc Qbb Qbo Qbm
def caret_Set.j0 : Nat → Int → List (SElem) → Bool → Option (Int × Int × Int × Int)
 | 0,_,_,_ => none
 | k + 1,x1,x6,x13 => if x13 = true then (some (0,0,0,2)) else (if x1 = 0 then (some (0,0,0,0)) else (if 0 ≤ (wrap64 (x1 - 1)) then (if (wrap64 (x1 - 1)) < (x6.length : Int) then (some ((Qaa x6 (wrap64 (x1 - 1))).f0,(Qaa x6 (wrap64 (x1 - 1))).f1,(Qaa x6 (wrap64 (x1 - 1))).f2,0)) else (none)) else (none)))
def caret_Set.f (k : Nat) (l0 : List (SOp)) (a1 : Int) : Option (Int × Int × Int × Int):=(tree_May.f l0).bind fun t322 => (if t322 = true then ((doc_Seen.f l0).bind fun t323 => (if a1 < 0 then (caret_Set.j0 k a1 t323 true) else (caret_Set.j0 k a1 t323 (decide (a1 > (t323.length : Int)))))) else (some (0,0,0,1)))
theorem caret_Set.mono_l : ∀ k,(∀ y0 y1 y2,LeO (caret_Set.j0 k y0 y1 y2) (caret_Set.j0 (k + 1) y0 y1 y2))
 | 0 => fun _ _ _ r h => by simp [caret_Set.j0] at h
 | k + 1 => by
  have ih0:=caret_Set.mono_l k
  ·intro y0 y1 y2
   unfold caret_Set.j0
   repeat' first
   | (with_reducible exact ih0 _ _ _)
   | (with_reducible exact LeO.refl _)
   | (with_reducible exact LeO.none _)
   | (with_reducible refine LeO.ite ?_ ?_)
   | (with_reducible refine LeO.bind ?_ (fun _ => ?_))
   | exact ih0 _ _ _
   | exact LeO.none _
   | refine LeO.ite ?_ ?_
   | refine LeO.bind ?_ (fun _ => ?_)
theorem caret_Set.mono : ∀ a0 a1 k,LeO (caret_Set.f k a0 a1) (caret_Set.f (k + 1) a0 a1):=by
 intro a0 a1 k
 have ih0:=caret_Set.mono_l k
 unfold caret_Set.f
 repeat' first
   | (with_reducible exact ih0 _ _ _)
   | (with_reducible exact LeO.refl _)
   | (with_reducible exact LeO.none _)
   | (with_reducible refine LeO.ite ?_ ?_)
   | (with_reducible refine LeO.bind ?_ (fun _ => ?_))
   | exact ih0 _ _ _
   | exact LeO.none _
   | refine LeO.ite ?_ ?_
   | refine LeO.bind ?_ (fun _ => ?_)
theorem caret_Set.calls (k : Nat) (A0 : Option Addr) (c0 : Nat) (l0 : List (SOp)) (a1 : Int) (r1 : Int) (r2 : Int) (r3 : Int) (r4 : Int) (w : World) (hr0 : Kd.C kOp w A0 l0.length l0) (hc0 : l0.length ≤ c0) (h : caret_Set.f k l0 a1 = some (r1,r2,r3,r4)) :
  Calls Tryd.prog 32 #[.slice A0 l0.length c0, .int .i64 a1] w fun e w' => e = .returned (.tuple #[.agg #[.int .i64 r1, .int .i64 r2, .int .i64 r3], .int .i64 r4]) ∧ Below w.heap.size w w':=by
 have hu43:=Tryd.underlying43
 have HR0:=Aside0.mk hr0
 have HC0:=Aside0.mk hc0
 clear hr0 hc0
 have HB:=Aside0.mk (Below.refl w.heap.size w)
 unfold caret_Set.f at h; have H:=h
 clear h
 obtain ⟨t322,A3,H⟩:=bE H
 by_cases c4 : t322 = true; rotate_left
 ·replace c4:=Bool.eq_false_iff.mpr c4
  subst c4
  rw [if_neg nft] at H
  simp only [Option.some.injEq,Prod.mk.injEq] at H
  obtain ⟨rfl,rfl,rfl,rfl⟩:=H
  go_enter Tryd.func32,Tryd.ntmps32
  go_wp2_with (first | ((with_reducible refine Qae (N:=4) rfl ?_); (try (refine Qao (by rfl) ?_; dsimp only)); refine bx 4 #[.int .i64 0, .int .i64 0, .int .i64 0] 43 (h := ?_); intro gb321 hg w21 hbox hb; have BK321:=Aside0.mk (hbox); have GW321:=bz HB hg; have GE321:=bz HB hg; replace HB:=bs HB hb; clear hb hbox hg) | ((with_reducible refine Qab (f:=60) rfl ?_); refine gl (some 8) Tryd.func60 #[.slice A0 l0.length c0] (h := ?_); (with_reducible refine (tree_May.calls _ _ l0 false _ ?side1 ?side2 A3.out).mono ?_); (case side1 => exact cb HR0 HB); (case side2 => exact HC0.out); rintro e w22 ⟨rfl,hb⟩; refine ⟨_,rfl, ?_⟩; replace BK321:=bl BK321 hb; replace HB:=bs HB hb; clear hb; obtain ⟨_,_,_,_,_,_⟩:=kc3 BK321))
  refine bodyPost_ret (Qch rfl _ _ gb321 43 #[.int .i64 0, .int .i64 0, .int .i64 0] (0,0) _ rfl (bp (bp (bp (kk BK321) 0) 1) 2) Tryd.underlying43 rfl (by kernel_rfl)) rfl ?_
  exact ⟨re,bw HB⟩
 subst c4
 rw [if_pos rfl] at H
 obtain ⟨t323,A5,H⟩:=bE H
 have HC6:=Aside0.mk H
 clear H
 go_enter Tryd.func32,Tryd.ntmps32
 go_upto_region 4 with (first | ((with_reducible refine Qae (N:=4) rfl ?_); (try (refine Qao (by rfl) ?_; dsimp only)); refine bx 4 #[.int .i64 0, .int .i64 0, .int .i64 0] 43 (h := ?_); intro gb321 hg w7 hbox hb; have BK321:=Aside0.mk (hbox); have GW321:=bz HB hg; have GE321:=bz HB hg; replace HB:=bs HB hb; clear hb hbox hg) | ((with_reducible refine Qab (f:=60) rfl ?_); refine gl (some 8) Tryd.func60 #[.slice A0 l0.length c0] (h := ?_); (with_reducible refine (tree_May.calls _ _ l0 true _ ?side1 ?side2 A3.out).mono ?_); (case side1 => exact cb HR0 HB); (case side2 => exact HC0.out); rintro e w8 ⟨rfl,hb⟩; refine ⟨_,rfl, ?_⟩; replace BK321:=bl BK321 hb; replace HB:=bs HB hb; clear hb) | ((with_reducible refine Qab (f:=77) rfl ?_); refine gl (some 12) Tryd.func77 #[.slice A0 l0.length c0] (h := ?_); (with_reducible refine (doc_Seen.calls _ _ l0 t323 _ ?side1 ?side2 A5.out).mono ?_); (case side1 => exact cb HR0 HB); (case side2 => exact HC0.out); rintro e w9 ⟨v324,rfl,ho0,hb⟩; refine ⟨_,rfl, ?_⟩; have HO325:=Aside0.mk (Kd.R_lower (Kd.R_newB ho0 (kk BK321)) (Qai (bw HB))); replace BK321:=bl BK321 hb; replace HB:=bs HB hb; clear hb; clear ho0))
 (try simp only [Act.put,List.setIfInBounds_toArray,List.set_cons_zero,List.set_cons_succ])
 go_cut [13] (fun v13 wc => ∃ (kq : Nat) (x13_5 : Bool),v13 = .bool x13_5 ∧ Aside0 (caret_Set.j0 kq a1 t323 x13_5 = some (r1,r2,r3,r4)) ∧ Aside0 (kq ≤ k) ∧ Aside0 (Kd.R Qaq 43 wc w.heap.size (fun k_ => k_ ≠ gb321) v324 t323) ∧ Aside0 (wc.heap[gb321]? = some (.cells #[.int .i64 0, .int .i64 0, .int .i64 0] 43 (0,0))) ∧ Aside0 (Below w.heap.size w wc))
 case first =>
  have H:=HC6.out
  clear HC6
  by_cases c10 : a1 < 0
  ·rw [if_pos c10] at H
   have c10b0:=decide_eq_true c10
   clear c10
   (first | rw [c10b0] | (simp only [Qaw,Qay]; rw [c10b0]) | skip)
   have H':=Aside0.mk H
   clear H
   go_wp2
   go_meet
   case rel => exact ⟨_,(true),rf,H',⟨by first | omega | exact Nat.le_refl _⟩,⟨by (with_reducible repeat (first | apply Kd.R_alloc | apply Kd.R_drewN | apply Kd.R_drew)); exact Kd.R_mono HO325.out (fun _ hk => hk.2)⟩,⟨kk BK321⟩,⟨bw HB⟩⟩
  rw [if_neg c10] at H
  have c10b0:=decide_eq_false c10
  clear c10
  (first | rw [c10b0] | (simp only [Qaw,Qay]; rw [c10b0]) | skip)
  have H':=Aside0.mk H
  clear H
  obtain ⟨Ao11,co11,eo11⟩:=Kd.R_slice HO325.out
  subst eo11
  go_wp2
  go_meet
  case rel => exact ⟨_,(decide (a1 > (t323.length : Int))),rf,H',⟨by first | omega | exact Nat.le_refl _⟩,⟨by (with_reducible repeat (first | apply Kd.R_alloc | apply Kd.R_drewN | apply Kd.R_drew)); exact Kd.R_mono HO325.out (fun _ hk => hk.2)⟩,⟨kk BK321⟩,⟨bw HB⟩⟩
 case rest =>
  clear HC6
  try clear c4
  obtain ⟨kq,x13_5,rfl,HA,HJ5,HO_6,BK321,HB⟩:=hcut
  cases kq with
  | zero => exact absurd HA.out (by simp [caret_Set.j0])
  | succ kj5 =>
   have H:=HA.out
   clear HA
   simp only [caret_Set.j0] at H
   by_cases c12 : x13_5 = true
   ·subst c12
    rw [if_pos rfl] at H
    simp only [Option.some.injEq,Prod.mk.injEq] at H
    obtain ⟨rfl,rfl,rfl,rfl⟩:=H
    obtain ⟨_,_,_,_,_,_⟩:=kc3 BK321
    go_wp2
    refine bodyPost_ret (Qch rfl _ _ gb321 43 #[.int .i64 0, .int .i64 0, .int .i64 0] (0,0) _ rfl (bp (bp (bp (kk BK321) 0) 1) 2) Tryd.underlying43 rfl (by kernel_rfl)) rfl ?_
    exact ⟨re,bw HB⟩
   replace c12:=Bool.eq_false_iff.mpr c12
   subst c12
   rw [if_neg nft] at H
   by_cases c14 : a1 = 0
   ·rw [if_pos c14] at H
    obtain ⟨c14b0,c14b1⟩:=bT c14
    clear c14
    simp only [Option.some.injEq,Prod.mk.injEq] at H
    obtain ⟨rfl,rfl,rfl,rfl⟩:=H
    obtain ⟨_,_,_,_,_,_⟩:=kc3 BK321
    go_wp2
    refine bodyPost_ret (Qch rfl _ _ gb321 43 #[.int .i64 0, .int .i64 0, .int .i64 0] (0,0) _ rfl (bp (bp (bp (kk BK321) 0) 1) 2) Tryd.underlying43 rfl (by kernel_rfl)) rfl ?_
    exact ⟨re,bw HB⟩
   rw [if_neg c14] at H
   obtain ⟨c14b0,c14b1⟩:=bF c14
   obtain ⟨ji16,hji16⟩ : ∃ j_ : Int,(wrap64 (a1 - 1)) = j_:=⟨_,rfl⟩
   replace H : (if 0 ≤ (ji16) then (if (ji16) < (t323.length : Int) then (some ((Qaa t323 (ji16)).f0,(Qaa t323 (ji16)).f1,(Qaa t323 (ji16)).f2,0)) else (none)) else (none)) = some (r1,r2,r3,r4):=by first | (rw [hji16] at H; exact H) | (simp only [hji16] at H ⊢; exact H)
   have hji16w : (IntKind.i64.wrap (a1 - 1)) = ji16:=(Qaw _).trans hji16
   by_cases c17 : 0 ≤ (ji16); rotate_left
   ·rw [if_neg c17] at H
    exact absurd H (by simp)
   rw [if_pos c17] at H
   have c17b0:=decide_eq_true c17
   clear c17
   by_cases c18 : (ji16) < (t323.length : Int); rotate_left
   ·rw [if_neg c18] at H
    exact absurd H (by simp)
   rw [if_pos c18] at H
   have c18b0:=decide_eq_true c18
   clear c18
   simp only [Option.some.injEq,Prod.mk.injEq] at H
   obtain ⟨rfl,rfl,rfl,rfl⟩:=H
   obtain ⟨Ao19,co19,eo19⟩:=Kd.R_slice HO_6.out
   subst eo19
   have p326 : 0 ≤ ((ji16) : Int):=od
   have q326 : (ji16) < (t323.length : Int):=od
   obtain ⟨ad326,e326,hx326_0,hx326_1,hx326_2⟩:=Qba (Kd.R_reads' HO_6.out).2.2 (ji16) p326 q326
   cases e326
   replace p326:=eq_true p326
   replace q326:=eq_true q326
   obtain ⟨_,_,_,_,_,_⟩:=kc3 BK321
   go_wp2
   refine bodyPost_ret (Qch rfl _ _ gb321 43 #[.int .i64 ((Qaa t323 (ji16)).f0), .int .i64 ((Qaa t323 (ji16)).f1), .int .i64 ((Qaa t323 (ji16)).f2)] (0,0) _ rfl (bp (bp (bp (kk BK321) 0) 1) 2) Tryd.underlying43 rfl (by kernel_rfl)) rfl ?_
   exact ⟨by first | rfl | (simp [Qbu,Qbt] <;> rfl) | (simp only [← hji16]; first | rfl | (simp [Qbu,Qbt] <;> rfl)) | (simp [*,Qbu,Qbt] <;> rfl),bw HB⟩
def w11_num.f (a0 : Int) : Option (Int):=some a0
theorem w11_num.calls (a0 : Int) (r : Int) (w : World) (h : w11_num.f a0 = some r) :
  Calls Tryd.prog 33 #[.int .i64 a0] w fun e w' => e = .returned (.int .i64 r) ∧ Drawn0 w w':=by
 unfold w11_num.f at h; have H:=h
 clear h
 obtain rfl:=Option.some.inj H
 go_enter Tryd.func33,Tryd.ntmps33
 go_wp2
 go_ret
 exact ⟨rf,by repeat (first | exact Drawn0.refl _ | apply Drawn0.step)⟩
def r0_CopyElems.l0 : Nat → List (SElem) → List (SElem) → Int → Option ((List (SElem)))
 | 0,_,_,_ => none
 | k + 1,x0,x3,x4 => if x4 < (x0.length : Int) then (if 0 ≤ x4 then (if x3.length < 5864062014805 then (r0_CopyElems.l0 k x0 (x3 ++ [(⟨(Qaa x0 x4).f0,(Qaa x0 x4).f1,(Qaa x0 x4).f2⟩ : SElem)]) (wrap64 (x4 + 1))) else (none)) else (none)) else (some x3)
def r0_CopyElems.f (k : Nat) (l0 : List (SElem)) : Option ((List (SElem))):=r0_CopyElems.l0 k l0 ([] : List (SElem)) 0
theorem r0_CopyElems.calls (k : Nat) (A0 : Option Addr) (c0 : Nat) (l0 : List (SElem)) (r : List (SElem)) (w : World) (hr0 : Kd.C Qaq w A0 l0.length l0) (hc0 : l0.length ≤ c0) (h : r0_CopyElems.f k l0 = some r) :
  Calls Tryd.prog 83 #[.slice A0 l0.length c0] w fun e w' => ∃ v0_ : Value,e = .returned (v0_) ∧ Kd.R Qaq 43 w' w.heap.size (fun _ => True) v0_ r ∧ Below w.heap.size w w':=by
 have hu43:=Tryd.underlying43
 have HR0:=Aside0.mk hr0
 have HC0:=Aside0.mk hc0
 clear hr0 hc0
 have HB:=Aside0.mk (Below.refl w.heap.size w)
 unfold r0_CopyElems.f at h; have H:=h
 clear h
 have H':=Aside0.mk H
 clear H
 go_enter Tryd.func83,Tryd.ntmps83
 go_wp2
 go_loopg [3,4] k (fun kq v3 v4 w' => ∃ (x3_1 : List (SElem)) (x4_1 : Int),v4 = .int .i64 x4_1 ∧ Aside0 (r0_CopyElems.l0 kq l0 x3_1 x4_1 = some r) ∧ Aside0 (kq ≤ k) ∧ Aside0 (Kd.R Qaq 43 w' w.heap.size (fun _ => True) v3 x3_1) ∧ Aside0 (Below w.heap.size w w'))
 case atStart => exact ⟨(([] : List (SElem))),(0),rf,H',⟨Nat.le_refl _⟩,⟨by first | exact Kd.R_nil _ _ _ _ _ | exact Kd.N_nil _ _ _ _ _ | exact Kd.V_nil _ _ _ _ _ | exact Kd.Q_nil _ _ _ _ _ | exact Kd.S_nil _ _ _ _ _⟩,⟨bw HB⟩⟩
 case round =>
  clear H'
  obtain ⟨x3_1,x4_1,rfl,HA,HK1,HO_3,HB⟩:=hrel
  cases gk with
  | zero => exact absurd HA.out (by simp [r0_CopyElems.l0])
  | succ k1 =>
   have H:=HA.out
   clear HA
   simp only [r0_CopyElems.l0] at H
   by_cases c2 : x4_1 < (l0.length : Int); rotate_left
   ·rw [if_neg c2] at H
    have c2b0:=decide_eq_false c2
    clear c2
    obtain rfl:=Option.some.inj H
    go_wp2
    go_ret
    exact ⟨_,re,by (with_reducible repeat (first | apply Kd.R_alloc | apply Kd.R_drewN | apply Kd.R_drew)); exact HO_3.out,bw HB⟩
   rw [if_pos c2] at H
   have c2b0:=decide_eq_true c2
   clear c2
   by_cases c3 : 0 ≤ x4_1; rotate_left
   ·rw [if_neg c3] at H
    exact absurd H (by simp)
   rw [if_pos c3] at H
   have c3b0:=decide_eq_true c3
   clear c3
   by_cases c4 : x3_1.length < 5864062014805; rotate_left
   ·rw [if_neg c4] at H
    exact absurd H (by simp)
   rw [if_pos c4] at H
   have LMc4:=Aside0.mk c4
   clear c4
   obtain ⟨y328,hy328⟩ : ∃ y_ : List (SElem),y_ = (x3_1 ++ [(⟨(Qaa l0 x4_1).f0,(Qaa l0 x4_1).f1,(Qaa l0 x4_1).f2⟩ : SElem)]):=⟨_,rfl⟩
   first | rw [Option.bind_some,← hy328] at H | rw [← hy328] at H
   have Ny328:=Aside0.mk hy328
   clear hy328
   have H':=Aside0.mk H
   clear H
   have p327 : 0 ≤ (x4_1 : Int):=od
   have q327 : x4_1 < (l0.length : Int):=od
   obtain ⟨ad327,e327,hx327_0,hx327_1,hx327_2⟩:=Qba HR0.out x4_1 p327 q327
   cases e327
   replace hx327_0:=cl HB hx327_0
   replace hx327_1:=cl HB hx327_1
   replace hx327_2:=cl HB hx327_2
   replace p327:=eq_true p327
   replace q327:=eq_true q327
   go_wp2_with (first | ((with_reducible refine Qcf (b:=.append) (xs:=#[.tmp 11, .tmp 16]) rfl ?_); at_builtin; refine Kd.R_append Qaq (w0:=w) w.heap.size rfl (.tmp 11) (.tmp 16) 23 43 (.agg #[(.int .i64 0),(.int .i64 0),(.int .i64 0)]) 24 rfl Tryd.underlying23 info43 rfl (by decide) (by omega) u3 x3_1 (⟨(Qaa l0 x4_1).f0,(Qaa l0 x4_1).f1,(Qaa l0 x4_1).f2⟩ : SElem) [.int .i64 ((Qaa l0 x4_1).f0), .int .i64 ((Qaa l0 x4_1).f1), .int .i64 ((Qaa l0 x4_1).f2)] (fun _ => True) (fun _ => False) rfl rfl ?aP (fun _ hk => hk.elim) ?aF ?aO ?aB ?aS ?aL ?_; (case aP => exact Qbs _ _ _ (⟨(Qaa l0 x4_1).f0,(Qaa l0 x4_1).f1,(Qaa l0 x4_1).f2⟩ : SElem)); (case aB => exact (bw HB)); (case aF => exact (fun _ _ => trivial)); (case aO => exact (rk HO_3)); (case aS => exact (Qai (bw HB))); (case aL => have:=LMc4.out; omega); intro v329 w5 ho hb hg hat; rw [← Ny328.out] at ho; have n0_:=Aside0.mk (hb); have n1_:=Aside0.mk (ho); clear HB; clear HO_3; have HB:=n0_; have HO330:=n1_; clear n0_ n1_; clear ho hb hg hat))
   go_roundg k1
   case measure => have:=HK1.out; omega
   case rel => exact ⟨(y328),(wrap64 (x4_1 + 1)),rf,H',⟨by have:=HK1.out; omega⟩,⟨rk HO330⟩,⟨bw HB⟩⟩
def r0_CopyOp.f (k : Nat) (a0_0 : Int) (a0_1 : Int) (a0_2 : Int) (a0_3 : Int) (a0_4 : Int) (a0_5 : Int) (a0_6 : ByteArray) (l0_7 : List (SElem)) (a0_8 : Int) (a0_9 : Int) (a0_10 : Int) : Option (Int × Int × Int × Int × Int × Int × ByteArray × (List (SElem)) × Int × Int × Int):=(r0_CopyElems.f k l0_7).bind fun t334 => (some (a0_0,a0_1,a0_2,a0_3,a0_4,a0_5,a0_6,t334,a0_8,a0_9,a0_10))
theorem r0_CopyOp.calls (k : Nat) (a0_0 : Int) (a0_1 : Int) (a0_2 : Int) (a0_3 : Int) (a0_4 : Int) (a0_5 : Int) (a0_6 : ByteArray) (A0_7 : Option Addr) (c0_7 : Nat) (l0_7 : List (SElem)) (a0_8 : Int) (a0_9 : Int) (a0_10 : Int) (r1 : Int) (r2 : Int) (r3 : Int) (r4 : Int) (r5 : Int) (r6 : Int) (r7 : ByteArray) (r8 : List (SElem)) (r9 : Int) (r10 : Int) (r11 : Int) (w : World) (hr0_7 : Kd.C Qaq w A0_7 l0_7.length l0_7) (hc0_7 : l0_7.length ≤ c0_7) (h : r0_CopyOp.f k a0_0 a0_1 a0_2 a0_3 a0_4 a0_5 a0_6 l0_7 a0_8 a0_9 a0_10 = some (r1,r2,r3,r4,r5,r6,r7,r8,r9,r10,r11)) :
  Calls Tryd.prog 39 #[.agg #[.int .i64 a0_0, .int .i64 a0_1, .int .i64 a0_2, .int .i64 a0_3, .int .i64 a0_4, .int .i64 a0_5, .string a0_6, .slice A0_7 l0_7.length c0_7, .int .i64 a0_8, .int .i64 a0_9, .int .i64 a0_10]] w fun e w' => ∃ v7_ : Value,e = .returned (.agg #[.int .i64 r1, .int .i64 r2, .int .i64 r3, .int .i64 r4, .int .i64 r5, .int .i64 r6, .string r7,v7_, .int .i64 r9, .int .i64 r10, .int .i64 r11]) ∧ Kd.R Qaq 43 w' w.heap.size (fun _ => True) v7_ r8 ∧ Below w.heap.size w w':=by
 have hu55:=Tryd.underlying55
 have HR0_7:=Aside0.mk hr0_7
 have HC0_7:=Aside0.mk hc0_7
 clear hr0_7 hc0_7
 have HB:=Aside0.mk (Below.refl w.heap.size w)
 unfold r0_CopyOp.f at h; have H:=h
 clear h
 obtain ⟨t334,A2,H⟩:=bE H
 simp only [Option.some.injEq,Prod.mk.injEq] at H
 obtain ⟨rfl,rfl,rfl,rfl,rfl,rfl,rfl,rfl,rfl,rfl,rfl⟩:=H
 go_enter Tryd.func39,Tryd.ntmps39
 go_wp2_with (first | ((with_reducible refine Qae (N:=1) rfl ?_); refine bx 1 #[.int .i64 a0_0, .int .i64 a0_1, .int .i64 a0_2, .int .i64 a0_3, .int .i64 a0_4, .int .i64 a0_5, .string a0_6, .slice A0_7 l0_7.length c0_7, .int .i64 a0_8, .int .i64 a0_9, .int .i64 a0_10] 55 (h := ?_); intro gb331 hg w3 hbox hb; have BK331:=Aside0.mk (hbox); have GW331:=bz HB hg; have GE331:=bz HB hg; replace HB:=bs HB hb; clear hb hbox hg) | ((with_reducible refine Qae (N:=2) rfl ?_); refine bx 2 #[.int .i64 0, .int .i64 0, .int .i64 0, .int .i64 0, .int .i64 0, .int .i64 0, .string (⟨#[]⟩ : ByteArray), .slice none 0 0, .int .i64 0, .int .i64 0, .int .i64 0] 55 (h := ?_); intro gb332 hg w4 hbox hb; have BK332:=Aside0.mk (hbox); have GW332:=bz HB hg; have GE332:=bz HB hg; have NB331_332:=bn BK331 hg; have NB332_331:=bm BK331 hg; replace BK331:=bl BK331 hb; replace HB:=bs HB hb; clear hb hbox hg; have hnb5:=NB331_332.out; have hnc5:=NB332_331.out; obtain ⟨_,_,_,_,_,_,_,_,_,_,_,_,_,_,_,_,_,_,_,_,_,_⟩:=kc11 BK331) | ((with_reducible refine Qae (N:=3) rfl ?_); refine bx 3 #[.int .i64 0, .int .i64 0, .int .i64 0, .int .i64 0, .int .i64 0, .int .i64 0, .string (⟨#[]⟩ : ByteArray), .slice none 0 0, .int .i64 0, .int .i64 0, .int .i64 0] 55 (h := ?_); intro gb333 hg w7 hbox hb; have BK333:=Aside0.mk (hbox); have GW333:=bz HB hg; have GE333:=bz HB hg; have NB331_333:=bn BK331 hg; have NB333_331:=bm BK331 hg; have NB332_333:=bn BK332 hg; have NB333_332:=bm BK332 hg; replace BK331:=bl BK331 hb; replace BK332:=bl BK332 hb; replace HB:=bs HB hb; clear hb hbox hg; have hnb8:=NB333_331.out; have hnc8:=NB331_333.out; have hnb9:=NB333_332.out; have hnc9:=NB332_333.out; obtain ⟨_,_,_,_,_,_,_,_,_,_,_,_,_,_,_,_,_,_,_,_,_,_⟩:=kc11 BK333; obtain ⟨_,_,_,_,_,_,_,_,_,_,_,_,_,_,_,_,_,_,_,_,_,_⟩:=kc11 BK331) | ((with_reducible refine Qab (f:=83) rfl ?_); refine gl (some 7) Tryd.func83 #[.slice A0_7 l0_7.length c0_7] (h := ?_); (with_reducible refine (r0_CopyElems.calls k _ _ l0_7 t334 _ ?side1 ?side2 A2.out).mono ?_); (case side1 => exact Kd.C_below HR0_7.out (bw HB)); (case side2 => exact HC0_7.out); rintro e w12 ⟨v335,rfl,ho0,hb⟩; refine ⟨_,rfl, ?_⟩; have HO336:=Aside0.mk (Kd.R_lower ho0 (Qai (bw HB))); replace BK331:=bl BK331 hb; replace BK332:=bl BK332 hb; replace BK333:=Aside0.mk (Qbl (bp11 (kk BK333)) hb); replace HB:=bs HB hb; clear hb; clear ho0; obtain ⟨Ao13,co13,eo13⟩:=Kd.R_slice HO336.out; subst eo13; obtain ⟨_,_,_,_,_,_,_,_,_,_,_,_,_,_,_,_,_,_,_,_,_,_⟩:=kc11 BK333; obtain ⟨_,_,_,_,_,_,_,_,_,_,_,_,_,_,_,_,_,_,_,_,_,_⟩:=kc11 BK332))
 refine bodyPost_ret (results_cell_row rfl _ _ gb332 55 #[.int .i64 a0_0, .int .i64 a0_1, .int .i64 a0_2, .int .i64 a0_3, .int .i64 a0_4, .int .i64 a0_5, .string a0_6, .slice Ao13 t334.length co13, .int .i64 a0_8, .int .i64 a0_9, .int .i64 a0_10] (0,0) _ rfl (by (with_reducible repeat (first | refine Qbv ?_ _ | refine Qan ?_ | refine Qaz ?_ _)); refine Qcb (cs:=#[.int .i64 a0_0, .int .i64 a0_1, .int .i64 a0_2, .int .i64 a0_3, .int .i64 a0_4, .int .i64 a0_5, .string a0_6, .slice Ao13 t334.length co13, .int .i64 a0_8, .int .i64 a0_9, .int .i64 0]) ?_ 10 _ rfl; (with_reducible repeat (first | refine Qbv ?_ _ | refine Qan ?_ | refine Qaz ?_ _)); refine Qcb (cs:=#[.int .i64 a0_0, .int .i64 a0_1, .int .i64 a0_2, .int .i64 a0_3, .int .i64 a0_4, .int .i64 a0_5, .string a0_6, .slice Ao13 t334.length co13, .int .i64 a0_8, .int .i64 0, .int .i64 0]) ?_ 9 _ rfl; (with_reducible repeat (first | refine Qbv ?_ _ | refine Qan ?_ | refine Qaz ?_ _)); refine Qcb (cs:=#[.int .i64 a0_0, .int .i64 a0_1, .int .i64 a0_2, .int .i64 a0_3, .int .i64 a0_4, .int .i64 a0_5, .string a0_6, .slice Ao13 t334.length co13, .int .i64 0, .int .i64 0, .int .i64 0]) ?_ 8 _ rfl; (with_reducible repeat (first | refine Qbv ?_ _ | refine Qan ?_ | refine Qaz ?_ _)); refine Qcb (cs:=#[.int .i64 a0_0, .int .i64 a0_1, .int .i64 a0_2, .int .i64 a0_3, .int .i64 a0_4, .int .i64 a0_5, .string a0_6, .slice none 0 0, .int .i64 0, .int .i64 0, .int .i64 0]) ?_ 7 _ rfl; (with_reducible repeat (first | refine Qbv ?_ _ | refine Qan ?_ | refine Qaz ?_ _)); refine Qcb (cs:=#[.int .i64 a0_0, .int .i64 a0_1, .int .i64 a0_2, .int .i64 a0_3, .int .i64 a0_4, .int .i64 a0_5, .string (⟨#[]⟩ : ByteArray), .slice none 0 0, .int .i64 0, .int .i64 0, .int .i64 0]) ?_ 6 _ rfl; (with_reducible repeat (first | refine Qbv ?_ _ | refine Qan ?_ | refine Qaz ?_ _)); refine Qcb (cs:=#[.int .i64 a0_0, .int .i64 a0_1, .int .i64 a0_2, .int .i64 a0_3, .int .i64 a0_4, .int .i64 0, .string (⟨#[]⟩ : ByteArray), .slice none 0 0, .int .i64 0, .int .i64 0, .int .i64 0]) ?_ 5 _ rfl; (with_reducible repeat (first | refine Qbv ?_ _ | refine Qan ?_ | refine Qaz ?_ _)); refine Qcb (cs:=#[.int .i64 a0_0, .int .i64 a0_1, .int .i64 a0_2, .int .i64 a0_3, .int .i64 0, .int .i64 0, .string (⟨#[]⟩ : ByteArray), .slice none 0 0, .int .i64 0, .int .i64 0, .int .i64 0]) ?_ 4 _ rfl; (with_reducible repeat (first | refine Qbv ?_ _ | refine Qan ?_ | refine Qaz ?_ _)); refine Qcb (cs:=#[.int .i64 a0_0, .int .i64 a0_1, .int .i64 a0_2, .int .i64 0, .int .i64 0, .int .i64 0, .string (⟨#[]⟩ : ByteArray), .slice none 0 0, .int .i64 0, .int .i64 0, .int .i64 0]) ?_ 3 _ rfl; (with_reducible repeat (first | refine Qbv ?_ _ | refine Qan ?_ | refine Qaz ?_ _)); refine Qcb (cs:=#[.int .i64 a0_0, .int .i64 a0_1, .int .i64 0, .int .i64 0, .int .i64 0, .int .i64 0, .string (⟨#[]⟩ : ByteArray), .slice none 0 0, .int .i64 0, .int .i64 0, .int .i64 0]) ?_ 2 _ rfl; (with_reducible repeat (first | refine Qbv ?_ _ | refine Qan ?_ | refine Qaz ?_ _)); refine Qcb (cs:=#[.int .i64 a0_0, .int .i64 0, .int .i64 0, .int .i64 0, .int .i64 0, .int .i64 0, .string (⟨#[]⟩ : ByteArray), .slice none 0 0, .int .i64 0, .int .i64 0, .int .i64 0]) ?_ 1 _ rfl; (with_reducible repeat (first | refine Qbv ?_ _ | refine Qan ?_ | refine Qaz ?_ _)); refine Qcb (cs:=#[.int .i64 0, .int .i64 0, .int .i64 0, .int .i64 0, .int .i64 0, .int .i64 0, .string (⟨#[]⟩ : ByteArray), .slice none 0 0, .int .i64 0, .int .i64 0, .int .i64 0]) ?_ 0 _ rfl; (with_reducible repeat (first | refine Qbv ?_ _ | refine Qan ?_ | refine Qaz ?_ _)); refine blk_far ?_ NB332_333.out _; (with_reducible repeat (first | refine Qbv ?_ _ | refine Qan ?_ | refine Qaz ?_ _)); exact BK332.out) Tryd.underlying55 rfl (by kernel_rfl)) rfl ?_
 exact ⟨_,re,by (with_reducible repeat (first | apply Kd.R_alloc | apply Kd.R_drewN | apply Kd.R_drew)); exact Kd.R_mono (rf11 (Kd.R_far (p:=⟨gb333,7,none⟩) (Kd.R_types (Kd.R_types HO336.out BK333.out (by decide)) BK332.out (by decide)) (fun _ hk => hk.1.2) (.slice Ao13 t334.length co13))) (fun _ hk => trivial),bw HB⟩
def r0_CopyOps.l0 : Nat → List (SOp) → List (SOp) → Int → Option ((List (SOp)))
 | 0,_,_,_ => none
 | k + 1,x0,x3,x4 => if x4 < (x0.length : Int) then (if 0 ≤ x4 then ((r0_CopyOp.f k ((Qad x0 x4).f0) ((Qad x0 x4).f1) ((Qad x0 x4).f2) ((Qad x0 x4).f3.f0) ((Qad x0 x4).f3.f1) ((Qad x0 x4).f3.f2) ((Qad x0 x4).f4) ((Qad x0 x4).f5) ((Qad x0 x4).f6) ((Qad x0 x4).f7) ((Qad x0 x4).f8)).bind fun bt338 => (if x3.length < 1256584717458 then (r0_CopyOps.l0 k x0 (x3 ++ [(⟨bt338.1,bt338.2.1,bt338.2.2.1,(⟨bt338.2.2.2.1,bt338.2.2.2.2.1,bt338.2.2.2.2.2.1⟩ : SElem),bt338.2.2.2.2.2.2.1,bt338.2.2.2.2.2.2.2.1,bt338.2.2.2.2.2.2.2.2.1,bt338.2.2.2.2.2.2.2.2.2.1,bt338.2.2.2.2.2.2.2.2.2.2⟩ : SOp)]) (wrap64 (x4 + 1))) else (none))) else (none)) else (some x3)
def r0_CopyOps.f (k : Nat) (l0 : List (SOp)) : Option ((List (SOp))):=r0_CopyOps.l0 k l0 ([] : List (SOp)) 0
theorem r0_CopyOps.calls (k : Nat) (A0 : Option Addr) (c0 : Nat) (l0 : List (SOp)) (r : List (SOp)) (w : World) (hr0 : Kd.C kOp w A0 l0.length l0) (hc0 : l0.length ≤ c0) (h : r0_CopyOps.f k l0 = some r) :
  Calls Tryd.prog 14 #[.slice A0 l0.length c0] w fun e w' => ∃ v0_ : Value,e = .returned (v0_) ∧ Kd.S kOp 55 w' w.heap.size (fun _ => True) v0_ r ∧ Below w.heap.size w w':=by
 have hu55:=Tryd.underlying55
 have HR0:=Aside0.mk hr0
 have HC0:=Aside0.mk hc0
 clear hr0 hc0
 have HB:=Aside0.mk (Below.refl w.heap.size w)
 unfold r0_CopyOps.f at h; have H:=h
 clear h
 have H':=Aside0.mk H
 clear H
 go_enter Tryd.func14,Tryd.ntmps14
 go_wp2
 go_loopg [3,4] k (fun kq v3 v4 w' => ∃ (x3_1 : List (SOp)) (x4_1 : Int),v4 = .int .i64 x4_1 ∧ Aside0 (r0_CopyOps.l0 kq l0 x3_1 x4_1 = some r) ∧ Aside0 (kq ≤ k) ∧ Aside0 (Kd.S kOp 55 w' w.heap.size (fun _ => True) v3 x3_1) ∧ Aside0 (Below w.heap.size w w'))
 case atStart => exact ⟨(([] : List (SOp))),(0),rf,H',⟨Nat.le_refl _⟩,⟨by first | exact Kd.S_nil _ _ _ _ _ | exact Kd.N_nil _ _ _ _ _ | exact Kd.V_nil _ _ _ _ _ | exact Kd.Q_nil _ _ _ _ _ | exact Kd.R_nil _ _ _ _ _⟩,⟨bw HB⟩⟩
 case round =>
  clear H'
  obtain ⟨x3_1,x4_1,rfl,HA,HK1,HO_3,HB⟩:=hrel
  cases gk with
  | zero => exact absurd HA.out (by simp [r0_CopyOps.l0])
  | succ k1 =>
   have H:=HA.out
   clear HA
   simp only [r0_CopyOps.l0] at H
   by_cases c2 : x4_1 < (l0.length : Int); rotate_left
   ·rw [if_neg c2] at H
    have c2b0:=decide_eq_false c2
    clear c2
    obtain rfl:=Option.some.inj H
    go_wp2
    go_ret
    exact ⟨_,re,by (with_reducible repeat (first | apply Kd.S_alloc | apply Kd.S_drewN | apply Kd.S_drew)); exact HO_3.out,bw HB⟩
   rw [if_pos c2] at H
   have c2b0:=decide_eq_true c2
   clear c2
   by_cases c3 : 0 ≤ x4_1; rotate_left
   ·rw [if_neg c3] at H
    exact absurd H (by simp)
   rw [if_pos c3] at H
   have c3b0:=decide_eq_true c3
   clear c3
   obtain ⟨⟨t338,t339,t340,t341,t342,t343,t344,t345,t348,t349,t350⟩,A4,H⟩:=bE H
   try dsimp only at H
   by_cases c5 : x3_1.length < 1256584717458; rotate_left
   ·rw [if_neg c5] at H
    exact absurd H (by simp)
   rw [if_pos c5] at H
   have LMc5:=Aside0.mk c5
   clear c5
   obtain ⟨y351,hy351⟩ : ∃ y_ : List (SOp),y_ = (x3_1 ++ [(⟨t338,t339,t340,(⟨t341,t342,t343⟩ : SElem),t344,t345,t348,t349,t350⟩ : SOp)]):=⟨_,rfl⟩
   first | rw [Option.bind_some,← hy351] at H | rw [← hy351] at H
   have Ny351:=Aside0.mk hy351
   clear hy351
   have H':=Aside0.mk H
   clear H
   have p337 : 0 ≤ (x4_1 : Int):=od
   have q337 : x4_1 < (l0.length : Int):=od
   obtain ⟨ad337,A337_7,c337_7,e337,hx337_0,hx337_1,hx337_2,hx337_3,hx337_4,hx337_5,hx337_6,hx337_7,hx337_8,hx337_9,hx337_10,hl337_7,hi337_7⟩:=Qck HR0.out x4_1 p337 q337
   cases e337
   replace hx337_0:=cl HB hx337_0
   replace hx337_1:=cl HB hx337_1
   replace hx337_2:=cl HB hx337_2
   replace hx337_3:=cl HB hx337_3
   replace hx337_4:=cl HB hx337_4
   replace hx337_5:=cl HB hx337_5
   replace hx337_6:=cl HB hx337_6
   replace hx337_7:=cl HB hx337_7
   replace hx337_8:=cl HB hx337_8
   replace hx337_9:=cl HB hx337_9
   replace hx337_10:=cl HB hx337_10
   have HR337_7:=Aside0.mk hi337_7
   have HC337_7:=Aside0.mk hl337_7
   clear hi337_7 hl337_7
   replace p337:=eq_true p337
   replace q337:=eq_true q337
   go_wp2_with (first | ((with_reducible refine Qab (f:=39) rfl ?_); refine gl (some 16) Tryd.func39 #[.agg #[.int .i64 ((Qad l0 x4_1).f0), .int .i64 ((Qad l0 x4_1).f1), .int .i64 ((Qad l0 x4_1).f2), .int .i64 ((Qad l0 x4_1).f3.f0), .int .i64 ((Qad l0 x4_1).f3.f1), .int .i64 ((Qad l0 x4_1).f3.f2), .string ((Qad l0 x4_1).f4), .slice A337_7 ((Qad l0 x4_1).f5).length c337_7, .int .i64 ((Qad l0 x4_1).f6), .int .i64 ((Qad l0 x4_1).f7), .int .i64 ((Qad l0 x4_1).f8)]] (h := ?_); (with_reducible refine (r0_CopyOp.calls k1 ((Qad l0 x4_1).f0) ((Qad l0 x4_1).f1) ((Qad l0 x4_1).f2) ((Qad l0 x4_1).f3.f0) ((Qad l0 x4_1).f3.f1) ((Qad l0 x4_1).f3.f2) ((Qad l0 x4_1).f4) _ _ ((Qad l0 x4_1).f5) ((Qad l0 x4_1).f6) ((Qad l0 x4_1).f7) ((Qad l0 x4_1).f8) t338 t339 t340 t341 t342 t343 t344 t345 t348 t349 t350 _ ?side1 ?side2 A4.out).mono ?_); (case side1 => exact cb HR337_7 HB); (case side2 => exact HC337_7.out); rintro e w6 ⟨v346,rfl,ho0,hb⟩; refine ⟨_,rfl, ?_⟩; have HO347:=Aside0.mk (Kd.R_lower ho0 (Qai (bw HB))); replace HO_3:=Aside0.mk (Kd.S_elder' (sk HO_3) (Kd.R_base ho0) hb); replace HB:=bs HB hb; clear hb; clear ho0; obtain ⟨Ao8,co8,eo8⟩:=Kd.R_slice HO347.out; subst eo8) | ((with_reducible refine Qcf (b:=.append) (xs:=#[.tmp 11, .tmp 17]) rfl ?_); at_builtin; refine Kd.S_append kOp (w0:=w) w.heap.size rfl (.tmp 11) (.tmp 17) 24 55 (.agg #[(.int .i64 0),(.int .i64 0),(.int .i64 0),(.int .i64 0),(.int .i64 0),(.int .i64 0),(.string ⟨#[]⟩),(.slice none 0 0),(.int .i64 0),(.int .i64 0),(.int .i64 0)]) 112 rfl Tryd.underlying24 info55 rfl (by decide) (by omega) u3 x3_1 (⟨t338,t339,t340,(⟨t341,t342,t343⟩ : SElem),t344,t345,t348,t349,t350⟩ : SOp) [.int .i64 t338, .int .i64 t339, .int .i64 t340, .int .i64 t341, .int .i64 t342, .int .i64 t343, .string t344, .slice Ao8 t345.length co8, .int .i64 t348, .int .i64 t349, .int .i64 t350] (fun _ => True) (fun k_ => some k_ = (.slice Ao8 t345.length co8 : Value).ownBlock) rfl rfl ?aP (fun k_ hk_ => ((Kd.R_mono (ok':=fun k_ => ((fun _ => True)) k_ ∧ some k_ ≠ (u3 : Value).ownBlock) (Kd.R_apart' (HO347.out) (Kd.S_typed HO_3.out) (by decide)) (fun k_ hk => ⟨trivial,hk.2⟩))).1 k_ hk_.symm) ?aF ?aO ?aB ?aS ?aL ?_; (case aP => exact kOp_mkM _ _ _ (⟨t338,t339,t340,(⟨t341,t342,t343⟩ : SElem),t344,t345,t348,t349,t350⟩ : SOp) (Kd.R_mono (Kd.R_tight rfl (Kd.R_mono (ok':=fun k_ => ((fun _ => True)) k_ ∧ some k_ ≠ (u3 : Value).ownBlock) (Kd.R_apart' (HO347.out) (Kd.S_typed HO_3.out) (by decide)) (fun k_ hk => ⟨trivial,hk.2⟩))) (fun _ h_ => h_))); (case aB => exact (bw HB)); (case aF => exact (fun _ _ => trivial)); (case aO => exact (by (with_reducible repeat (first | apply Kd.S_alloc | apply Kd.S_drewN | apply Kd.S_drew)); exact Kd.S_mono HO_3.out (fun k_ hk => ⟨trivial,fun e_ => hk.2 e_⟩))); (case aS => exact (Qai (bw HB))); (case aL => have:=LMc5.out; omega); intro v352 w7 ho hb hg hat; rw [← Ny351.out] at ho; have n0_:=Aside0.mk (hb); have n1_:=Aside0.mk (ho); clear HB; clear HO_3; clear HO347; have HB:=n0_; have HO353:=n1_; clear n0_ n1_; clear ho hb hg hat))
   go_roundg k1
   case measure => have:=HK1.out; omega
   case rel => exact ⟨(y351),(wrap64 (x4_1 + 1)),rf,H',⟨by have:=HK1.out; omega⟩,⟨sk HO353⟩,⟨bw HB⟩⟩
def r4_Behind.f (k : Nat) (l0 : List (SOp)) (a1_0 : Int) (a1_1 : Int) (a1_2 : Int) (a1_3 : Int) (a1_4 : Int) (a1_5 : Int) (a1_6 : ByteArray) (l1_7 : List (SElem)) (a1_8 : Int) (a1_9 : Int) (a1_10 : Int) : Option ((List (SOp))):=(r0_CopyOps.f k l0).bind fun t355 => ((r0_CopyOp.f k a1_0 a1_1 a1_2 a1_3 a1_4 a1_5 a1_6 l1_7 a1_8 a1_9 a1_10).bind fun bt358 => (if t355.length < 1256584717458 then (some (t355 ++ [(⟨bt358.1,bt358.2.1,bt358.2.2.1,(⟨bt358.2.2.2.1,bt358.2.2.2.2.1,bt358.2.2.2.2.2.1⟩ : SElem),bt358.2.2.2.2.2.2.1,bt358.2.2.2.2.2.2.2.1,bt358.2.2.2.2.2.2.2.2.1,bt358.2.2.2.2.2.2.2.2.2.1,bt358.2.2.2.2.2.2.2.2.2.2⟩ : SOp)])) else (none)))
theorem r4_Behind.calls (k : Nat) (A0 : Option Addr) (c0 : Nat) (l0 : List (SOp)) (a1_0 : Int) (a1_1 : Int) (a1_2 : Int) (a1_3 : Int) (a1_4 : Int) (a1_5 : Int) (a1_6 : ByteArray) (A1_7 : Option Addr) (c1_7 : Nat) (l1_7 : List (SElem)) (a1_8 : Int) (a1_9 : Int) (a1_10 : Int) (r : List (SOp)) (w : World) (hr0 : Kd.C kOp w A0 l0.length l0) (hc0 : l0.length ≤ c0) (hr1_7 : Kd.C Qaq w A1_7 l1_7.length l1_7) (hc1_7 : l1_7.length ≤ c1_7) (h : r4_Behind.f k l0 a1_0 a1_1 a1_2 a1_3 a1_4 a1_5 a1_6 l1_7 a1_8 a1_9 a1_10 = some r) :
  Calls Tryd.prog 36 #[.slice A0 l0.length c0, .agg #[.int .i64 a1_0, .int .i64 a1_1, .int .i64 a1_2, .int .i64 a1_3, .int .i64 a1_4, .int .i64 a1_5, .string a1_6, .slice A1_7 l1_7.length c1_7, .int .i64 a1_8, .int .i64 a1_9, .int .i64 a1_10]] w fun e w' => ∃ v0_ : Value,e = .returned (v0_) ∧ Kd.S kOp 55 w' w.heap.size (fun _ => True) v0_ r ∧ Below w.heap.size w w':=by
 have hu55:=Tryd.underlying55
 have HR0:=Aside0.mk hr0
 have HC0:=Aside0.mk hc0
 clear hr0 hc0
 have HR1_7:=Aside0.mk hr1_7
 have HC1_7:=Aside0.mk hc1_7
 clear hr1_7 hc1_7
 have HB:=Aside0.mk (Below.refl w.heap.size w)
 unfold r4_Behind.f at h; have H:=h
 clear h
 obtain ⟨t355,A3,H⟩:=bE H
 obtain ⟨⟨t358,t359,t360,t361,t362,t363,t364,t365,t368,t369,t370⟩,A4,H⟩:=bE H
 try dsimp only at H
 by_cases c5 : t355.length < 1256584717458; rotate_left
 ·rw [if_neg c5] at H
  exact absurd H (by simp)
 rw [if_pos c5] at H
 have LMc5:=Aside0.mk c5
 clear c5
 obtain ⟨y371,hy371⟩ : ∃ y_ : List (SOp),y_ = (t355 ++ [(⟨t358,t359,t360,(⟨t361,t362,t363⟩ : SElem),t364,t365,t368,t369,t370⟩ : SOp)]):=⟨_,rfl⟩
 first | rw [Option.bind_some,← hy371] at H | rw [← hy371] at H
 have Ny371:=Aside0.mk hy371
 clear hy371
 obtain rfl:=Option.some.inj H
 go_enter Tryd.func36,Tryd.ntmps36
 try go_wp2_with (first | ((with_reducible refine Qae (N:=3) rfl ?_); refine bx 3 #[.int .i64 a1_0, .int .i64 a1_1, .int .i64 a1_2, .int .i64 a1_3, .int .i64 a1_4, .int .i64 a1_5, .string a1_6, .slice A1_7 l1_7.length c1_7, .int .i64 a1_8, .int .i64 a1_9, .int .i64 a1_10] 55 (h := ?_); intro gb354 hg w6 hbox hb; have BK354:=Aside0.mk (hbox); have GW354:=bz HB hg; have GE354:=bz HB hg; replace HB:=bs HB hb; clear hb hbox hg))
 have n0_:=Aside0.mk (Qan BK354.out)
 have n1_:=Aside0.mk (Qaf HB.out)
 clear BK354
 clear HB
 have BK354:=n0_
 have HB:=n1_
 clear n0_ n1_
 refine stP (fun w' => E11 w' gb354 (.int .i64 a1_0) (.int .i64 a1_1) (.int .i64 a1_2) (.int .i64 a1_3) (.int .i64 a1_4) (.int .i64 a1_5) (.string a1_6) (.slice A1_7 l1_7.length c1_7) (.int .i64 a1_8) (.int .i64 a1_9) (.int .i64 a1_10)) 7 (e11 BK354) (h:=fun hHeld => ?_)
 generalize w6.drew = w7 at BK354 HB hHeld ⊢
 refine pu0 0 5 1 (h := ?_)
 refine tk0 hHeld 2 7 5 (h := ?_)
 refine on0 1 (some 6) 7 (h:=fun K hK => ?_)
 refine gS Tryd.func14 #[.slice A0 l0.length c0] (h := ?_)
 with_reducible refine (r0_CopyOps.calls k _ _ l0 t355 _ ?side1 ?side2 A3.out).mono ?_
 (case side1 => exact cb HR0 HB)
 (case side2 => exact HC0.out)
 rintro e w8 ⟨v356,rfl,ho0,hb⟩
 refine ⟨_,rfl, ?_⟩
 have n0_:=Aside0.mk (Kd.S_lower (Kd.S_newB ho0 (kk BK354)) (Qai (bw HB)))
 have n1_:=bl BK354 hb
 have n2_:=bs HB hb
 clear BK354
 clear HB
 have HO357:=n0_
 have BK354:=n1_
 have HB:=n2_
 clear n0_ n1_ n2_
 (try clear hb)
 (try clear hb2)
 (try clear hk)
 (try clear hi)
 (try clear ho0)
 refine hK.out _ _ (e11 BK354) (fun hHeld => ?_)
 clear hK K
 refine nn 6 (h := ?_)
 refine on0 3 (some 8) 15 (h:=fun K hK => ?_)
 refine gS Tryd.func39 #[.agg #[.int .i64 a1_0, .int .i64 a1_1, .int .i64 a1_2, .int .i64 a1_3, .int .i64 a1_4, .int .i64 a1_5, .string a1_6, .slice A1_7 l1_7.length c1_7, .int .i64 a1_8, .int .i64 a1_9, .int .i64 a1_10]] (h := ?_)
 with_reducible refine (r0_CopyOp.calls k a1_0 a1_1 a1_2 a1_3 a1_4 a1_5 a1_6 _ _ l1_7 a1_8 a1_9 a1_10 t358 t359 t360 t361 t362 t363 t364 t365 t368 t369 t370 _ ?side1 ?side2 A4.out).mono ?_
 (case side1 => exact cb HR1_7 HB)
 (case side2 => exact HC1_7.out)
 rintro e w9 ⟨v366,rfl,ho0,hb⟩
 refine ⟨_,rfl, ?_⟩
 have n0_:=Aside0.mk (Kd.S_elder' (sk HO357) (Kd.R_base ho0) hb)
 have n1_:=Aside0.mk (Kd.R_lower ho0 (Qai (bw HB)))
 have n2_:=bl BK354 hb
 have n3_:=bs HB hb
 clear HO357
 clear BK354
 clear HB
 have HO357:=n0_
 have HO367:=n1_
 have BK354:=n2_
 have HB:=n3_
 clear n0_ n1_ n2_ n3_
 (try clear hb)
 (try clear hb2)
 (try clear hk)
 (try clear hi)
 (try clear ho0)
 obtain ⟨Ao11,co11,eo11⟩:=Kd.R_slice HO367.out
 (first | subst eo11 | (injection eo11 with f1_ f2_ f3_; have f4_:=f1_.symm; have f5_:=f3_.symm; clear f1_ f2_ f3_; subst f4_; subst f5_))
 refine hK.out _ _ (e11 BK354) (fun hHeld => ?_)
 clear hK K
 refine nn 8 (h := ?_)
 refine on0 4 (some 9) 31 (h:=fun K hK => ?_)
 refine value_ (w1 := ?_) (v := ?_) (by rfl) rfl ?_ ?_
 rotate_left 2
 ·go_simp
  constructor
  ·rfl
  rfl
 refine hK.out _ _ ⟨(Qdc (Qaz BK354.out _) 0).trans rfl,(Qdc (Qaz BK354.out _) 1).trans rfl,(Qdc (Qaz BK354.out _) 2).trans rfl,(Qdc (Qaz BK354.out _) 3).trans rfl,(Qdc (Qaz BK354.out _) 4).trans rfl,(Qdc (Qaz BK354.out _) 5).trans rfl,(Qdc (Qaz BK354.out _) 6).trans rfl,(Qdc (Qaz BK354.out _) 7).trans rfl,(Qdc (Qaz BK354.out _) 8).trans rfl,(Qdc (Qaz BK354.out _) 9).trans rfl,(Qdc (Qaz BK354.out _) 10).trans rfl⟩ (fun hHeld => ?_)
 clear hK K
 refine nn 9 (h := ?_)
 refine on0 5 (some 10) 63 (h:=fun K hK => ?_)
 refine Kd.S_append_step kOp (w0:=w) w.heap.size (by rfl) (.tmp 6) (.tmp 9) 24 55 (.agg #[(.int .i64 0),(.int .i64 0),(.int .i64 0),(.int .i64 0),(.int .i64 0),(.int .i64 0),(.string ⟨#[]⟩),(.slice none 0 0),(.int .i64 0),(.int .i64 0),(.int .i64 0)]) 112 rfl Tryd.underlying24 info55 rfl (by decide) (by omega) v356 t355 (⟨t358,t359,t360,(⟨t361,t362,t363⟩ : SElem),t364,t365,t368,t369,t370⟩ : SOp) [.int .i64 t358, .int .i64 t359, .int .i64 t360, .int .i64 t361, .int .i64 t362, .int .i64 t363, .string t364, .slice Ao11 t365.length co11, .int .i64 t368, .int .i64 t369, .int .i64 t370] (fun k_ => k_ ≠ gb354) (fun k_ => some k_ = (.slice Ao11 t365.length co11 : Value).ownBlock) rfl rfl ?aP (fun k_ hk_ => ((Kd.R_mono (ok':=fun k_ => ((fun k_ => k_ ≠ gb354)) k_ ∧ some k_ ≠ (v356 : Value).ownBlock) (Kd.R_types (Kd.R_apart' (HO367.out) (Kd.S_typed HO357.out) (by decide)) BK354.out (by decide)) (fun k_ hk => ⟨hk.2,hk.1.2⟩))).1 k_ hk_.symm) ?aF ?aO ?aB ?aS ?aL ?_
 (case aP => exact kOp_mkM _ _ _ (⟨t358,t359,t360,(⟨t361,t362,t363⟩ : SElem),t364,t365,t368,t369,t370⟩ : SOp) (Kd.R_mono (Kd.R_tight rfl (Kd.R_mono (ok':=fun k_ => ((fun k_ => k_ ≠ gb354)) k_ ∧ some k_ ≠ (v356 : Value).ownBlock) (Kd.R_types (Kd.R_apart' (HO367.out) (Kd.S_typed HO357.out) (by decide)) BK354.out (by decide)) (fun k_ hk => ⟨hk.2,hk.1.2⟩))) (fun _ h_ => h_)))
 (case aB => exact (bw HB))
 (case aF => exact (fun k_ hk => Kd.freshB (kk BK354) k_ hk))
 (case aO => exact (by (with_reducible repeat (first | apply Kd.S_alloc | apply Kd.S_drewN | apply Kd.S_drew)); exact Kd.S_mono HO357.out (fun k_ hk => ⟨hk.1.2,fun e_ => hk.2 e_⟩)))
 (case aS => exact (Qai (bw HB)))
 (case aL => have:=LMc5.out; omega)
 intro v372 w10 ho hb hg hat
 rw [← Ny371.out] at ho
 have n0_:=Aside0.mk (Qcm (kk BK354) hg (Kd.S_away HO357.out (fun _ hk => hk.1.2)))
 have n1_:=Aside0.mk (hb)
 have n2_:=Aside0.mk (ho)
 clear BK354
 clear HB
 clear HO357
 clear HO367
 have BK354:=n0_
 have HB:=n1_
 have HO373:=n2_
 clear n0_ n1_ n2_
 clear ho hb hg hat
 refine hK.out _ _ (e11 BK354) (fun hHeld => ?_)
 clear hK K
 refine nn 10 (h := ?_)
 refine pu0 6 4 127 (h := ?_)
 refine dn0 (h := ?_)
 try go_wp2
 go_ret
 exact ⟨_,re,by (with_reducible repeat (first | apply Kd.S_alloc | apply Kd.S_drewN | apply Kd.S_drew)); exact Kd.S_mono HO373.out (fun _ hk => trivial),bw HB⟩
end
section
def t_r4_put.T2 : Bool × List (List Nat × List Nat):=(true,[([],[]),([],[]),([1],[1]),([0,2],[0,2]),([3],[3]),([4],[4]),([4],[4]),([5,6,4],[4,5,6]),([7,4],[4,7]),([4],[4]),([8,9,4,4],[4,8,9]),([4,10],[4,10])])
def t_r4_put.B2 : List Nat:=[0,0,2,7,15,31,31,127,255,31,1023,2047]
theorem t_r4_put.tab2 : rtab .any (Qcu Tryd.f79 2) = t_r4_put.T2:=by kernel_rfl
theorem t_r4_put.bits2 : Qax t_r4_put.T2.2 t_r4_put.B2 = true:=by kernel_rfl
def t_r4_put.T4 : Bool × List (List Nat × List Nat):=(true,[([],[]),([],[]),([1],[1]),([0,2],[0,2]),([3],[3]),([4],[4]),([4],[4]),([5,6,4],[4,5,6]),([7,4],[4,7]),([4],[4]),([8,9,4],[4,8,9]),([4,10],[4,10])])
def t_r4_put.B4 : List Nat:=[0,0,2,7,15,31,31,127,255,31,1023,2047]
theorem t_r4_put.tab4 : rtab .any (Qcu Tryd.f79 4) = t_r4_put.T4:=by kernel_rfl
theorem t_r4_put.bits4 : Qax t_r4_put.T4.2 t_r4_put.B4 = true:=by kernel_rfl
def t_r4_put.T6 : Bool × List (List Nat × List Nat):=(true,[([],[]),([],[]),([0,1],[0,1]),([2],[2]),([],[]),([4],[4]),([3,5,3],[3,5]),([],[]),([],[]),([7,8],[7,8]),([6,9,6],[6,9]),([10,10,0,1,2,3,4,5,6,7,8,9,10],[10])])
def t_r4_put.B6 : List Nat:=[0,0,3,7,0,16,63,0,0,384,1023,2047]
theorem t_r4_put.tab6 : rtab .any (Qcu Tryd.f79 6) = t_r4_put.T6:=by kernel_rfl
theorem t_r4_put.bits6 : Qax t_r4_put.T6.2 t_r4_put.B6 = true:=by kernel_rfl
end
end Go.Proofs.YtonoaflfobajcaaDoor.L
end
