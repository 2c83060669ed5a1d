/- Part 4 of the proof that for every argument the law OpOwn answers true: an op never needs itself; its elements are its own, in order; of two elements one is less, or they are the same. -/
import Derived.Test.YtonoaflfobajcaaZOO3
section
namespace Go.Proofs.Ytonoaflfobajcaa.L
open Go.RowKit Go.Proofs.YtonoaflfobajcaaW.PrintWords Go.Proofs.YtonoaflfobajcaaW.PrintLast Go.Proofs.YtonoaflfobajcaaW.PrintMore
set_option linter.unusedVariables false
set_option linter.unusedSimpArgs false
set_option maxHeartbeats 40000000
set_option maxRecDepth 1000000
section
def z0 (e : SElem) : SElem:=⟨e.f0,e.f1,0⟩
def needRaw (o : SOp) : List SElem:=o.f5 ++ [o.f3,⟨o.f6,o.f7,0⟩]
def Qaq (o : SOp) : List SElem:=compL (sortL (((needRaw o).map z0).filter fun e => !Qam e))
def needsF (o : SOp) : Option (List SElem × Int):=if o.f4.size < 9223372036854775807 /\ o.f5.length <= 900000 then some (if opOk o = true then (Qaq o,0) else ([],1)) else none
def op_Needs.f (a0_0 : Int) (a0_1 : Int) (a0_2 : Int) (a0_3 : Int) (a0_4 : Int) (a0_5 : Int) (a0_6 : ByteArray) (l0_7 : List (SElem)) (a0_8 : Int) (a0_9 : Int) (a0_10 : Int) : Option ((List (SElem)) × Int):=needsF ⟨a0_0,a0_1,a0_2,⟨a0_3,a0_4,a0_5⟩,a0_6,l0_7,a0_8,a0_9,a0_10⟩
theorem RE_zero {w : World} {base g n c : Nat} {xs : List SElem} (h : RE w base (.slice (some ⟨g,0,none⟩) n c) xs) (i : Nat) (hi : i < n) :
  RE (w.setCell ⟨g,i * 3 + 2,none⟩ (.int .i64 0)) base (.slice (some ⟨g,0,none⟩) n c) (xs.set i (z0 (Qaa xs (i : Int)))) /\ w.grownBy (w.setCell ⟨g,i * 3 + 2,none⟩ (.int .i64 0)) (some g) /\ (∃ q,w.cell? ⟨g,i * 3 + 2,none⟩ = some q) /\ w.frozen? ⟨g,i * 3 + 2,none⟩ = false:=by
 obtain ⟨cs,hl,hM,hc,hf⟩:=Kd.R_elem h zElem (i : Int) (by omega) (by omega)
 have hM' : Qao.M w base (fun k => True /\ k ≠ g) (Qaa xs (i : Int)) cs:=hM
 have hcs:=kElem_openM hM'
 have:=Kd.R_seg h (i : Int) (by omega) (by omega) (c:=cs) (seg:=[.int .i64 0]) (j:=2) (x':=z0 (Qaa xs (i : Int))) (okp:=fun k => True /\ k ≠ g) hl hc (by show 2 + 1 <= 3; omega) (by
  rw [hcs]; exact kElem_mkM _ _ _ (z0 (Qaa xs (i : Int)))) (fun k hk => hk)
 refine ⟨this.1,this.2,⟨_,hc 2 _ (by rw [hcs]; rfl)⟩,hf 2⟩
theorem needs1_calls (x : SElem) (W : World) : Calls Try.prog 41 #[elV x] W fun e w' => e = .returned (.bool (Qam x)) /\ Below W.heap.size W w':=by
 obtain ⟨a,b,c⟩:=x
 unfold elV
 simp only
 have HAL:=Zz.k (Qan (Below.refl W.heap.size W) (.cells #[.int .i64 a, .int .i64 b, .int .i64 c] 36))
 go_enter Try.func41,Try.ntmps41
 go_wp2
 all_goals (subst_vars; go_ret; exact ⟨by simp [Qam, *],HAL.out⟩)
theorem needs_app {W : World} {base : Nat} {v : Value} {l : List SElem} (a b : SElem) {g : Nat} (hR : RE W base v l) (hbase : base <= W.heap.size) (hl : l.length <= 900000)
  (hg : ∀ j u,[Value.int .i64 a.f0, .int .i64 a.f1, .int .i64 a.f2, .int .i64 b.f0, .int .i64 b.f1, .int .i64 b.f2][j]? = some u -> W.cell? ⟨g,j,none⟩ = some u) :
  ∃ g' n' c' w',(Builtin.append_ #[23,23] 23 #[v, .slice (some ⟨g,0,none⟩) 2 2]).run Try.prog W = .ok (.slice (some ⟨g',0,none⟩) n' c') w' /\ n' = l.length + 2 /\ base <= g' /\ g' < w'.heap.size /\ RE w' base (.slice (some ⟨g',0,none⟩) n' c') (l ++ [a,b]) /\ W.grownBy w' v.ownBlock:=by
 obtain ⟨i0,hi,hiv⟩:=Option.map_eq_some_iff.1 infoE3
 simp only [Prod.mk.injEq] at hiv
 obtain ⟨hz0,hz1,hz2⟩:=hiv
 obtain ⟨hok,inner,ho,hr⟩:=hR
 obtain ⟨v',w',hrun,r1,r2,_⟩:=run_append_own (P:=Try.prog) W base 23 23 36 i0 _ 3 24 Try.underlying23 hi hz0 hz1 hz2 rfl (by decide) v l.length inner ho ⟨g,0,none⟩ 2 2
  [Value.int .i64 a.f0, .int .i64 a.f1, .int .i64 a.f2, .int .i64 b.f0, .int .i64 b.f1, .int .i64 b.f2] rfl (fun j u hu => by rw [Addr.add_lit,Nat.zero_add]; exact hg j u hu) (by intro u hu; simp only [List.mem_cons,List.not_mem_nil,or_false] at hu; rcases hu with rfl | rfl | rfl | rfl | rfl | rfl <;> rfl) (by unfold maxLen; omega) (by omega) hbase
 have hRR : RE w' base v' (l ++ [a,b]):=by
  refine ⟨fun _ _ => trivial,_,by rw [List.length_append]; exact r1, ?_⟩
  have e : inner ++ [Value.int .i64 a.f0, .int .i64 a.f1, .int .i64 a.f2, .int .i64 b.f0, .int .i64 b.f1, .int .i64 b.f2] = (inner ++ [Value.int .i64 a.f0, .int .i64 a.f1, .int .i64 a.f2]) ++ [Value.int .i64 b.f0, .int .i64 b.f1, .int .i64 b.f2]:=by simp
  rw [e,show l ++ [a,b] = (l ++ [a]) ++ [b] by simp]
  refine Reps.snoc (Reps.snoc (hr.imp_ (fun x c hx => ?_)) (kElem_mkM _ _ _ a) rfl) (kElem_mkM _ _ _ b) rfl
  rw [kElem_openM hx]
  exact kElem_mkM _ _ _ x
 obtain ⟨g',c',rfl,hb,hlt,_⟩:=Kd.R_form hRR (by simp)
 exact ⟨g',_,c',w',hrun,by simp,hb,hlt,hRR,r2⟩
theorem stepZ (l : List SElem) {k : Nat} (hk : k < l.length) : ((l.take k).map z0 ++ l.drop k).set k (z0 (Qaa ((l.take k).map z0 ++ l.drop k) (k : Int))) = (l.take (k + 1)).map z0 ++ l.drop (k + 1):=by
 have hlen : ((l.take k).map z0).length = k:=by rw [List.length_map,List.length_take]; omega
 have hd : l.drop k = l[k] :: l.drop (k + 1):=List.drop_eq_getElem_cons hk
 have hr : Qaa ((l.take k).map z0 ++ l.drop k) (k : Int) = l[k]:=by
  rw [Qaj _ _ (by rw [List.length_append,hlen,List.length_drop]; omega)]
  rw [List.getElem_append_right (by omega)]
  have hm : min k l.length = k:=by omega
  simp [hlen,hm]
 rw [hr,List.set_append_right _ _ (by omega),hlen,Nat.sub_self,hd,List.set_cons_zero,List.take_succ_eq_append_getElem hk,List.map_append,List.append_assoc]
 rfl
abbrev oCells (o : SOp) (A7 : Option Addr) (c7 : Nat) : List Value:=[.int .i64 o.f0, .int .i64 o.f1, .int .i64 o.f2, .int .i64 o.f3.f0, .int .i64 o.f3.f1, .int .i64 o.f3.f2, .string o.f4, .slice A7 o.f5.length c7, .int .i64 o.f6, .int .i64 o.f7, .int .i64 o.f8]
abbrev O11 (W : World) (g : Nat) (o : SOp) (A7 : Option Addr) (c7 : Nat) : Prop:=W.cell? ⟨g,0,none⟩ = some (.int .i64 o.f0) /\ W.cell? ⟨g,1,none⟩ = some (.int .i64 o.f1) /\ W.cell? ⟨g,2,none⟩ = some (.int .i64 o.f2) /\ W.cell? ⟨g,3,none⟩ = some (.int .i64 o.f3.f0) /\ W.cell? ⟨g,4,none⟩ = some (.int .i64 o.f3.f1) /\ W.cell? ⟨g,5,none⟩ = some (.int .i64 o.f3.f2) /\ W.cell? ⟨g,6,none⟩ = some (.string o.f4) /\ W.cell? ⟨g,7,none⟩ = some (.slice A7 o.f5.length c7) /\ W.cell? ⟨g,8,none⟩ = some (.int .i64 o.f6) /\ W.cell? ⟨g,9,none⟩ = some (.int .i64 o.f7) /\ W.cell? ⟨g,10,none⟩ = some (.int .i64 o.f8)
theorem O11.below {W W' : World} {g : Nat} {o : SOp} {A7 : Option Addr} {c7 : Nat} (h : O11 W g o A7 c7) (hb : Below W.heap.size W W') : O11 W' g o A7 c7:=by
 obtain ⟨h0,h1,h2,h3,h4,h5,h6,h7,h8,h9,h10⟩:=h
 exact ⟨Qaf hb h0,Qaf hb h1,Qaf hb h2,Qaf hb h3,Qaf hb h4,Qaf hb h5,Qaf hb h6,Qaf hb h7,Qaf hb h8,Qaf hb h9,Qaf hb h10⟩
theorem O11.boxed (w : World) (o : SOp) (A7 : Option Addr) (c7 : Nat) (t : TypeId) : O11 (w.alloc (.cells (oCells o A7 c7).toArray t)) w.heap.size o A7 c7:=by
 refine ⟨?_, ?_, ?_, ?_, ?_, ?_, ?_, ?_, ?_, ?_, ?_⟩ <;> simp
theorem exKN {P : Program} {ops : Array Oper} {Q : Exit -> Act -> World -> Prop} {S : World -> Prop} {F : Act -> World -> Prop} {K : Act -> World -> Prop} {oi : Oper} {a : Act} {w : World} {N : Option Tmp} (hK : Shut (∀ a' w',S w' -> (S w' -> F a' w') -> K a' w')) (u : Value) (w' : World) (hw : Region.wanted oi (yielded ops a.tmps) = true:=by rfl) (hN : oi.dst = N:=by rfl)
  (hrun : (execOp a.eval oi).run P w = .ok (.value u) w') (hS : S w') (h : S w' -> F (a.put N u) w') : if Region.wanted oi (yielded ops a.tmps) = true then Oper.wp P oi a w K Q else K (a.put N undef) w:=by
 rw [if_pos hw]
 unfold Oper.wp
 rw [hrun,Oper.upon_value,hN]
 exact hK.out _ w' hS h
theorem exec_app {P : Program} {a : Act} {oi : Oper} {w w' : World} {s x : Operand} {t : TypeId} {u sv xv : Value} (hop : oi.op = Op.call { callee:=Callee.builtin Builtin.append,args:=#[s,x],argTypes:=#[t,t] }) (hs : a.eval s = sv) (hx : a.eval x = xv)
  (hrun : (Builtin.append_ #[t,t] oi.type #[sv,xv]).run P w = .ok u w') : (execOp a.eval oi).run P w = .ok (.value u) w':=by
 simp [execOp,hop,resolve,invoke,builtin,hs,hx,hrun]
theorem Needs_calls (o : SOp) (A7 : Option Addr) (c7 : Nat) (r1 : List SElem) (r2 : Int) (w : World) (hr7 : Kd.C Qao w A7 o.f5.length o.f5) (hc7 : o.f5.length <= c7) (h : needsF o = some (r1,r2)) :
  Calls Try.prog 22 #[.agg (oCells o A7 c7).toArray] w fun e w' => ∃ v0_ : Value,e = .returned (.tuple #[v0_, .int .i64 r2]) /\ RE w' w.heap.size v0_ r1 /\ Below w.heap.size w w':=by
 unfold needsF at h
 split at h
 case isFalse => cases h
 rename_i hq
 obtain ⟨hsm,hl⟩:=hq
 have h:=Zo h
 obtain ⟨K,hK⟩:=op_May_f o ⟨hsm,by omega⟩
 have HAL:=Zz.k (Qan (Below.refl w.heap.size w) (.cells (oCells o A7 c7).toArray 38))
 have HM:=Zz.k (op_May.calls K o.f0 o.f1 o.f2 o.f3.f0 o.f3.f1 o.f3.f2 o.f4 A7 c7 o.f5 o.f6 o.f7 o.f8 (opOk o) _ (Kd.C_below hr7 HAL.out) hc7 (hK K (Nat.le_refl _)))
 have HCL:=Zz.k (fun W (hb : Below w.heap.size w W) => clone_calls A7 c7 o.f5 W (Kd.C_below hr7 hb) (by omega))
 obtain ⟨b0,b1,b2,b3,b4,b5,b6,b7,b8,b9,b10⟩:=O11.boxed w o A7 c7 38
 have HL:=Zz.k hl
 have HB:=Zz.k (O11.boxed w o A7 c7 38)
 clear hr7 hl hsm hK
 go_enter Try.func22,Try.ntmps22
 go_wp2_with fail
 refine HM.out.mono ?_
 rintro e w2 ⟨rfl,hb2⟩
 have HB2:=Zz.k (O11.below HB.out hb2)
 have HBW:=Zz.k (Qbm HAL.out hb2)
 clear b0 b1 b2 b3 b4 b5 b6 b7 b8 b9 b10 HM HB HAL hb2
 cases hm : opOk o with
 | false =>
  rw [hm] at h
  have e1 : (([] : List SElem),(1 : Int)) = (r1,r2):=h
  injection e1 with e1 e2
  subst e1 e2
  clear hm h
  go_wp2
  go_ret2
  exact ⟨_,rfl,Kd.R_nil _ _ _ _ _,HBW.out⟩
 | true =>
  rw [hm] at h
  have e1 : (Qaq o,(0 : Int)) = (r1,r2):=h
  injection e1 with e1 e2
  subst e2
  have HE:=Zz.k e1
  clear e1 h hm
  obtain ⟨x0,x1,x2,x3,x4,x5,x6,x7,x8,x9,x10⟩:=HB2.out
  go_upto_region 3 with (fail)
  refine stL (S:=fun w' => O11 w' w.heap.size o A7 c7) [11] 13 t_op_Needs.bits3 t_op_Needs.tab3 (hS:=⟨x0,x1,x2,x3,x4,x5,x6,x7,x8,x9,x10⟩) (h:=fun hS HT HW => ?_)
  clear x0 x1 x2 x3 x4 x5 x6 x7 x8 x9 x10
  refine pu HT 0 9 1 (h := ?_)
  refine tk HT HW hS 1 10 3 (h := ?_)
  refine pu HT 3 12 11 (h := ?_)
  refine tk HT HW hS 4 13 27 (h := ?_)
  refine pu HT 5 14 59 (h := ?_)
  refine tk HT HW hS 6 15 123 (h := ?_)
  refine pu HT 7 16 251 (h := ?_)
  refine tk HT HW hS 8 17 507 (h := ?_)
  refine pu HT 9 18 1019 (h := ?_)
  have HB1:=Zz.k (Qah HBW.out)
  clear HB2 HBW
  generalize w2.drew = w1 at HB1 hS ⊢
  have hgz : ∀ (W : World) j u,[Value.int .i64 o.f3.f0, .int .i64 o.f3.f1, .int .i64 o.f3.f2, .int .i64 o.f6, .int .i64 o.f7, .int .i64 0][j]? = some u -> (W.alloc (.cells #[.int .i64 o.f3.f0, .int .i64 o.f3.f1, .int .i64 o.f3.f2, .int .i64 o.f6, .int .i64 o.f7, .int .i64 0] 36)).cell? ⟨W.heap.size,j,none⟩ = some u:=by
   intro W j u hu
   have:=tp_cell W #[.int .i64 o.f3.f0, .int .i64 o.f3.f1, .int .i64 o.f3.f2, .int .i64 o.f6, .int .i64 o.f7, .int .i64 0] 36 W.heap.size j rfl
   rw [this]; simpa using hu
  have HGZ:=Zz.k hgz
  clear hgz
  have hbc : Below w1.heap.size w1 (w1.alloc (.cells #[.int .i64 o.f3.f0, .int .i64 o.f3.f1, .int .i64 o.f3.f2, .int .i64 o.f6, .int .i64 o.f7, .int .i64 0] 36)):=Qan (Below.refl _ w1) _
  have HS2:=Zz.k (O11.below hS hbc)
  refine two_ (i:=2) (j:=10) (Ni:=some 11) (Nj:=some 19) (bA 13 1023) (bA 13 2043) rfl rfl rfl rfl (two_of HT.out (by kernel_rfl)) (by decide) (by decide) (fun K hK => ?_) (fun K hK => ?_)
  case' refine_1 =>
   refine gS Try.func39 #[.slice A7 o.f5.length c7] (h := ?_)
   refine (HCL.out _ HB1.out).mono ?_
   rintro e w3 ⟨v,rfl,hR3,hb3⟩
   refine ⟨_,rfl, ?_⟩
   refine hK.out _ _ (O11.below hS hb3) (fun hS => ?_)
   clear hK HS2
   refine nm (h := ?_)
   refine exS HT 10 (some 19) 2047 (.slice (some ⟨w3.heap.size,0,none⟩) 2 2) (w3.alloc (.cells #[.int .i64 o.f3.f0, .int .i64 o.f3.f1, .int .i64 o.f3.f2, .int .i64 o.f6, .int .i64 o.f7, .int .i64 0] 36)) (hrun := ?_) (hS:=O11.below hS (Qan (Below.refl _ _) _)) (h:=fun hS' => ?_)
   ·clear HT HW hS
    go_simp
   refine nm (h := ?_)
   have hbx:=Qan (Below.refl w3.heap.size w3) (.cells #[.int .i64 o.f3.f0, .int .i64 o.f3.f1, .int .i64 o.f3.f2, .int .i64 o.f6, .int .i64 o.f7, .int .i64 0] 36)
   have hs1:=HB1.out.size
   have hs3:=hb3.size
   have hown:=Kd.R_base hR3
   obtain ⟨gA,nA,cA,wA,hrun,hnA,hgA,hgl,hRA,hGA⟩:=needs_app o.f3 ⟨o.f6,o.f7,0⟩ (g:=w3.heap.size) (Kd.R_below hR3 hbx) (by have:=hbx.size; omega) HL.out (HGZ.out w3)
   have hBA : Below w.heap.size w wA:=pw_below_grown (Qbm HB1.out (Qbm hb3 hbx)) _ (by have:=hbx.size; omega) hGA (fun k hk => by have:=hown k hk; omega)
   have hgA2 : w.heap.size <= gA:=by omega
   have HNA:=Zz.k hnA
   clear hnA
   have HRA:=Zz.k (Kd.R_lower hRA hs1)
   have HBA:=Zz.k hBA
   clear hS hS' hR3 hb3 hbx hs1 hs3 hown hgA hRA hGA hBA hbc
  case' refine_2 =>
   refine exKN hK (.slice (some ⟨w1.heap.size,0,none⟩) 2 2) (w1.alloc (.cells #[.int .i64 o.f3.f0, .int .i64 o.f3.f1, .int .i64 o.f3.f2, .int .i64 o.f6, .int .i64 o.f7, .int .i64 0] 36)) (hrun := ?_) (hS:=HS2.out) (h:=fun hS' => ?_)
   ·clear HT HW hS hK
    go_simp
   clear hK HS2
   refine nm (h := ?_)
   refine ca HT 2 (some 11) 2047 #[.slice A7 o.f5.length c7] Try.func39 (h:=fun K hK => ?_)
   refine (HCL.out _ (Qbm HB1.out hbc)).mono ?_
   rintro e w3 ⟨v,rfl,hR3,hb3⟩
   refine ⟨_,rfl, ?_⟩
   refine hK.out _ _ (O11.below hS' hb3) (fun hS => ?_)
   clear hK
   refine nm (h := ?_)
   have hs1:=HB1.out.size
   have hsx:=hbc.size
   have hs3:=hb3.size
   have hown:=Kd.R_base hR3
   obtain ⟨gA,nA,cA,wA,hrun,hnA,hgA,hgl,hRA,hGA⟩:=needs_app o.f3 ⟨o.f6,o.f7,0⟩ (g:=w1.heap.size) hR3 (by omega) HL.out (fun j u hu => Qaf hb3 (HGZ.out w1 j u hu))
   have hBA : Below w.heap.size w wA:=pw_below_grown (Qbm HB1.out (Qbm hbc hb3)) _ (by omega) hGA (fun k hk => by have:=hown k hk; omega)
   have hgA2 : w.heap.size <= gA:=by omega
   have HNA:=Zz.k hnA
   clear hnA
   have HRA:=Zz.k (Kd.R_lower hRA (show w.heap.size <= _ by omega))
   have HBA:=Zz.k hBA
   clear hS hS' hR3 hb3 hs1 hsx hs3 hown hgA hRA hGA hBA hbc
  all_goals
   refine exL HT 11 (some 20) 4095 (.slice (some ⟨gA,0,none⟩) nA cA) wA (hrun:=exec_app rfl rfl rfl hrun) (h := ?_)
   refine nm (h := ?_)
   refine pu HT 12 4 8191 (h := ?_)
   refine dn HT (h := ?_)
   clear HT HW hrun HGZ HB1 HCL
   have hnl : nA = (needRaw o).length:=by rw [HNA.out]; unfold needRaw; simp
   have HNE:=Zz.k (show compL (sortL (((needRaw o).map z0).filter fun e => !Qam e)) = r1 from HE.out)
   have hR0 : RE wA w.heap.size (.slice (some ⟨gA,0,none⟩) nA cA) (needRaw o):=HRA.out
   have hlN : (needRaw o).length <= 1000000:=by rw [<- hnl,HNA.out]; have:=HL.out; omega
   generalize needRaw o = lN at hnl hR0 HNE hlN
   have HR0:=Zz.k hR0
   have HG0:=Zz.k (Qau (Below.refl wA.heap.size wA) (some gA))
   have HNL:=Zz.k hnl
   clear HNA HRA hR0 HE HL hnl h
   go_wp2
   go_loopg [5,23] nA (fun gg _ s23 wr => ∃ k : Nat,k <= nA /\ nA - k <= gg /\ s23 = .int .i64 k /\ Zz (RE wr w.heap.size (.slice (some ⟨gA,0,none⟩) nA cA) ((lN.take k).map z0 ++ lN.drop k)) /\ Zz (wA.grownBy wr (some gA)))
   case atStart => exact ⟨0,by omega,by omega,rfl,HR0,HG0⟩
   case round =>
    clear HR0 HG0
    obtain ⟨k,hk,hgk,rfl,HR,HG⟩:=hrel
    by_cases hlt : k < nA
    ·obtain ⟨g1,rfl⟩ : ∃ g1,gk = g1 + 1:=⟨gk - 1,by omega⟩
     have hltz : (k : Int) < (nA : Int):=by omega
     have h0z : (0 : Int) <= (k : Int):=by omega
     have hn6 : nA <= 1000000:=by rw [HNL.out]; exact hlN
     obtain ⟨z1,z2,⟨q,z3⟩,z4⟩:=RE_zero HR.out k hlt
     rw [stepZ lN (by have:=HNL.out; omega)] at z1
     have HR1:=Zz.k z1
     have HG1:=Zz.k (Qav HG.out z2)
     clear z1 z2 HR HG
     go_wp2
     go_roundg g1
     case measure => omega
     case rel => exact ⟨k + 1,by omega,by omega,by go_num,HR1,HG1⟩
    ·obtain rfl : k = nA:=by omega
     have hltz : ¬ (k : Int) < (k : Int):=by omega
     have hR1 : RE wr w.heap.size (.slice (some ⟨gA,0,none⟩) k cA) (lN.map z0):=by
      have:=HR.out
      have hnl:=HNL.out
      rw [hnl,List.take_length,List.drop_length,List.append_nil,<- hnl] at this
      exact this
     have hl1 : k = (lN.map z0).length:=by rw [List.length_map]; exact HNL.out
     have hlM : (lN.map z0).length <= 1000000:=by rw [List.length_map]; exact hlN
     generalize lN.map z0 = l1 at hR1 hl1 HNE hlM
     clear HNL
     subst hl1
     have hsW:=HG.out.size
     have HD:=Zz.k (DeleteFuncElem 41 #[] w.heap.size cA (some ⟨gA,0,none⟩) l1 Qam wr (enters_at Try.func41 (by kernel_rfl) rfl) (by omega) hR1 (fun W x _ _ => needs1_calls x W))
     clear hR1 HR
     go_wp2_with fail
     refine HD.out.mono ?_
     rintro e w4 ⟨n4,rfl,hR4,hG4⟩
     have hfl : (l1.filter fun x => !Qam x).length <= 1000000:=Nat.le_trans (List.length_filter_le _ _) hlM
     have hG4 : wr.grownBy w4 (some gA):=hG4
     have HG4:=Zz.k (Qav HG.out hG4)
     have hs4:=hG4.size
     obtain ⟨hn4,_,_⟩:=Kd.R_reads' hR4
     generalize (l1.filter fun x => !Qam x) = l2 at hR4 hn4 HNE hfl
     subst hn4
     have HS4:=Zz.k (sort_calls hR4 (show gA < w4.heap.size by omega) hfl)
     clear HD hG4 HG hR4
     go_wp2_with fail
     refine HS4.out.mono ?_
     rintro e w5 ⟨rfl,hR5,hG5⟩
     have hl5 : (sortL l2).length = l2.length:=List.length_mergeSort _
     have HG5:=Zz.k (Qav HG4.out hG5)
     generalize sortL l2 = l3 at hR5 hl5 HNE
     rw [<- hl5] at hR5
     have hC5:=compact_calls hR5 (by omega)
     rw [hl5] at hC5
     have HC5:=Zz.k hC5
     clear hC5 hR5 HG4 hG5 HS4
     go_wp2_with fail
     refine HC5.out.mono ?_
     rintro e w6 ⟨n6,rfl,hR6,hG6⟩
     rw [HNE.out] at hR6
     have HR6:=Zz.k hR6
     have HG6:=Zz.k (Qav HG5.out hG6)
     clear hR6 hG6 HC5 HG5
     go_wp2
     go_ret2
     exact ⟨_,rfl,HR6.out,pw_below_grown HBA.out _ HBA.out.size HG6.out (fun k hk => by injection hk with hk; omega)⟩
theorem op_Needs.calls (a0_0 : Int) (a0_1 : Int) (a0_2 : Int) (a0_3 : Int) (a0_4 : Int) (a0_5 : Int) (a0_6 : ByteArray) (A0_7 : Option Addr) (c0_7 : Nat) (l0_7 : List (SElem)) (a0_8 : Int) (a0_9 : Int) (a0_10 : Int) (r1 : List (SElem)) (r2 : Int) (w : World) (hr0_7 : Kd.C Qao w A0_7 l0_7.length l0_7) (hc0_7 : l0_7.length <= c0_7) (h : op_Needs.f a0_0 a0_1 a0_2 a0_3 a0_4 a0_5 a0_6 l0_7 a0_8 a0_9 a0_10 = some (r1,r2)) :
  Calls Try.prog 22 #[.agg #[.int .i64 a0_0, .int .i64 a0_1, .int .i64 a0_2, .int .i64 a0_3, .int .i64 a0_4, .int .i64 a0_5, .string a0_6, .slice A0_7 l0_7.length c0_7, .int .i64 a0_8, .int .i64 a0_9, .int .i64 a0_10]] w fun e w' => ∃ v0_ : Value,e = .returned (.tuple #[v0_, .int .i64 r2]) /\ Kd.R Qao 36 w' w.heap.size (fun _ => True) v0_ r1 /\ Below w.heap.size w w' :=
 Needs_calls ⟨a0_0,a0_1,a0_2,⟨a0_3,a0_4,a0_5⟩,a0_6,l0_7,a0_8,a0_9,a0_10⟩ A0_7 c0_7 r1 r2 w hr0_7 hc0_7 h
end
section
def Asc (l : List SElem) : Prop:=l.Pairwise fun a b => Qat a b = true
def Weak (l : List SElem) : Prop:=l.Pairwise fun a b => Qat b a = false
theorem el_eq {a b : SElem} (h1 : Qat a b = false) (h2 : Qat b a = false) : a = b:=by
 rw [Qbl] at h1 h2
 cases a; cases b
 simp only at h1 h2
 rw [SElem.mk.injEq]
 exact ⟨by omega,by omega,by omega⟩
theorem el_irrefl (a : SElem) : Qat a a = false:=by rw [Qbl]; omega
theorem el_le_lt {a b c : SElem} (h1 : Qat b a = false) (h2 : Qat b c = true) : Qat a c = true:=by rw [Qbl] at h1; rw [elLess_iff] at *; omega
theorem el_asymm {a b : SElem} (h1 : Qat a b = true) : Qat b a = false:=by rw [Qbl]; rw [elLess_iff] at h1; omega
theorem sort_weak (l : List SElem) : Weak (sortL l):=by
 have:=List.pairwise_mergeSort (le:=fun x y => !Qat y x) (fun a b c h1 h2 => by
  simp only [Bool.not_eq_true'] at h1 h2 ⊢
  rw [Qbl] at h1 h2 ⊢; omega) (fun a b => by
  cases h : Qat b a
  ·rfl
  ·rw [el_asymm h]; rfl) l
 exact this.imp (fun h => by simpa using h)
theorem sort_mem (l : List SElem) (e : SElem) : e ∈ sortL l ↔ e ∈ l:=(List.mergeSort_perm l _).mem_iff
theorem compN_spec {l : List SElem} (h : Weak l) : ∀ n,n <= l.length -> Asc (compN l n) /\ ∀ e,e ∈ compN l n ↔ e ∈ l.take n
 | 0,_ => ⟨List.Pairwise.nil,fun e => by rw [List.take_zero]; rfl⟩
 | n + 1,hn => by
  obtain ⟨ih1,ih2⟩:=compN_spec h n (by omega)
  have hlt : n < l.length:=by omega
  have hw:=List.pairwise_iff_getElem.1 h
  unfold compN
  rw [Qaj _ _ hlt,List.take_succ_eq_append_getElem hlt]
  by_cases h0 : n = 0
  ·subst h0
   rw [if_pos (.inl rfl)]
   exact ⟨by show Asc [l[0]]; exact List.pairwise_singleton _ _,fun e => by simp [compN]⟩
  ·have hp : n - 1 < l.length:=by omega
   rw [Qaj _ _ hp]
   by_cases hne : l[n] ≠ l[n - 1]
   ·rw [if_pos (.inr hne)]
    have hlast : Qat l[n - 1] l[n] = true:=by
     cases hc : Qat l[n - 1] l[n]
     ·exact absurd (el_eq (hw (n - 1) n hp hlt (by omega)) hc) hne
     ·rfl
    refine ⟨List.pairwise_append.2 ⟨ih1,List.pairwise_singleton _ _,fun a ha b hb => ?_⟩,fun e => by rw [List.mem_append,List.mem_append,ih2]⟩
    rw [List.mem_singleton] at hb
    subst hb
    rw [ih2] at ha
    obtain ⟨i,hi,rfl⟩:=List.mem_take_iff_getElem.1 ha
    have hi' : i < n:=by omega
    rcases Nat.lt_or_ge i (n - 1) with h1 | h1
    ·exact el_le_lt (hw i (n - 1) (by omega) hp h1) hlast
    ·obtain rfl : i = n - 1:=by omega
     exact hlast
   ·have he : l[n] = l[n - 1]:=Classical.not_not.1 hne
    rw [if_neg (by rintro (h1 | h1); exact h0 h1; exact hne h1)]
    refine ⟨ih1,fun e => ?_⟩
    rw [ih2,List.mem_append,List.mem_singleton,he]
    constructor
    ·exact .inl
    ·rintro (h1 | h1)
     ·exact h1
     ·rw [h1]; exact List.mem_take_iff_getElem.2 ⟨n - 1,by omega,rfl⟩
theorem needs_asc (o : SOp) : Asc (Qaq o):=(compN_spec (sort_weak _) _ (Nat.le_refl _)).1
theorem needs_mem (o : SOp) (e : SElem) : e ∈ Qaq o ↔ e ∈ ((needRaw o).map z0).filter fun e => !Qam e:=by
 unfold Qaq compL
 rw [(compN_spec (sort_weak _) _ (Nat.le_refl _)).2,List.take_length,sort_mem]
theorem gone_all {o : SOp} : ∀ (l : List SElem) (p : Option SElem),Qbe o p l = true -> ∀ e ∈ l,Qam e = false /\ elemOk e = true /\ ownEl o e = false
 | [],_,_ => fun e he => by cases he
 | x :: r,p,h => fun e he => by
  unfold Qbe at h; simp only [Bool.and_eq_true,Bool.not_eq_true'] at h
  rcases List.mem_cons.1 he with rfl | he
  ·exact ⟨h.1.1.1.1,h.1.1.1.2,h.1.1.2⟩
  ·exact gone_all r _ h.2 e he
theorem begin_iff (e : SElem) : Qam e = true ↔ e = ⟨0,0,0⟩:=by
 obtain ⟨a,b,c⟩:=e
 unfold Qam
 simp only [Bool.and_eq_true,beq_iff_eq,SElem.mk.injEq]
theorem name_pos {a b : Int} (h : nameOk a b = true) : 1 <= a /\ 1 <= b:=by
 unfold nameOk at h; simp only [Bool.and_eq_true,decide_eq_true_eq] at h; exact ⟨h.1.1.1,h.1.2⟩
theorem elem_pos {e : SElem} (h : elemOk e = true) (hb : Qam e = false) : 1 <= e.f0 /\ 1 <= e.f1:=by
 unfold elemOk at h; rw [hb,Bool.false_or] at h; simp only [Bool.and_eq_true] at h; exact name_pos h.1.1
theorem z0_begin {e : SElem} (h : 1 <= e.f0) : Qam (z0 e) = false:=by
 cases hb : Qam (z0 e)
 ·rfl
 ·rw [begin_iff] at hb; have : (z0 e).f0 = 0:=by rw [hb]
  have : e.f0 = 0:=this
  omega
theorem needs_iff {o : SOp} (h : opOk o = true) (e : SElem) : e ∈ Qaq o ↔ (if o.f2 = 1 then (∃ x,(x ∈ o.f5 \/ (x = o.f3 /\ Qam o.f3 = false)) /\ e = z0 x) else e = ⟨o.f6,o.f7,0⟩):=by
 rw [needs_mem,List.mem_filter,List.mem_map]
 unfold opOk at h
 simp only [Bool.and_eq_true] at h
 obtain ⟨hn,h⟩:=h
 by_cases h1 : o.f2 = 1
 ·rw [if_pos h1] at h ⊢
  unfold editOk goneOk at h
  simp only [Bool.and_eq_true,beq_iff_eq,Bool.not_eq_true'] at h
  have hg:=gone_all _ _ h.1.1.1.2.1
  have hE : elemOk o.f3 = true:=h.1.1.1.1.1.1.1.1.1
  have h6:=h.1.1.2
  have h7:=h.1.2
  constructor
  ·rintro ⟨⟨x,hx,rfl⟩,hb⟩
   unfold needRaw at hx
   rw [List.mem_append,List.mem_cons,List.mem_singleton] at hx
   refine ⟨x, ?_,rfl⟩
   rcases hx with hx | rfl | rfl
   ·exact .inl hx
   ·refine .inr ⟨rfl, ?_⟩
    cases hb3 : Qam o.f3
    ·rfl
    ·rw [begin_iff] at hb3; rw [hb3] at hb; cases hb
   ·rw [h6,h7] at hb; cases hb
  ·rintro ⟨x,hx,rfl⟩
   have hp : 1 <= x.f0:=by
    rcases hx with hx | ⟨rfl,hb⟩
    ·exact (elem_pos (hg x hx).2.1 (hg x hx).1).1
    ·exact (elem_pos hE hb).1
   refine ⟨⟨x, ?_,rfl⟩,by rw [z0_begin hp]; rfl⟩
   unfold needRaw
   rw [List.mem_append,List.mem_cons]
   rcases hx with hx | ⟨rfl,_⟩
   ·exact .inl hx
   ·exact .inr (.inl rfl)
 ·rw [if_neg h1] at h ⊢
  simp only [Bool.and_eq_true] at h
  obtain ⟨h2,h⟩:=h
  unfold toggleOk at h
  simp only [Bool.and_eq_true] at h
  have hb3 : Qam o.f3 = true:=h.1.1.2
  have h5 : o.f5 = []:=List.isEmpty_iff.1 h.2
  have hp:=(name_pos h.1.1.1.1.1.1).1
  constructor
  ·rintro ⟨⟨x,hx,rfl⟩,hb⟩
   unfold needRaw at hx
   rw [h5,List.nil_append,List.mem_cons,List.mem_singleton] at hx
   rcases hx with rfl | rfl
   ·rw [begin_iff] at hb3; rw [hb3] at hb; cases hb
   ·rfl
  ·rintro rfl
   refine ⟨⟨⟨o.f6,o.f7,0⟩, ?_,rfl⟩, ?_⟩
   ·unfold needRaw; rw [h5]; exact List.mem_cons_of_mem _ List.mem_cons_self
   ·have:=z0_begin (e:=⟨o.f6,o.f7,0⟩) hp
    show (!Qam (z0 ⟨o.f6,o.f7,0⟩)) = true
    rw [this]; rfl
theorem needs_own {o : SOp} (h : opOk o = true) {e : SElem} (he : e ∈ Qaq o) : ownEl o e = false:=by
 rw [needs_iff h] at he
 unfold opOk at h
 simp only [Bool.and_eq_true] at h
 obtain ⟨hn,h⟩:=h
 by_cases h1 : o.f2 = 1
 ·rw [if_pos h1] at h he
  obtain ⟨x,hx,rfl⟩:=he
  unfold editOk goneOk at h
  simp only [Bool.and_eq_true,Bool.not_eq_true'] at h
  have hg:=gone_all _ _ h.1.1.1.2.1
  rcases hx with hx | ⟨rfl,_⟩
  ·exact (hg x hx).2.2
  ·exact h.1.1.1.1.1.1.1.1.2
 ·rw [if_neg h1] at h he
  subst he
  simp only [Bool.and_eq_true] at h
  have h3:=h.2
  unfold toggleOk at h3
  simp only [Bool.and_eq_true,Bool.not_eq_true'] at h3
  exact h3.1.1.1.1.1.2
theorem needs_len (o : SOp) : (Qaq o).length <= o.f5.length + 2:=by
 unfold Qaq compL
 refine Nat.le_trans (compN_le _ _) ?_
 unfold sortL
 rw [List.length_mergeSort]
 refine Nat.le_trans (List.length_filter_le _ _) ?_
 rw [List.length_map]; unfold needRaw; simp
end
section
attribute [local go_sem] max2_int min2_int max_two min_two Qbj Qbi max_four min_four
attribute [local go_sem high] eqAElem
def op_Own.f (k : Nat) (a0_0 : Int) (a0_1 : Int) (a0_2 : Int) (a0_3 : Int) (a0_4 : Int) (a0_5 : Int) (a0_6 : ByteArray) (l0_7 : List (SElem)) (a0_8 : Int) (a0_9 : Int) (a0_10 : Int) (a1 : Int) : Option (Int × Int × Int × Int):=(op_May.f k a0_0 a0_1 a0_2 a0_3 a0_4 a0_5 a0_6 l0_7 a0_8 a0_9 a0_10).bind fun t183 => (if t183 = true then (if a1 < 0 then (some (0,0,0,2)) else ((op_Size.f a0_0 a0_1 a0_2 a0_3 a0_4 a0_5 a0_6 l0_7 a0_8 a0_9 a0_10).bind fun t184 => (if a1 >= t184 then (some (0,0,0,2)) else ((op_At.f a0_0 a0_1 a0_2 a0_3 a0_4 a0_5 a0_6 l0_7 a0_8 a0_9 a0_10 a1).bind fun bt185 => (some (bt185.1,bt185.2.1,bt185.2.2,0)))))) else (some (0,0,0,1)))
theorem op_Own.mono : ∀ a0 a1 a2 a3 a4 a5 a6 a7 a8 a9 a10 a11 k,LeO (op_Own.f k a0 a1 a2 a3 a4 a5 a6 a7 a8 a9 a10 a11) (op_Own.f (k + 1) a0 a1 a2 a3 a4 a5 a6 a7 a8 a9 a10 a11):=by
 intro a0 a1 a2 a3 a4 a5 a6 a7 a8 a9 a10 a11 k
 unfold op_Own.f
 repeat' first
   | (with_reducible exact op_May.mono _ _ _ _ _ _ _ _ _ _ _ _)
   | (with_reducible exact LeO.refl _)
   | (with_reducible exact LeO.none _)
   | (with_reducible refine LeO.ite ?_ ?_)
   | (with_reducible refine LeO.bind ?_ (fun _ => ?_))
   | exact op_May.mono _ _ _ _ _ _ _ _ _ _ _ _
   | exact LeO.none _
   | refine LeO.ite ?_ ?_
   | refine LeO.bind ?_ (fun _ => ?_)
theorem op_Own.calls (k : Nat) (a0_0 : Int) (a0_1 : Int) (a0_2 : Int) (a0_3 : Int) (a0_4 : Int) (a0_5 : Int) (a0_6 : ByteArray) (A0_7 : Option Addr) (c0_7 : Nat) (l0_7 : List (SElem)) (a0_8 : Int) (a0_9 : Int) (a0_10 : Int) (a1 : Int) (r1 : Int) (r2 : Int) (r3 : Int) (r4 : Int) (w : World) (hr0_7 : Kd.C Qao w A0_7 l0_7.length l0_7) (hc0_7 : l0_7.length <= c0_7) (h : op_Own.f k a0_0 a0_1 a0_2 a0_3 a0_4 a0_5 a0_6 l0_7 a0_8 a0_9 a0_10 a1 = some (r1,r2,r3,r4)) :
  Calls Try.prog 23 #[.agg #[.int .i64 a0_0, .int .i64 a0_1, .int .i64 a0_2, .int .i64 a0_3, .int .i64 a0_4, .int .i64 a0_5, .string a0_6, .slice A0_7 l0_7.length c0_7, .int .i64 a0_8, .int .i64 a0_9, .int .i64 a0_10], .int .i64 a1] w fun e w' => e = .returned (.tuple #[.agg #[.int .i64 r1, .int .i64 r2, .int .i64 r3], .int .i64 r4]) /\ Below w.heap.size w w':=by
 have hu38:=Try.underlying38
 have hu36:=Try.underlying36
 have HR0_7:=Zz.k hr0_7
 have HC0_7:=Zz.k hc0_7
 clear hr0_7 hc0_7
 have HB:=Zz.k (Below.refl w.heap.size w)
 unfold op_Own.f at h; have H:=h
 clear h
 obtain ⟨t183,A3,H⟩:=bE H
 by_cases c4 : t183 = true; rotate_left
 ·replace c4:=Zf c4
  subst c4
  rw [if_neg nft] at H
  simp only [Option.some.injEq,Prod.mk.injEq] at H
  obtain ⟨rfl,rfl,rfl,rfl⟩:=H
  go_enter Try.func23,Try.ntmps23
  go_wp2_with (first | ((with_reducible refine Qad (N:=2) rfl ?_); refine bx 2 #[.int .i64 a0_0, .int .i64 a0_1, .int .i64 a0_2, .int .i64 a0_3, .int .i64 a0_4, .int .i64 a0_5, .string a0_6, .slice A0_7 l0_7.length c0_7, .int .i64 a0_8, .int .i64 a0_9, .int .i64 a0_10] 38 (h := ?_); intro gb181 hg w33 hbox hb; have BK181:=Zz.k (hbox); have GW181:=bz HB hg; have GE181:=bz HB hg; replace HB:=bs HB hb; clear hb hbox hg) | ((with_reducible refine Qad (N:=4) rfl ?_); refine bx 4 #[.int .i64 0, .int .i64 0, .int .i64 0] 36 (h := ?_); intro gb182 hg w34 hbox hb; have BK182:=Zz.k (hbox); have GW182:=bz HB hg; have GE182:=bz HB hg; have NB181_182:=bn BK181 hg; have NB182_181:=bm BK181 hg; replace BK181:=bl BK181 hb; replace HB:=bs HB hb; clear hb hbox hg; have hnb35:=NB181_182.out; have hnc35:=NB182_181.out; obtain ⟨_,_,_,_,_,_,_,_,_,_,_,_,_,_,_,_,_,_,_,_,_,_⟩:=kc11 BK181) | ((with_reducible refine Qac (f:=37) rfl ?_); refine gl (some 8) Try.func37 #[.agg #[.int .i64 a0_0, .int .i64 a0_1, .int .i64 a0_2, .int .i64 a0_3, .int .i64 a0_4, .int .i64 a0_5, .string a0_6, .slice A0_7 l0_7.length c0_7, .int .i64 a0_8, .int .i64 a0_9, .int .i64 a0_10]] (h := ?_); (with_reducible refine (op_May.calls k a0_0 a0_1 a0_2 a0_3 a0_4 a0_5 a0_6 _ _ l0_7 a0_8 a0_9 a0_10 false _ ?side1 ?side2 A3.out).mono ?_); (case side1 => exact cb HR0_7 HB); (case side2 => exact HC0_7.out); rintro e w37 ⟨rfl,hb⟩; refine ⟨_,rfl, ?_⟩; replace BK181:=bl BK181 hb; replace BK182:=bl BK182 hb; replace HB:=bs HB hb; clear hb; obtain ⟨_,_,_,_,_,_⟩:=kc3 BK182))
  refine bodyPost_ret (results_ct rfl _ _ gb182 36 #[.int .i64 0, .int .i64 0, .int .i64 0] (0,0) _ rfl (bp (bp (bp (kk BK182) 0) 1) 2) Try.underlying36 rfl (by kernel_rfl)) rfl ?_
  exact ⟨re,bw HB⟩
 subst c4
 rw [if_pos rfl] at H
 by_cases c5 : a1 < 0
 ·rw [if_pos c5] at H
  have c5b0:=Zd c5
  clear c5
  simp only [Option.some.injEq,Prod.mk.injEq] at H
  obtain ⟨rfl,rfl,rfl,rfl⟩:=H
  go_enter Try.func23,Try.ntmps23
  go_wp2_with (first | ((with_reducible refine Qad (N:=2) rfl ?_); refine bx 2 #[.int .i64 a0_0, .int .i64 a0_1, .int .i64 a0_2, .int .i64 a0_3, .int .i64 a0_4, .int .i64 a0_5, .string a0_6, .slice A0_7 l0_7.length c0_7, .int .i64 a0_8, .int .i64 a0_9, .int .i64 a0_10] 38 (h := ?_); intro gb181 hg w6 hbox hb; have BK181:=Zz.k (hbox); have GW181:=bz HB hg; have GE181:=bz HB hg; replace HB:=bs HB hb; clear hb hbox hg) | ((with_reducible refine Qad (N:=4) rfl ?_); refine bx 4 #[.int .i64 0, .int .i64 0, .int .i64 0] 36 (h := ?_); intro gb182 hg w7 hbox hb; have BK182:=Zz.k (hbox); have GW182:=bz HB hg; have GE182:=bz HB hg; have NB181_182:=bn BK181 hg; have NB182_181:=bm BK181 hg; replace BK181:=bl BK181 hb; replace HB:=bs HB hb; clear hb hbox hg; have hnb8:=NB181_182.out; have hnc8:=NB182_181.out; obtain ⟨_,_,_,_,_,_,_,_,_,_,_,_,_,_,_,_,_,_,_,_,_,_⟩:=kc11 BK181) | ((with_reducible refine Qac (f:=37) rfl ?_); refine gl (some 8) Try.func37 #[.agg #[.int .i64 a0_0, .int .i64 a0_1, .int .i64 a0_2, .int .i64 a0_3, .int .i64 a0_4, .int .i64 a0_5, .string a0_6, .slice A0_7 l0_7.length c0_7, .int .i64 a0_8, .int .i64 a0_9, .int .i64 a0_10]] (h := ?_); (with_reducible refine (op_May.calls k a0_0 a0_1 a0_2 a0_3 a0_4 a0_5 a0_6 _ _ l0_7 a0_8 a0_9 a0_10 true _ ?side1 ?side2 A3.out).mono ?_); (case side1 => exact cb HR0_7 HB); (case side2 => exact HC0_7.out); rintro e w10 ⟨rfl,hb⟩; refine ⟨_,rfl, ?_⟩; replace BK181:=bl BK181 hb; replace BK182:=bl BK182 hb; replace HB:=bs HB hb; clear hb; obtain ⟨_,_,_,_,_,_⟩:=kc3 BK182))
  refine bodyPost_ret (results_ct rfl _ _ gb182 36 #[.int .i64 0, .int .i64 0, .int .i64 0] (0,0) _ rfl (bp (bp (bp (kk BK182) 0) 1) 2) Try.underlying36 rfl (by kernel_rfl)) rfl ?_
  exact ⟨re,bw HB⟩
 rw [if_neg c5] at H
 have c5b0:=Ze c5
 clear c5
 obtain ⟨t184,A12,H⟩:=bE H
 by_cases c13 : a1 >= t184
 ·rw [if_pos c13] at H
  have c13b0:=Zd c13
  clear c13
  simp only [Option.some.injEq,Prod.mk.injEq] at H
  obtain ⟨rfl,rfl,rfl,rfl⟩:=H
  go_enter Try.func23,Try.ntmps23
  go_wp2_with (first | ((with_reducible refine Qad (N:=2) rfl ?_); refine bx 2 #[.int .i64 a0_0, .int .i64 a0_1, .int .i64 a0_2, .int .i64 a0_3, .int .i64 a0_4, .int .i64 a0_5, .string a0_6, .slice A0_7 l0_7.length c0_7, .int .i64 a0_8, .int .i64 a0_9, .int .i64 a0_10] 38 (h := ?_); intro gb181 hg w14 hbox hb; have BK181:=Zz.k (hbox); have GW181:=bz HB hg; have GE181:=bz HB hg; replace HB:=bs HB hb; clear hb hbox hg) | ((with_reducible refine Qad (N:=4) rfl ?_); refine bx 4 #[.int .i64 0, .int .i64 0, .int .i64 0] 36 (h := ?_); intro gb182 hg w15 hbox hb; have BK182:=Zz.k (hbox); have GW182:=bz HB hg; have GE182:=bz HB hg; have NB181_182:=bn BK181 hg; have NB182_181:=bm BK181 hg; replace BK181:=bl BK181 hb; replace HB:=bs HB hb; clear hb hbox hg; have hnb16:=NB181_182.out; have hnc16:=NB182_181.out; obtain ⟨_,_,_,_,_,_,_,_,_,_,_,_,_,_,_,_,_,_,_,_,_,_⟩:=kc11 BK181) | ((with_reducible refine Qac (f:=37) rfl ?_); refine gl (some 8) Try.func37 #[.agg #[.int .i64 a0_0, .int .i64 a0_1, .int .i64 a0_2, .int .i64 a0_3, .int .i64 a0_4, .int .i64 a0_5, .string a0_6, .slice A0_7 l0_7.length c0_7, .int .i64 a0_8, .int .i64 a0_9, .int .i64 a0_10]] (h := ?_); (with_reducible refine (op_May.calls k a0_0 a0_1 a0_2 a0_3 a0_4 a0_5 a0_6 _ _ l0_7 a0_8 a0_9 a0_10 true _ ?side1 ?side2 A3.out).mono ?_); (case side1 => exact cb HR0_7 HB); (case side2 => exact HC0_7.out); rintro e w18 ⟨rfl,hb⟩; refine ⟨_,rfl, ?_⟩; replace BK181:=bl BK181 hb; replace BK182:=bl BK182 hb; replace HB:=bs HB hb; clear hb; obtain ⟨_,_,_,_,_,_,_,_,_,_,_,_,_,_,_,_,_,_,_,_,_,_⟩:=kc11 BK181) | (go_at_call 45; (with_reducible refine (op_Size.calls a0_0 a0_1 a0_2 a0_3 a0_4 a0_5 a0_6 _ _ l0_7 a0_8 a0_9 a0_10 t184 _ ?side1 ?side2 A12.out).mono ?_); (case side1 => exact cb HR0_7 HB); (case side2 => exact HC0_7.out); rintro e w20 ⟨rfl,hb⟩; replace BK181:=bl BK181 hb; replace BK182:=bl BK182 hb; replace HB:=bs HB hb; clear hb; obtain ⟨_,_,_,_,_,_⟩:=kc3 BK182))
  refine bodyPost_ret (results_ct rfl _ _ gb182 36 #[.int .i64 0, .int .i64 0, .int .i64 0] (0,0) _ rfl (bp (bp (bp (kk BK182) 0) 1) 2) Try.underlying36 rfl (by kernel_rfl)) rfl ?_
  exact ⟨re,bw HB⟩
 rw [if_neg c13] at H
 have c13b0:=Ze c13
 clear c13
 obtain ⟨⟨t185,t186,t187⟩,A22,H⟩:=bE H
 try dsimp only at H
 simp only [Option.some.injEq,Prod.mk.injEq] at H
 obtain ⟨rfl,rfl,rfl,rfl⟩:=H
 go_enter Try.func23,Try.ntmps23
 go_wp2_with (first | ((with_reducible refine Qad (N:=2) rfl ?_); refine bx 2 #[.int .i64 a0_0, .int .i64 a0_1, .int .i64 a0_2, .int .i64 a0_3, .int .i64 a0_4, .int .i64 a0_5, .string a0_6, .slice A0_7 l0_7.length c0_7, .int .i64 a0_8, .int .i64 a0_9, .int .i64 a0_10] 38 (h := ?_); intro gb181 hg w23 hbox hb; have BK181:=Zz.k (hbox); have GW181:=bz HB hg; have GE181:=bz HB hg; replace HB:=bs HB hb; clear hb hbox hg) | ((with_reducible refine Qad (N:=4) rfl ?_); refine bx 4 #[.int .i64 0, .int .i64 0, .int .i64 0] 36 (h := ?_); intro gb182 hg w24 hbox hb; have BK182:=Zz.k (hbox); have GW182:=bz HB hg; have GE182:=bz HB hg; have NB181_182:=bn BK181 hg; have NB182_181:=bm BK181 hg; replace BK181:=bl BK181 hb; replace HB:=bs HB hb; clear hb hbox hg; have hnb25:=NB181_182.out; have hnc25:=NB182_181.out; obtain ⟨_,_,_,_,_,_,_,_,_,_,_,_,_,_,_,_,_,_,_,_,_,_⟩:=kc11 BK181) | ((with_reducible refine Qac (f:=37) rfl ?_); refine gl (some 8) Try.func37 #[.agg #[.int .i64 a0_0, .int .i64 a0_1, .int .i64 a0_2, .int .i64 a0_3, .int .i64 a0_4, .int .i64 a0_5, .string a0_6, .slice A0_7 l0_7.length c0_7, .int .i64 a0_8, .int .i64 a0_9, .int .i64 a0_10]] (h := ?_); (with_reducible refine (op_May.calls k a0_0 a0_1 a0_2 a0_3 a0_4 a0_5 a0_6 _ _ l0_7 a0_8 a0_9 a0_10 true _ ?side1 ?side2 A3.out).mono ?_); (case side1 => exact cb HR0_7 HB); (case side2 => exact HC0_7.out); rintro e w27 ⟨rfl,hb⟩; refine ⟨_,rfl, ?_⟩; replace BK181:=bl BK181 hb; replace BK182:=bl BK182 hb; replace HB:=bs HB hb; clear hb; obtain ⟨_,_,_,_,_,_,_,_,_,_,_,_,_,_,_,_,_,_,_,_,_,_⟩:=kc11 BK181) | (go_at_call 45; (with_reducible refine (op_Size.calls a0_0 a0_1 a0_2 a0_3 a0_4 a0_5 a0_6 _ _ l0_7 a0_8 a0_9 a0_10 t184 _ ?side1 ?side2 A12.out).mono ?_); (case side1 => exact cb HR0_7 HB); (case side2 => exact HC0_7.out); rintro e w29 ⟨rfl,hb⟩; replace BK181:=bl BK181 hb; replace BK182:=bl BK182 hb; replace HB:=bs HB hb; clear hb; obtain ⟨_,_,_,_,_,_,_,_,_,_,_,_,_,_,_,_,_,_,_,_,_,_⟩:=kc11 BK181) | ((with_reducible refine Qac (f:=46) rfl ?_); refine gl (some 23) Try.func46 #[.agg #[.int .i64 a0_0, .int .i64 a0_1, .int .i64 a0_2, .int .i64 a0_3, .int .i64 a0_4, .int .i64 a0_5, .string a0_6, .slice A0_7 l0_7.length c0_7, .int .i64 a0_8, .int .i64 a0_9, .int .i64 a0_10], .int .i64 a1] (h := ?_); (with_reducible refine (op_At.calls a0_0 a0_1 a0_2 a0_3 a0_4 a0_5 a0_6 _ _ l0_7 a0_8 a0_9 a0_10 a1 t185 t186 t187 _ ?side1 ?side2 A22.out).mono ?_); (case side1 => exact cb HR0_7 HB); (case side2 => exact HC0_7.out); rintro e w31 ⟨rfl,hb⟩; refine ⟨_,rfl, ?_⟩; replace BK181:=bl BK181 hb; replace BK182:=bl BK182 hb; replace HB:=bs HB hb; clear hb; obtain ⟨_,_,_,_,_,_⟩:=kc3 BK182))
 refine bodyPost_ret (results_ct rfl _ _ gb182 36 #[.int .i64 t185, .int .i64 t186, .int .i64 t187] (0,0) _ rfl (bp (bp (bp (kk BK182) 0) 1) 2) Try.underlying36 rfl (by kernel_rfl)) rfl ?_
 exact ⟨re,bw HB⟩
def w4_wakes.f (k : Nat)  : Option (Bool):=(op_Elems.f k 1 1 1 0 0 0 (⟨#[97,98]⟩ : ByteArray) ([] : List (SElem)) 0 0 0).bind fun bt189 => ((op_Own.f k 1 1 1 0 0 0 (⟨#[97,98]⟩ : ByteArray) ([] : List (SElem)) 0 0 0 1).bind fun bt193 => ((op_Check.f k 1 1 1 0 0 0 (⟨#[97,98]⟩ : ByteArray) ([] : List (SElem)) 0 0 0).bind fun t198 => ((w4_num.f t198).bind fun t199 => (if t199 = 0 then ((w4_num.f bt189.2).bind fun t200 => (if t200 = 0 then ((w4_num.f bt193.2.2.2).bind fun t201 => (if t201 = 0 then (if (bt189.1.length : Int) = 2 then (some (bt193.1 == 1 && (bt193.2.1 == 1 && (bt193.2.2.1 == 1)))) else (some false)) else (some false))) else (some false))) else (some false)))))
theorem w4_wakes.mono : ∀ k,LeO (w4_wakes.f k ) (w4_wakes.f (k + 1) ):=by
 intro  k
 unfold w4_wakes.f
 repeat' first
   | (with_reducible exact op_Check.mono _ _ _ _ _ _ _ _ _ _ _ _)
   | (with_reducible exact op_Elems.mono _ _ _ _ _ _ _ _ _ _ _ _)
   | (with_reducible exact op_Own.mono _ _ _ _ _ _ _ _ _ _ _ _ _)
   | (with_reducible exact LeO.refl _)
   | (with_reducible exact LeO.none _)
   | (with_reducible refine LeO.ite ?_ ?_)
   | (with_reducible refine LeO.bind ?_ (fun _ => ?_))
   | exact op_Check.mono _ _ _ _ _ _ _ _ _ _ _ _
   | exact op_Elems.mono _ _ _ _ _ _ _ _ _ _ _ _
   | exact op_Own.mono _ _ _ _ _ _ _ _ _ _ _ _ _
   | exact LeO.none _
   | refine LeO.ite ?_ ?_
   | refine LeO.bind ?_ (fun _ => ?_)
theorem w4_wakes.calls (k : Nat)  (r : Bool) (w : World) (h : w4_wakes.f k  = some r) :
  Calls Try.prog 25 #[] w fun e w' => e = .returned (.bool r) /\ Below w.heap.size w w':=by
 have hu38:=Try.underlying38
 have hu36:=Try.underlying36
 have HB:=Zz.k (Below.refl w.heap.size w)
 unfold w4_wakes.f at h; have H:=h
 clear h
 obtain ⟨⟨t189,t192⟩,A1,H⟩:=bE H
 try dsimp only at H
 obtain ⟨⟨t193,t194,t195,t196⟩,A2,H⟩:=bE H
 try dsimp only at H
 obtain ⟨t198,A3,H⟩:=bE H
 obtain ⟨t199,A4,H⟩:=bE H
 by_cases c5 : t199 = 0; rotate_left
 ·rw [if_neg c5] at H
  obtain ⟨c5b0,c5b1⟩:=bF c5
  obtain rfl:=Zo H
  go_enter Try.func25,Try.ntmps25
  go_wp2_with (first | ((with_reducible refine Qad (N:=1) rfl ?_); (try (refine Qai (by rfl) ?_; dsimp only)); refine bx 1 #[.int .i64 0, .int .i64 0, .int .i64 0, .int .i64 0, .int .i64 0, .int .i64 0, .string (⟨#[]⟩ : ByteArray), .slice none 0 0, .int .i64 0, .int .i64 0, .int .i64 0] 38 (h := ?_); intro gb188 hg w54 hbox hb; have BK188:=Zz.k (hbox); have GW188:=bz HB hg; have GE188:=bz HB hg; replace HB:=bs HB hb; clear hb hbox hg; obtain ⟨_,_,_,_,_,_,_,_,_,_,_,_,_,_,_,_,_,_,_,_,_,_⟩:=kc11 BK188) | ((with_reducible refine Qac (f:=21) rfl ?_); refine gl (some 9) Try.func21 #[.agg #[.int .i64 1, .int .i64 1, .int .i64 1, .int .i64 0, .int .i64 0, .int .i64 0, .string (⟨#[97,98]⟩ : ByteArray), .slice none 0 0, .int .i64 0, .int .i64 0, .int .i64 0]] (h := ?_); (refine (op_Elems.calls k 1 1 1 0 0 0 (⟨#[97,98]⟩ : ByteArray) _ _ ([] : List (SElem)) 0 0 0 t189 t192 _ ?side1 ?side2 A1.out).mono ?_); (case side1 => exact Kd.C_nil _ _); (case side2 => exact Nat.le_refl _); rintro e w56 ⟨v190,rfl,ho0,hb⟩; refine ⟨_,rfl, ?_⟩; have HO191:=Zz.k (Kd.R_lower ho0 (Qay (bw HB))); replace BK188:=Zz.k (Qax (bp11 (kk BK188)) hb); replace HB:=bs HB hb; clear hb; clear ho0; obtain ⟨_,_,_,_,_,_,_,_,_,_,_,_,_,_,_,_,_,_,_,_,_,_⟩:=kc11 BK188) | ((with_reducible refine Qac (f:=23) rfl ?_); refine gl (some 14) Try.func23 #[.agg #[.int .i64 1, .int .i64 1, .int .i64 1, .int .i64 0, .int .i64 0, .int .i64 0, .string (⟨#[97,98]⟩ : ByteArray), .slice none 0 0, .int .i64 0, .int .i64 0, .int .i64 0], .int .i64 1] (h := ?_); (refine (op_Own.calls k 1 1 1 0 0 0 (⟨#[97,98]⟩ : ByteArray) _ _ ([] : List (SElem)) 0 0 0 1 t193 t194 t195 t196 _ ?side1 ?side2 A2.out).mono ?_); (case side1 => exact Kd.C_nil _ _); (case side2 => exact Nat.le_refl _); rintro e w58 ⟨rfl,hb⟩; refine ⟨_,rfl, ?_⟩; replace HO191:=rb HO191 hb; replace BK188:=bl BK188 hb; replace HB:=bs HB hb; clear hb) | ((with_reducible refine Qad (N:=4) rfl ?_); (try (refine Qai (by rfl) ?_; dsimp only)); refine bx 4 #[.int .i64 0, .int .i64 0, .int .i64 0] 36 (h := ?_); intro gb197 hg w59 hbox hb; have BK197:=Zz.k (hbox); have GW197:=bz HB hg; have GE197:=bz HB hg; have NB188_197:=bn BK188 hg; have NB197_188:=bm BK188 hg; replace HO191:=Zz.k (Kd.R_below (Kd.R_elderB (rk HO191) gb197 (Nat.le_of_eq hg.symm)) hb); replace BK188:=bl BK188 hb; replace HB:=bs HB hb; clear hb hbox hg; have hnb60:=NB197_188.out; have hnc60:=NB188_197.out; obtain ⟨_,_,_,_,_,_⟩:=kc3 BK197; obtain ⟨_,_,_,_,_,_,_,_,_,_,_,_,_,_,_,_,_,_,_,_,_,_⟩:=kc11 BK188) | ((with_reducible refine Qac (f:=20) rfl ?_); refine gl (some 18) Try.func20 #[.agg #[.int .i64 1, .int .i64 1, .int .i64 1, .int .i64 0, .int .i64 0, .int .i64 0, .string (⟨#[97,98]⟩ : ByteArray), .slice none 0 0, .int .i64 0, .int .i64 0, .int .i64 0]] (h := ?_); (refine (op_Check.calls k 1 1 1 0 0 0 (⟨#[97,98]⟩ : ByteArray) _ _ ([] : List (SElem)) 0 0 0 t198 _ ?side1 ?side2 A3.out).mono ?_); (case side1 => exact Kd.C_nil _ _); (case side2 => exact Nat.le_refl _); rintro e w63 ⟨rfl,hb⟩; refine ⟨_,rfl, ?_⟩; replace HO191:=Zz.k (Kd.R_below (by (with_reducible repeat (first | apply Kd.R_alloc | apply Kd.R_drewN | apply Kd.R_drew)); exact (Kd.R_mono (Kd.R_far (p:=⟨gb197,2,none⟩) (Kd.R_far (p:=⟨gb197,1,none⟩) (Kd.R_far (p:=⟨gb197,0,none⟩) (Kd.R_mono HO191.out (fun k_ hk => (⟨hk,hk.2⟩ : _ /\ k_ ≠ gb197))) (fun _ hk => hk.2) (.int .i64 t193)) (fun _ hk => hk.2) (.int .i64 t194)) (fun _ hk => hk.2) (.int .i64 t195)) (fun _ h_ => h_.1))) hb); replace BK188:=bl BK188 hb; replace BK197:=Zz.k (Qax (g:=gb197) (o:=.cells #[.int .i64 t193, .int .i64 t194, .int .i64 t195] 36 (0,0)) (bp (bp (bp (kk BK197) 0) 1) 2) hb); replace HB:=bs HB hb; clear hb) | ((with_reducible refine Qac (f:=19) rfl ?_); refine gl (some 19) Try.func19 #[.int .i64 t198] (h := ?_); (with_reducible refine (w4_num.calls t198 t199 _ A4.out).mono ?_); rintro e w' ⟨rfl,⟨nd,rfl⟩⟩; refine ⟨_,rfl, ?_⟩))
  go_ret
  exact ⟨re,bw HB⟩
 rw [if_pos c5] at H
 obtain ⟨c5b0,c5b1⟩:=bT c5
 clear c5
 obtain ⟨t200,A6,H⟩:=bE H
 by_cases c7 : t200 = 0; rotate_left
 ·rw [if_neg c7] at H
  obtain ⟨c7b0,c7b1⟩:=bF c7
  obtain rfl:=Zo H
  go_enter Try.func25,Try.ntmps25
  go_wp2_with (first | ((with_reducible refine Qad (N:=1) rfl ?_); (try (refine Qai (by rfl) ?_; dsimp only)); refine bx 1 #[.int .i64 0, .int .i64 0, .int .i64 0, .int .i64 0, .int .i64 0, .int .i64 0, .string (⟨#[]⟩ : ByteArray), .slice none 0 0, .int .i64 0, .int .i64 0, .int .i64 0] 38 (h := ?_); intro gb188 hg w44 hbox hb; have BK188:=Zz.k (hbox); have GW188:=bz HB hg; have GE188:=bz HB hg; replace HB:=bs HB hb; clear hb hbox hg; obtain ⟨_,_,_,_,_,_,_,_,_,_,_,_,_,_,_,_,_,_,_,_,_,_⟩:=kc11 BK188) | ((with_reducible refine Qac (f:=21) rfl ?_); refine gl (some 9) Try.func21 #[.agg #[.int .i64 1, .int .i64 1, .int .i64 1, .int .i64 0, .int .i64 0, .int .i64 0, .string (⟨#[97,98]⟩ : ByteArray), .slice none 0 0, .int .i64 0, .int .i64 0, .int .i64 0]] (h := ?_); (refine (op_Elems.calls k 1 1 1 0 0 0 (⟨#[97,98]⟩ : ByteArray) _ _ ([] : List (SElem)) 0 0 0 t189 t192 _ ?side1 ?side2 A1.out).mono ?_); (case side1 => exact Kd.C_nil _ _); (case side2 => exact Nat.le_refl _); rintro e w46 ⟨v190,rfl,ho0,hb⟩; refine ⟨_,rfl, ?_⟩; have HO191:=Zz.k (Kd.R_lower ho0 (Qay (bw HB))); replace BK188:=Zz.k (Qax (bp11 (kk BK188)) hb); replace HB:=bs HB hb; clear hb; clear ho0; obtain ⟨_,_,_,_,_,_,_,_,_,_,_,_,_,_,_,_,_,_,_,_,_,_⟩:=kc11 BK188) | ((with_reducible refine Qac (f:=23) rfl ?_); refine gl (some 14) Try.func23 #[.agg #[.int .i64 1, .int .i64 1, .int .i64 1, .int .i64 0, .int .i64 0, .int .i64 0, .string (⟨#[97,98]⟩ : ByteArray), .slice none 0 0, .int .i64 0, .int .i64 0, .int .i64 0], .int .i64 1] (h := ?_); (refine (op_Own.calls k 1 1 1 0 0 0 (⟨#[97,98]⟩ : ByteArray) _ _ ([] : List (SElem)) 0 0 0 1 t193 t194 t195 t196 _ ?side1 ?side2 A2.out).mono ?_); (case side1 => exact Kd.C_nil _ _); (case side2 => exact Nat.le_refl _); rintro e w48 ⟨rfl,hb⟩; refine ⟨_,rfl, ?_⟩; replace HO191:=rb HO191 hb; replace BK188:=bl BK188 hb; replace HB:=bs HB hb; clear hb) | ((with_reducible refine Qad (N:=4) rfl ?_); (try (refine Qai (by rfl) ?_; dsimp only)); refine bx 4 #[.int .i64 0, .int .i64 0, .int .i64 0] 36 (h := ?_); intro gb197 hg w49 hbox hb; have BK197:=Zz.k (hbox); have GW197:=bz HB hg; have GE197:=bz HB hg; have NB188_197:=bn BK188 hg; have NB197_188:=bm BK188 hg; replace HO191:=Zz.k (Kd.R_below (Kd.R_elderB (rk HO191) gb197 (Nat.le_of_eq hg.symm)) hb); replace BK188:=bl BK188 hb; replace HB:=bs HB hb; clear hb hbox hg; have hnb50:=NB197_188.out; have hnc50:=NB188_197.out; obtain ⟨_,_,_,_,_,_⟩:=kc3 BK197; obtain ⟨_,_,_,_,_,_,_,_,_,_,_,_,_,_,_,_,_,_,_,_,_,_⟩:=kc11 BK188) | ((with_reducible refine Qac (f:=20) rfl ?_); refine gl (some 18) Try.func20 #[.agg #[.int .i64 1, .int .i64 1, .int .i64 1, .int .i64 0, .int .i64 0, .int .i64 0, .string (⟨#[97,98]⟩ : ByteArray), .slice none 0 0, .int .i64 0, .int .i64 0, .int .i64 0]] (h := ?_); (refine (op_Check.calls k 1 1 1 0 0 0 (⟨#[97,98]⟩ : ByteArray) _ _ ([] : List (SElem)) 0 0 0 t198 _ ?side1 ?side2 A3.out).mono ?_); (case side1 => exact Kd.C_nil _ _); (case side2 => exact Nat.le_refl _); rintro e w53 ⟨rfl,hb⟩; refine ⟨_,rfl, ?_⟩; replace HO191:=Zz.k (Kd.R_below (by (with_reducible repeat (first | apply Kd.R_alloc | apply Kd.R_drewN | apply Kd.R_drew)); exact (Kd.R_mono (Kd.R_far (p:=⟨gb197,2,none⟩) (Kd.R_far (p:=⟨gb197,1,none⟩) (Kd.R_far (p:=⟨gb197,0,none⟩) (Kd.R_mono HO191.out (fun k_ hk => (⟨hk,hk.2⟩ : _ /\ k_ ≠ gb197))) (fun _ hk => hk.2) (.int .i64 t193)) (fun _ hk => hk.2) (.int .i64 t194)) (fun _ hk => hk.2) (.int .i64 t195)) (fun _ h_ => h_.1))) hb); replace BK188:=bl BK188 hb; replace BK197:=Zz.k (Qax (g:=gb197) (o:=.cells #[.int .i64 t193, .int .i64 t194, .int .i64 t195] 36 (0,0)) (bp (bp (bp (kk BK197) 0) 1) 2) hb); replace HB:=bs HB hb; clear hb) | ((with_reducible refine Qac (f:=19) rfl ?_); refine gl (some 19) Try.func19 #[.int .i64 t198] (h := ?_); (with_reducible refine (w4_num.calls t198 t199 _ A4.out).mono ?_); rintro e w' ⟨rfl,⟨nd,rfl⟩⟩; refine ⟨_,rfl, ?_⟩) | (go_at_call 19; (with_reducible refine (w4_num.calls t192 t200 _ A6.out).mono ?_); rintro e w' ⟨rfl,⟨nd,rfl⟩⟩))
  go_ret
  exact ⟨re,bw HB⟩
 rw [if_pos c7] at H
 obtain ⟨c7b0,c7b1⟩:=bT c7
 clear c7
 obtain ⟨t201,A8,H⟩:=bE H
 by_cases c9 : t201 = 0; rotate_left
 ·rw [if_neg c9] at H
  obtain ⟨c9b0,c9b1⟩:=bF c9
  obtain rfl:=Zo H
  go_enter Try.func25,Try.ntmps25
  go_wp2_with (first | ((with_reducible refine Qad (N:=1) rfl ?_); (try (refine Qai (by rfl) ?_; dsimp only)); refine bx 1 #[.int .i64 0, .int .i64 0, .int .i64 0, .int .i64 0, .int .i64 0, .int .i64 0, .string (⟨#[]⟩ : ByteArray), .slice none 0 0, .int .i64 0, .int .i64 0, .int .i64 0] 38 (h := ?_); intro gb188 hg w34 hbox hb; have BK188:=Zz.k (hbox); have GW188:=bz HB hg; have GE188:=bz HB hg; replace HB:=bs HB hb; clear hb hbox hg; obtain ⟨_,_,_,_,_,_,_,_,_,_,_,_,_,_,_,_,_,_,_,_,_,_⟩:=kc11 BK188) | ((with_reducible refine Qac (f:=21) rfl ?_); refine gl (some 9) Try.func21 #[.agg #[.int .i64 1, .int .i64 1, .int .i64 1, .int .i64 0, .int .i64 0, .int .i64 0, .string (⟨#[97,98]⟩ : ByteArray), .slice none 0 0, .int .i64 0, .int .i64 0, .int .i64 0]] (h := ?_); (refine (op_Elems.calls k 1 1 1 0 0 0 (⟨#[97,98]⟩ : ByteArray) _ _ ([] : List (SElem)) 0 0 0 t189 t192 _ ?side1 ?side2 A1.out).mono ?_); (case side1 => exact Kd.C_nil _ _); (case side2 => exact Nat.le_refl _); rintro e w36 ⟨v190,rfl,ho0,hb⟩; refine ⟨_,rfl, ?_⟩; have HO191:=Zz.k (Kd.R_lower ho0 (Qay (bw HB))); replace BK188:=Zz.k (Qax (bp11 (kk BK188)) hb); replace HB:=bs HB hb; clear hb; clear ho0; obtain ⟨_,_,_,_,_,_,_,_,_,_,_,_,_,_,_,_,_,_,_,_,_,_⟩:=kc11 BK188) | ((with_reducible refine Qac (f:=23) rfl ?_); refine gl (some 14) Try.func23 #[.agg #[.int .i64 1, .int .i64 1, .int .i64 1, .int .i64 0, .int .i64 0, .int .i64 0, .string (⟨#[97,98]⟩ : ByteArray), .slice none 0 0, .int .i64 0, .int .i64 0, .int .i64 0], .int .i64 1] (h := ?_); (refine (op_Own.calls k 1 1 1 0 0 0 (⟨#[97,98]⟩ : ByteArray) _ _ ([] : List (SElem)) 0 0 0 1 t193 t194 t195 t196 _ ?side1 ?side2 A2.out).mono ?_); (case side1 => exact Kd.C_nil _ _); (case side2 => exact Nat.le_refl _); rintro e w38 ⟨rfl,hb⟩; refine ⟨_,rfl, ?_⟩; replace HO191:=rb HO191 hb; replace BK188:=bl BK188 hb; replace HB:=bs HB hb; clear hb) | ((with_reducible refine Qad (N:=4) rfl ?_); (try (refine Qai (by rfl) ?_; dsimp only)); refine bx 4 #[.int .i64 0, .int .i64 0, .int .i64 0] 36 (h := ?_); intro gb197 hg w39 hbox hb; have BK197:=Zz.k (hbox); have GW197:=bz HB hg; have GE197:=bz HB hg; have NB188_197:=bn BK188 hg; have NB197_188:=bm BK188 hg; replace HO191:=Zz.k (Kd.R_below (Kd.R_elderB (rk HO191) gb197 (Nat.le_of_eq hg.symm)) hb); replace BK188:=bl BK188 hb; replace HB:=bs HB hb; clear hb hbox hg; have hnb40:=NB197_188.out; have hnc40:=NB188_197.out; obtain ⟨_,_,_,_,_,_⟩:=kc3 BK197; obtain ⟨_,_,_,_,_,_,_,_,_,_,_,_,_,_,_,_,_,_,_,_,_,_⟩:=kc11 BK188) | ((with_reducible refine Qac (f:=20) rfl ?_); refine gl (some 18) Try.func20 #[.agg #[.int .i64 1, .int .i64 1, .int .i64 1, .int .i64 0, .int .i64 0, .int .i64 0, .string (⟨#[97,98]⟩ : ByteArray), .slice none 0 0, .int .i64 0, .int .i64 0, .int .i64 0]] (h := ?_); (refine (op_Check.calls k 1 1 1 0 0 0 (⟨#[97,98]⟩ : ByteArray) _ _ ([] : List (SElem)) 0 0 0 t198 _ ?side1 ?side2 A3.out).mono ?_); (case side1 => exact Kd.C_nil _ _); (case side2 => exact Nat.le_refl _); rintro e w43 ⟨rfl,hb⟩; refine ⟨_,rfl, ?_⟩; replace HO191:=Zz.k (Kd.R_below (by (with_reducible repeat (first | apply Kd.R_alloc | apply Kd.R_drewN | apply Kd.R_drew)); exact (Kd.R_mono (Kd.R_far (p:=⟨gb197,2,none⟩) (Kd.R_far (p:=⟨gb197,1,none⟩) (Kd.R_far (p:=⟨gb197,0,none⟩) (Kd.R_mono HO191.out (fun k_ hk => (⟨hk,hk.2⟩ : _ /\ k_ ≠ gb197))) (fun _ hk => hk.2) (.int .i64 t193)) (fun _ hk => hk.2) (.int .i64 t194)) (fun _ hk => hk.2) (.int .i64 t195)) (fun _ h_ => h_.1))) hb); replace BK188:=bl BK188 hb; replace BK197:=Zz.k (Qax (g:=gb197) (o:=.cells #[.int .i64 t193, .int .i64 t194, .int .i64 t195] 36 (0,0)) (bp (bp (bp (kk BK197) 0) 1) 2) hb); replace HB:=bs HB hb; clear hb) | ((with_reducible refine Qac (f:=19) rfl ?_); refine gl (some 19) Try.func19 #[.int .i64 t198] (h := ?_); (with_reducible refine (w4_num.calls t198 t199 _ A4.out).mono ?_); rintro e w' ⟨rfl,⟨nd,rfl⟩⟩; refine ⟨_,rfl, ?_⟩) | (go_at_call 19; (with_reducible refine (w4_num.calls t192 t200 _ A6.out).mono ?_); rintro e w' ⟨rfl,⟨nd,rfl⟩⟩) | (go_at_call 19; (with_reducible refine (w4_num.calls t196 t201 _ A8.out).mono ?_); rintro e w' ⟨rfl,⟨nd,rfl⟩⟩))
  go_ret
  exact ⟨re,bw HB⟩
 rw [if_pos c9] at H
 obtain ⟨c9b0,c9b1⟩:=bT c9
 clear c9
 by_cases c10 : (t189.length : Int) = 2
 ·rw [if_pos c10] at H
  obtain ⟨c10b0,c10b1⟩:=bT c10
  clear c10
  obtain rfl:=Zo H
  go_enter Try.func25,Try.ntmps25
  go_wp2_with (first | ((with_reducible refine Qad (N:=1) rfl ?_); (try (refine Qai (by rfl) ?_; dsimp only)); refine bx 1 #[.int .i64 0, .int .i64 0, .int .i64 0, .int .i64 0, .int .i64 0, .int .i64 0, .string (⟨#[]⟩ : ByteArray), .slice none 0 0, .int .i64 0, .int .i64 0, .int .i64 0] 38 (h := ?_); intro gb188 hg w11 hbox hb; have BK188:=Zz.k (hbox); have GW188:=bz HB hg; have GE188:=bz HB hg; replace HB:=bs HB hb; clear hb hbox hg; obtain ⟨_,_,_,_,_,_,_,_,_,_,_,_,_,_,_,_,_,_,_,_,_,_⟩:=kc11 BK188) | ((with_reducible refine Qac (f:=21) rfl ?_); refine gl (some 9) Try.func21 #[.agg #[.int .i64 1, .int .i64 1, .int .i64 1, .int .i64 0, .int .i64 0, .int .i64 0, .string (⟨#[97,98]⟩ : ByteArray), .slice none 0 0, .int .i64 0, .int .i64 0, .int .i64 0]] (h := ?_); (refine (op_Elems.calls k 1 1 1 0 0 0 (⟨#[97,98]⟩ : ByteArray) _ _ ([] : List (SElem)) 0 0 0 t189 t192 _ ?side1 ?side2 A1.out).mono ?_); (case side1 => exact Kd.C_nil _ _); (case side2 => exact Nat.le_refl _); rintro e w13 ⟨v190,rfl,ho0,hb⟩; refine ⟨_,rfl, ?_⟩; have HO191:=Zz.k (Kd.R_lower ho0 (Qay (bw HB))); replace BK188:=Zz.k (Qax (bp11 (kk BK188)) hb); replace HB:=bs HB hb; clear hb; clear ho0; obtain ⟨_,_,_,_,_,_,_,_,_,_,_,_,_,_,_,_,_,_,_,_,_,_⟩:=kc11 BK188) | ((with_reducible refine Qac (f:=23) rfl ?_); refine gl (some 14) Try.func23 #[.agg #[.int .i64 1, .int .i64 1, .int .i64 1, .int .i64 0, .int .i64 0, .int .i64 0, .string (⟨#[97,98]⟩ : ByteArray), .slice none 0 0, .int .i64 0, .int .i64 0, .int .i64 0], .int .i64 1] (h := ?_); (refine (op_Own.calls k 1 1 1 0 0 0 (⟨#[97,98]⟩ : ByteArray) _ _ ([] : List (SElem)) 0 0 0 1 t193 t194 t195 t196 _ ?side1 ?side2 A2.out).mono ?_); (case side1 => exact Kd.C_nil _ _); (case side2 => exact Nat.le_refl _); rintro e w15 ⟨rfl,hb⟩; refine ⟨_,rfl, ?_⟩; replace HO191:=rb HO191 hb; replace BK188:=bl BK188 hb; replace HB:=bs HB hb; clear hb) | ((with_reducible refine Qad (N:=4) rfl ?_); (try (refine Qai (by rfl) ?_; dsimp only)); refine bx 4 #[.int .i64 0, .int .i64 0, .int .i64 0] 36 (h := ?_); intro gb197 hg w16 hbox hb; have BK197:=Zz.k (hbox); have GW197:=bz HB hg; have GE197:=bz HB hg; have NB188_197:=bn BK188 hg; have NB197_188:=bm BK188 hg; replace HO191:=Zz.k (Kd.R_below (Kd.R_elderB (rk HO191) gb197 (Nat.le_of_eq hg.symm)) hb); replace BK188:=bl BK188 hb; replace HB:=bs HB hb; clear hb hbox hg; have hnb17:=NB197_188.out; have hnc17:=NB188_197.out; obtain ⟨_,_,_,_,_,_⟩:=kc3 BK197; obtain ⟨_,_,_,_,_,_,_,_,_,_,_,_,_,_,_,_,_,_,_,_,_,_⟩:=kc11 BK188) | ((with_reducible refine Qac (f:=20) rfl ?_); refine gl (some 18) Try.func20 #[.agg #[.int .i64 1, .int .i64 1, .int .i64 1, .int .i64 0, .int .i64 0, .int .i64 0, .string (⟨#[97,98]⟩ : ByteArray), .slice none 0 0, .int .i64 0, .int .i64 0, .int .i64 0]] (h := ?_); (refine (op_Check.calls k 1 1 1 0 0 0 (⟨#[97,98]⟩ : ByteArray) _ _ ([] : List (SElem)) 0 0 0 t198 _ ?side1 ?side2 A3.out).mono ?_); (case side1 => exact Kd.C_nil _ _); (case side2 => exact Nat.le_refl _); rintro e w20 ⟨rfl,hb⟩; refine ⟨_,rfl, ?_⟩; replace HO191:=Zz.k (Kd.R_below (by (with_reducible repeat (first | apply Kd.R_alloc | apply Kd.R_drewN | apply Kd.R_drew)); exact (Kd.R_mono (Kd.R_far (p:=⟨gb197,2,none⟩) (Kd.R_far (p:=⟨gb197,1,none⟩) (Kd.R_far (p:=⟨gb197,0,none⟩) (Kd.R_mono HO191.out (fun k_ hk => (⟨hk,hk.2⟩ : _ /\ k_ ≠ gb197))) (fun _ hk => hk.2) (.int .i64 t193)) (fun _ hk => hk.2) (.int .i64 t194)) (fun _ hk => hk.2) (.int .i64 t195)) (fun _ h_ => h_.1))) hb); replace BK188:=bl BK188 hb; replace BK197:=Zz.k (Qax (g:=gb197) (o:=.cells #[.int .i64 t193, .int .i64 t194, .int .i64 t195] 36 (0,0)) (bp (bp (bp (kk BK197) 0) 1) 2) hb); replace HB:=bs HB hb; clear hb) | ((with_reducible refine Qac (f:=19) rfl ?_); refine gl (some 19) Try.func19 #[.int .i64 t198] (h := ?_); (with_reducible refine (w4_num.calls t198 t199 _ A4.out).mono ?_); rintro e w' ⟨rfl,⟨nd,rfl⟩⟩; refine ⟨_,rfl, ?_⟩) | (go_at_call 19; (with_reducible refine (w4_num.calls t192 t200 _ A6.out).mono ?_); rintro e w' ⟨rfl,⟨nd,rfl⟩⟩) | (go_at_call 19; (with_reducible refine (w4_num.calls t196 t201 _ A8.out).mono ?_); rintro e w' ⟨rfl,⟨nd,rfl⟩⟩; obtain ⟨Ao21,co21,eo21⟩:=Kd.R_slice HO191.out; subst eo21; obtain ⟨_,_,_,_,_,_⟩:=kc3 BK197))
  go_ret
  exact ⟨re,bw HB⟩
 rw [if_neg c10] at H
 obtain ⟨c10b0,c10b1⟩:=bF c10
 obtain rfl:=Zo H
 go_enter Try.func25,Try.ntmps25
 go_wp2_with (first | ((with_reducible refine Qad (N:=1) rfl ?_); (try (refine Qai (by rfl) ?_; dsimp only)); refine bx 1 #[.int .i64 0, .int .i64 0, .int .i64 0, .int .i64 0, .int .i64 0, .int .i64 0, .string (⟨#[]⟩ : ByteArray), .slice none 0 0, .int .i64 0, .int .i64 0, .int .i64 0] 38 (h := ?_); intro gb188 hg w23 hbox hb; have BK188:=Zz.k (hbox); have GW188:=bz HB hg; have GE188:=bz HB hg; replace HB:=bs HB hb; clear hb hbox hg; obtain ⟨_,_,_,_,_,_,_,_,_,_,_,_,_,_,_,_,_,_,_,_,_,_⟩:=kc11 BK188) | ((with_reducible refine Qac (f:=21) rfl ?_); refine gl (some 9) Try.func21 #[.agg #[.int .i64 1, .int .i64 1, .int .i64 1, .int .i64 0, .int .i64 0, .int .i64 0, .string (⟨#[97,98]⟩ : ByteArray), .slice none 0 0, .int .i64 0, .int .i64 0, .int .i64 0]] (h := ?_); (refine (op_Elems.calls k 1 1 1 0 0 0 (⟨#[97,98]⟩ : ByteArray) _ _ ([] : List (SElem)) 0 0 0 t189 t192 _ ?side1 ?side2 A1.out).mono ?_); (case side1 => exact Kd.C_nil _ _); (case side2 => exact Nat.le_refl _); rintro e w25 ⟨v190,rfl,ho0,hb⟩; refine ⟨_,rfl, ?_⟩; have HO191:=Zz.k (Kd.R_lower ho0 (Qay (bw HB))); replace BK188:=Zz.k (Qax (bp11 (kk BK188)) hb); replace HB:=bs HB hb; clear hb; clear ho0; obtain ⟨_,_,_,_,_,_,_,_,_,_,_,_,_,_,_,_,_,_,_,_,_,_⟩:=kc11 BK188) | ((with_reducible refine Qac (f:=23) rfl ?_); refine gl (some 14) Try.func23 #[.agg #[.int .i64 1, .int .i64 1, .int .i64 1, .int .i64 0, .int .i64 0, .int .i64 0, .string (⟨#[97,98]⟩ : ByteArray), .slice none 0 0, .int .i64 0, .int .i64 0, .int .i64 0], .int .i64 1] (h := ?_); (refine (op_Own.calls k 1 1 1 0 0 0 (⟨#[97,98]⟩ : ByteArray) _ _ ([] : List (SElem)) 0 0 0 1 t193 t194 t195 t196 _ ?side1 ?side2 A2.out).mono ?_); (case side1 => exact Kd.C_nil _ _); (case side2 => exact Nat.le_refl _); rintro e w27 ⟨rfl,hb⟩; refine ⟨_,rfl, ?_⟩; replace HO191:=rb HO191 hb; replace BK188:=bl BK188 hb; replace HB:=bs HB hb; clear hb) | ((with_reducible refine Qad (N:=4) rfl ?_); (try (refine Qai (by rfl) ?_; dsimp only)); refine bx 4 #[.int .i64 0, .int .i64 0, .int .i64 0] 36 (h := ?_); intro gb197 hg w28 hbox hb; have BK197:=Zz.k (hbox); have GW197:=bz HB hg; have GE197:=bz HB hg; have NB188_197:=bn BK188 hg; have NB197_188:=bm BK188 hg; replace HO191:=Zz.k (Kd.R_below (Kd.R_elderB (rk HO191) gb197 (Nat.le_of_eq hg.symm)) hb); replace BK188:=bl BK188 hb; replace HB:=bs HB hb; clear hb hbox hg; have hnb29:=NB197_188.out; have hnc29:=NB188_197.out; obtain ⟨_,_,_,_,_,_⟩:=kc3 BK197; obtain ⟨_,_,_,_,_,_,_,_,_,_,_,_,_,_,_,_,_,_,_,_,_,_⟩:=kc11 BK188) | ((with_reducible refine Qac (f:=20) rfl ?_); refine gl (some 18) Try.func20 #[.agg #[.int .i64 1, .int .i64 1, .int .i64 1, .int .i64 0, .int .i64 0, .int .i64 0, .string (⟨#[97,98]⟩ : ByteArray), .slice none 0 0, .int .i64 0, .int .i64 0, .int .i64 0]] (h := ?_); (refine (op_Check.calls k 1 1 1 0 0 0 (⟨#[97,98]⟩ : ByteArray) _ _ ([] : List (SElem)) 0 0 0 t198 _ ?side1 ?side2 A3.out).mono ?_); (case side1 => exact Kd.C_nil _ _); (case side2 => exact Nat.le_refl _); rintro e w32 ⟨rfl,hb⟩; refine ⟨_,rfl, ?_⟩; replace HO191:=Zz.k (Kd.R_below (by (with_reducible repeat (first | apply Kd.R_alloc | apply Kd.R_drewN | apply Kd.R_drew)); exact (Kd.R_mono (Kd.R_far (p:=⟨gb197,2,none⟩) (Kd.R_far (p:=⟨gb197,1,none⟩) (Kd.R_far (p:=⟨gb197,0,none⟩) (Kd.R_mono HO191.out (fun k_ hk => (⟨hk,hk.2⟩ : _ /\ k_ ≠ gb197))) (fun _ hk => hk.2) (.int .i64 t193)) (fun _ hk => hk.2) (.int .i64 t194)) (fun _ hk => hk.2) (.int .i64 t195)) (fun _ h_ => h_.1))) hb); replace BK188:=bl BK188 hb; replace BK197:=Zz.k (Qax (g:=gb197) (o:=.cells #[.int .i64 t193, .int .i64 t194, .int .i64 t195] 36 (0,0)) (bp (bp (bp (kk BK197) 0) 1) 2) hb); replace HB:=bs HB hb; clear hb) | ((with_reducible refine Qac (f:=19) rfl ?_); refine gl (some 19) Try.func19 #[.int .i64 t198] (h := ?_); (with_reducible refine (w4_num.calls t198 t199 _ A4.out).mono ?_); rintro e w' ⟨rfl,⟨nd,rfl⟩⟩; refine ⟨_,rfl, ?_⟩) | (go_at_call 19; (with_reducible refine (w4_num.calls t192 t200 _ A6.out).mono ?_); rintro e w' ⟨rfl,⟨nd,rfl⟩⟩) | (go_at_call 19; (with_reducible refine (w4_num.calls t196 t201 _ A8.out).mono ?_); rintro e w' ⟨rfl,⟨nd,rfl⟩⟩; obtain ⟨Ao33,co33,eo33⟩:=Kd.R_slice HO191.out; subst eo33))
 go_ret
 exact ⟨re,bw HB⟩
end
section
structure GoodAsk4 (l0 : List SOp) (l1 : List SElem) (l2 : List Int) : Prop where
 n0 : l0.length <= 140737488351232
 r0 : ∀ o ∈ l0,o.f4.size <= 140737488351232 /\ o.f5.length <= 140737488351232
 n1 : l1.length <= 140737488351232
 n2 : l2.length <= 140737488351232
theorem wrap4 {i n : Nat} (h : i < n) (hn : n <= 4611686018427387904) : wrap64 ((i : Int) + 1) = ((i + 1 : Nat) : Int):=by
 rw [Qak (by omega) (by omega)]; omega
theorem wrap4p {i : Nat} (h : 0 < i) (hn : i <= 4611686018427387904) : wrap64 ((i : Int) - 1) = ((i - 1 : Nat) : Int):=by
 rw [Qak (by omega) (by omega)]; omega
theorem rd4_Op (l : List SOp) (i : Nat) (h : i < l.length) : Qab l (i : Int) = l[i]:=by unfold Qab; simp [h]
def tiny4 (o : SOp) : Prop:=o.f4.size <= 4000 /\ o.f5.length <= 1000
theorem Weight4 (l : List SOp) (hl : l.length <= 140737488351232) (hs : ∀ o ∈ l,o.f4.size <= 140737488351232 /\ o.f5.length <= 140737488351232) : ∀ d i (t : Int),i + d = l.length -> 0 <= t -> t <= 200000000000000 ->
  ∃ r,Ev (fun k => w0_OpsWeight.l0 k l t (i : Int)) r /\ t <= r /\ r <= 400000000000000 /\ (r <= 900 -> ∀ j (hj : j < l.length),i <= j -> tiny4 l[j])
 | 0,i,t,h,h0,h1 => ⟨t,Ev.step (f:=fun _ => some t) (fun k => by simp only [w0_OpsWeight.l0]; rw [if_neg (by omega)]) (Ev.now _),Int.le_refl _,by omega,fun _ j hj hij => by omega⟩
 | d + 1,i,t,h,h0,h1 => by
  by_cases ht : t < 1048576
  ·have hlt : i < l.length:=by omega
   have hb:=hs _ (List.getElem_mem hlt)
   have hw : wrap64 (t + (wrap64 ((wrap64 (2 + (wrap64 ((l[i].f4.size : Int) / 4)))) + (l[i].f5.length : Int)))) = t + (2 + (l[i].f4.size : Int) / 4 + (l[i].f5.length : Int)):=by
    rw [Qak (i:=(l[i].f4.size : Int) / 4) (by omega) (by omega),Qak (i:=2 + (l[i].f4.size : Int) / 4) (by omega) (by omega),Qak (i:=2 + (l[i].f4.size : Int) / 4 + (l[i].f5.length : Int)) (by omega) (by omega),Qak (by omega) (by omega)]
   obtain ⟨r,hr,r1,r2,r3⟩:=Weight4 l hl hs d (i + 1) (t + (2 + (l[i].f4.size : Int) / 4 + (l[i].f5.length : Int))) (by omega) (by omega) (by omega)
   rw [<- hw] at hr
   refine ⟨r,Ev.step (fun k => ?_) hr,by omega,r2,fun h9 j hj hij => ?_⟩
   ·simp only [w0_OpsWeight.l0]
    rw [if_pos (by omega),if_pos ht,if_pos (by omega),wrap4 hlt (by omega),rd4_Op _ _ hlt]
    rfl
   ·rcases Nat.lt_or_ge i j with hj2 | hj2
    ·exact r3 h9 j hj hj2
    ·obtain rfl : j = i:=by omega
     exact ⟨by omega,by omega⟩
  ·exact ⟨t,Ev.step (f:=fun _ => some t) (fun k => by simp only [w0_OpsWeight.l0]; rw [if_pos (by omega),if_neg ht]) (Ev.now _),Int.le_refl _,by omega,fun h9 => by omega⟩
theorem Heavy4 {l0 : List SOp} {l1 : List SElem} {l2 : List Int} (hg : GoodAsk4 l0 l1 l2) : ∃ b,Ev (fun k => w4_Heavy.f k l0 l1 l2) b /\ (b = false -> l0.length <= 900 /\ (∀ o ∈ l0,tiny4 o) /\ l1.length <= 900 /\ l2.length <= 900):=by
 have n0:=hg.n0
 have n1:=hg.n1
 have n2:=hg.n2
 obtain ⟨q,hq,q1,q2,q3⟩:=Weight4 l0 hg.n0 hg.r0 _ 0 (l0.length : Int) (Nat.zero_add _) (by omega) (by omega)
 have hw : wrap64 ((wrap64 (q + (l1.length : Int))) + (l2.length : Int)) = q + (l1.length : Int) + (l2.length : Int):=by
  rw [Qak (i:=q + (l1.length : Int)) (by omega) (by omega),Qak (by omega) (by omega)]
 refine ⟨_,Ev.bind (f:=fun _ q => some (decide ((wrap64 ((wrap64 (q + (l1.length : Int))) + (l2.length : Int))) > 900))) hq (Ev.now _),fun h => ?_⟩
 rw [hw] at h
 have:=of_decide_eq_false h
 refine ⟨by omega,fun o ho => ?_,by omega,by omega⟩
 obtain ⟨z,hz,rfl⟩:=List.getElem_of_mem ho
 exact q3 (by omega) z hz (Nat.zero_le _)
def Qbc (o : SOp) : List SElem:=(List.range (Qas o)).map fun j : Nat => (⟨o.f0,o.f1,(j : Int)⟩ : SElem)
theorem chain4_len (o : SOp) : (Qbc o).length = Qas o:=by unfold Qbc; simp
theorem chain4_at (o : SOp) {j : Nat} (h : j < Qas o) : Qaa (Qbc o) (j : Int) = ⟨o.f0,o.f1,(j : Int)⟩:=by
 rw [Qaj _ _ (by rw [chain4_len]; exact h)]; unfold Qbc; simp
theorem All4_loop (o : SOp) (hs : Qas o <= 1000000) : ∀ d i,i + d = Qas o -> Ev (fun k => op_All.l0 k ((List.range i).map fun j : Nat => (⟨o.f0,o.f1,(j : Int)⟩ : SElem)) (Qas o : Int) (i : Int) o.f0 o.f1 o.f2 o.f3.f0 o.f3.f1 o.f3.f2 o.f4 o.f5 o.f6 o.f7 o.f8) (Qbc o)
 | 0,i,hi => by
  obtain rfl : i = Qas o:=by omega
  refine Ev.step (f:=fun _ => some (Qbc o)) (fun k => ?_) (Ev.now _)
  simp only [op_All.l0]
  rw [if_neg (by omega)]
  rfl
 | d + 1,i,hi => by
  have ih:=All4_loop o hs d (i + 1) (by omega)
  rw [List.range_succ,List.map_append] at ih
  refine Ev.step (fun k => ?_) ih
  simp only [op_All.l0]
  unfold op_At.f
  rw [if_pos (by omega),Option.bind_some,if_pos (by simp; omega),wrap4 (show i < Qas o by omega) (by omega)]
  rfl
theorem runesOf_nil4 (s : ByteArray) : (runesOf s).length = 0 ↔ s.toList.isEmpty = true:=by
 have e : s.toList.isEmpty = true ↔ s.size = 0:=by
  rw [ByteArray.toList_eq,<- data_length,List.isEmpty_iff,List.length_eq_zero_iff]
 rw [e]
 unfold runesOf
 constructor
 ·intro h
  cases hs : s.size with
  | zero => rfl
  | succ n => rw [hs] at h; unfold decFrom at h; rw [if_pos (by omega)] at h; simp at h
 ·intro h; rw [h]; rfl
theorem size4 {o : SOp} (h : opOk o = true) : Qas o <= 12:=by
 unfold opOk at h
 simp only [Bool.and_eq_true] at h
 obtain ⟨hn,h⟩:=h
 by_cases h1 : o.f2 = 1
 ·rw [if_pos h1] at h
  unfold editOk at h
  simp only [Bool.and_eq_true,decide_eq_true_eq] at h
  exact h.1.1.1.1.2
 ·rw [if_neg h1] at h
  simp only [Bool.and_eq_true] at h
  have h3:=h.2
  unfold toggleOk at h3
  simp only [Bool.and_eq_true] at h3
  have h4:=h3.1.2
  have:=(runesOf_nil4 o.f4).2 h4
  unfold Qas; omega
theorem Elems4 (o : SOp) (hs : Sm o) : Ev (fun k => op_Elems.f k o.f0 o.f1 o.f2 o.f3.f0 o.f3.f1 o.f3.f2 o.f4 o.f5 o.f6 o.f7 o.f8) (if opOk o = true then (Qbc o,0) else ([],1)):=by
 refine Ev.bind (f:=fun k t163 => if t163 = true then ((op_All.f k o.f0 o.f1 o.f2 o.f3.f0 o.f3.f1 o.f3.f2 o.f4 o.f5 o.f6 o.f7 o.f8).bind fun t164 => (some (t164,0))) else (some (([] : List (SElem)),1))) (op_May_f o hs) ?_
 cases h : opOk o
 ·exact Ev.now _
 ·simp only [if_true]
  refine Ev.bind (f:=fun _ t164 => some (t164,0)) (a:=Qbc o) ?_ (Ev.now _)
  refine Ev.congr (fun k => ?_) (All4_loop o (by have:=size4 h; omega) (Qas o) 0 (Nat.zero_add _))
  unfold op_All.f
  rw [op_Size_f o hs,Option.bind_some]
  rfl
theorem Check4 (o : SOp) (hs : Sm o) : Ev (fun k => op_Check.f k o.f0 o.f1 o.f2 o.f3.f0 o.f3.f1 o.f3.f2 o.f4 o.f5 o.f6 o.f7 o.f8) (if opOk o = true then 0 else 1):=by
 refine Ev.bind (f:=fun _ t153 => if t153 = true then (some 0) else (some 1)) (op_May_f o hs) ?_
 cases h : opOk o
 ·exact Ev.now _
 ·exact Ev.now _
theorem Own4 (o : SOp) (hs : Sm o) (n : Int) : Ev (fun k => op_Own.f k o.f0 o.f1 o.f2 o.f3.f0 o.f3.f1 o.f3.f2 o.f4 o.f5 o.f6 o.f7 o.f8 n) (if opOk o = true then (if 0 <= n /\ n < (Qas o : Int) then (o.f0,o.f1,n,0) else (0,0,0,2)) else (0,0,0,1)):=by
 refine Ev.bind (f:=fun _ t183 => if t183 = true then (if n < 0 then (some (0,0,0,2)) else ((op_Size.f o.f0 o.f1 o.f2 o.f3.f0 o.f3.f1 o.f3.f2 o.f4 o.f5 o.f6 o.f7 o.f8).bind fun t184 => (if n >= t184 then (some (0,0,0,2)) else ((op_At.f o.f0 o.f1 o.f2 o.f3.f0 o.f3.f1 o.f3.f2 o.f4 o.f5 o.f6 o.f7 o.f8 n).bind fun bt185 => (some (bt185.1,bt185.2.1,bt185.2.2,0)))))) else (some (0,0,0,1))) (op_May_f o hs) ?_
 cases h : opOk o
 ·exact Ev.now _
 ·refine Ev.congr (fun k => ?_) (Ev.now _)
  simp only [if_true]
  rw [op_Size_f o hs,Option.bind_some]
  by_cases h0 : n < 0
  ·rw [if_pos h0,if_neg (by omega)]
  ·rw [if_neg h0]
   by_cases h1 : n >= (Qas o : Int)
   ·rw [if_pos h1,if_neg (by omega)]
   ·rw [if_neg h1,if_pos (by omega)]; rfl
theorem needs4 (o : SOp) (hs : o.f4.size < 9223372036854775807) (hl : o.f5.length <= 900000) : op_Needs.f o.f0 o.f1 o.f2 o.f3.f0 o.f3.f1 o.f3.f2 o.f4 o.f5 o.f6 o.f7 o.f8 = some (if opOk o = true then (Qaq o,0) else ([],1)):=by
 show needsF o = _
 unfold needsF
 rw [if_pos ⟨hs,hl⟩]
theorem tiny4_Sm {o : SOp} (h : tiny4 o) : Sm o:=⟨by have:=h.1; omega,by have:=h.2; omega⟩
end
section
theorem bytes1 {n B : Nat} (hB : 1 <= B) (h : n * B <= reachBytes) : n <= 140737488351232:=Nat.le_trans (Nat.le_mul_of_pos_right n hB) h
theorem GoodOp.le {o : SOp} (h : GoodOp o) : o.f4.size <= 140737488351232 /\ o.f5.length <= 140737488351232:=⟨h.1,bytes1 (of_decide_eq_true (by kernel_rfl)) h.2⟩
theorem GoodAsk4.of {l0 : List SOp} {l1 : List SElem} {l2 : List Int}
  (h0 : l0.length * Try.prog.bytesOf 38 <= reachBytes /\ ∀ x ∈ l0,GoodOp x)
  (h1 : l1.length * Try.prog.bytesOf 36 <= reachBytes /\ ∀ x ∈ l1,(Lit.int .i64 x.f0).wf = true /\ (Lit.int .i64 x.f1).wf = true /\ (Lit.int .i64 x.f2).wf = true)
  (h2 : l2.length * Try.prog.bytesOf 3 <= reachBytes /\ ∀ x ∈ l2,(Lit.int .i64 x).wf = true) : GoodAsk4 l0 l1 l2 :=
 ⟨bytes1 (of_decide_eq_true (by kernel_rfl)) h0.1,fun o ho => (h0.2 o ho).le,bytes1 (of_decide_eq_true (by kernel_rfl)) h1.1,bytes1 (of_decide_eq_true (by kernel_rfl)) h2.1⟩
theorem agg_of_cells {v : Value} {a b : Value} {l : List Value} (h : v.cells.toList = a :: b :: l) : v = .agg (a :: b :: l).toArray:=by
 cases v <;> simp [Value.cells] at h
 rw [<- h]
theorem opens_Ask (H : Type) : ∀ (enc : TypeId × Value -> H) (W : World) (base : Nat) (sp : Nat -> Bool) (held : Bool) (fuel : Nat) (cs : List Value) (x : DataW H × List MemPlace),DataW.trod enc Try.prog W base sp held fuel 51 cs = some x -> lightW Try.prog 51 x.1 ->
  ∃ A0 c0 l0 A1 c1 l1 A2 c2 l2,cs = [.slice A0 l0.length c0, .slice A1 l1.length c1, .slice A2 l2.length c2] /\ Kd.C kOp W A0 l0.length l0 /\ l0.length <= c0 /\ Kd.C Qao W A1 l1.length l1 /\ l1.length <= c1 /\ Kd.C (Kd.int .i64) W A2 l2.length l2 /\ l2.length <= c2 /\ GoodAsk4 l0 l1 l2:=by
 intro enc W base sp held fuel cs x h hl
 have hS:=Qbn.struct (H:=H) Try.underlying51 (by kernel_rfl)
  (Qbk.cons (opens_Ops H) (by kernel_rfl) rfl rfl (Qbk.cons (opens_Elems H) (by kernel_rfl) rfl rfl (Qbk.last (opens_Ints H) (by kernel_rfl) rfl rfl)))
 obtain ⟨⟨l0,l1,l2⟩,hp,hg⟩:=hS enc W base sp held fuel cs x h hl
 obtain ⟨_,_,rfl,⟨A0,c0,rfl,h0,g0⟩,⟨_,_,rfl,⟨A1,c1,rfl,h1,g1⟩,⟨A2,c2,rfl,h2,g2⟩⟩⟩:=hp
 exact ⟨A0,c0,l0,A1,c1,l1,A2,c2,l2,rfl,g0,h0,g1,h1,g2,h2,GoodAsk4.of hg.1 hg.2.1 hg.2.2⟩
end
end Go.Proofs.Ytonoaflfobajcaa.L
end
