/- Part 8 of the proof that for every argument the law DocToggles answers true: with a toggle that does not count the text is as it was, with two of one edit too, with one what it wrote is visible no more, or again. -/
import Derived.Test.YtonoaflfobajcaaZDT7
import Derived.ArgAppend
section
namespace Go.Proofs.Ytonoaflfobajcaa.L
open Go.RowKit Go.Proofs.YtonoaflfobajcaaW.PrintWords Go.Proofs.YtonoaflfobajcaaW.PrintLast Go.Proofs.YtonoaflfobajcaaW.PrintMore
def t_tree_With.T1 : Bool × List (List Nat × List Nat):=(true,[([],[]),([0],[0]),([],[]),([2],[2]),([1,3,1],[1,3]),([4,4,0,1,2,3,4],[4])])
def t_tree_With.B1 : List Nat:=[0,1,0,4,15,31]
theorem t_tree_With.tab1 : rtab .any (opsOf Try.f32 1) = t_tree_With.T1:=by kernel_rfl
theorem t_tree_With.bits1 : waitsOk t_tree_With.T1.2 t_tree_With.B1 = true:=by kernel_rfl
def t_doc_Idle.T3 : Bool × List (List Nat × List Nat):=(true,[([],[]),([0],[0]),([1],[1]),([2],[2]),([3],[3]),([4,3],[3,4]),([3],[3]),([6,3,3],[3,6]),([3],[3]),([3],[3]),([9,3],[3,9]),([3],[3]),([11,3],[3,11]),([8,10,12,7,3],[3,8,10,12]),([7,13,3],[3,7,13]),([14,3],[3,14]),([5,15,3],[3,5,15]),([3,16],[3,16]),([17,13,0,1,2,3,4,5,6,7,8,9,10,11,12,13,14,15,16,17],[17]),([18,0,1,2,3,4,5,6,7,8,9,10,11,12,13,14,15,16,17,18],[])])
def t_doc_Idle.B3 : List Nat:=[0,1,3,7,15,31,15,79,15,15,527,15,2063,8143,16335,32719,65535,131071,262143,524287]
theorem t_doc_Idle.tab3 : rtab .any (opsOf Try.f12 3) = t_doc_Idle.T3:=by kernel_rfl
theorem t_doc_Idle.bits3 : waitsOk t_doc_Idle.T3.2 t_doc_Idle.B3 = true:=by kernel_rfl
end Go.Proofs.Ytonoaflfobajcaa.L
end

section
namespace Go.Proofs.Ytonoaflfobajcaa.L
open Go.RowKit Go.Proofs.YtonoaflfobajcaaW.PrintWords Go.Proofs.YtonoaflfobajcaaW.PrintLast Go.Proofs.YtonoaflfobajcaaW.PrintMore
set_option linter.unusedVariables false
set_option linter.unusedSimpArgs false
theorem reads_flat {α : Type} (d : Kd α) {w : World} {ad : Addr} {n : Nat} {ps : List α} (h : d.C w (some ad) n ps) (h0 : 0 < n) : ∃ cs,Reps (d.K w) d.sz ps cs ∧ ∀ i u,cs[i]? = some u → w.cell? (ad.add i) = some u:=by
 obtain ⟨hn,hm,hc⟩:=h
 obtain ⟨ad',e,hc⟩:=hc h0
 injection e with e
 subst e
 have key : ∀ k,k ≤ ps.length → ∃ cs,Reps (d.K w) d.sz (ps.take k) cs ∧ ∀ i u,cs[i]? = some u → w.cell? (ad.add i) = some u:=by
  intro k
  induction k with
  | zero => intro _; exact ⟨[],by rw [List.take_zero]; exact Reps.none _ _,by simp⟩
  | succ k ih =>
   intro hk
   obtain ⟨cs,hR,hcs⟩:=ih (by omega)
   obtain ⟨c,hs,hK,hcell⟩:=hc k _ (List.getElem?_eq_getElem (by omega))
   refine ⟨cs ++ c,by rw [List.take_succ_eq_append_getElem (by omega)]; exact Reps.snoc hR hK hs,fun i u hu => ?_⟩
   have hl : cs.length = k * d.sz:=by have:=hR.1; rw [List.length_take] at this; rw [this]; congr 1; omega
   rcases Nat.lt_or_ge i cs.length with hi | hi
   ·rw [List.getElem?_append_left hi] at hu; exact hcs i u hu
   ·rw [List.getElem?_append_right hi] at hu
    have:=hcell (i - cs.length) u hu
    rwa [← hl,Nat.add_sub_cancel' hi] at this
 have:=key ps.length (Nat.le_refl _)
 rwa [List.take_length] at this
theorem C_append_full {α : Type} (d : Kd α) {P : Program} (w : World) (t ty e : TypeId) (i : TypeInfo) (z : Value) (bytes : Nat) (ht : P.underlying t = some (.slice e)) (hi : P.info? e = some i) (hz : i.zero = some z) (hsize : i.size = d.sz) (hby : i.bytes = bytes) (hzs : z.cells.size = d.sz) (hsz : 0 < d.sz)
  (A : Option Addr) (xs : List α) (h : d.C w A xs.length xs) (hA : A = none → xs.length = 0) (a : Addr) (p : α) (news : List Value) (hK : d.K w p news) (hnews : ∀ j u,news[j]? = some u → w.cell? (a.add j) = some u)
  (hbytes : (xs.length + 1) * bytes ≤ 140737488355328) (hlen : xs.length + 1 ≤ maxLen) :
  ∃ A' c' w',(Builtin.append_ #[t,t] ty #[.slice A xs.length xs.length, .slice (some a) 1 1]).run P w = .ok (.slice A' (xs.length + 1) c') w' ∧ xs.length + 1 ≤ c' ∧ d.C w' A' (xs.length + 1) (xs ++ [p]) ∧ Below w.heap.size w w':=by
 have hn:=d.K_len hK
 have hl1 : news.length = 1 * d.sz:=by omega
 have fin : ∀ (olds : List Value) (v' : Value) (w' : World),Reps (d.K w) d.sz xs olds → w'.ownsRow w.heap.size e d.sz v' (xs.length + 1) (olds ++ news) → w.grownBy w' none → ∃ A' c',v' = .slice A' (xs.length + 1) c' ∧ xs.length + 1 ≤ c' ∧ d.C w' A' (xs.length + 1) (xs ++ [p]) ∧ Below w.heap.size w w':=by
  intro olds v' w' hR ho hg
  have hb : Below w.heap.size w w':=pw_below_grown (Below.refl _ _) none (Nat.le_refl _) hg (fun k hk => by cases hk)
  obtain ⟨A',c',e',hr⟩:=own_reads_row ho ((hR.snoc hK hn).imp_ (fun _ _ hk => d.K_below hb hk)) (by simp)
  refine ⟨A',c',e', ?_,hr,hb⟩
  rcases ho.2 with ⟨_,h0⟩ | ⟨g,cap,cur,e2,_,_,hcap,_⟩
  ·omega
  ·rw [e'] at e2; injection e2 with _ _ e3; omega
 cases A with
 | none =>
  have h0:=hA rfl
  have hx : xs = []:=List.eq_nil_of_length_eq_zero h0
  subst hx
  obtain ⟨v',w',hrun,r1,r2,_⟩:=run_append_own (P:=P) w w.heap.size t ty e i z d.sz bytes ht hi hz hsize hby hzs hsz (.slice none 0 0) 0 [] (World.ownsRow_nil w _ e d.sz) a 1 1 news hl1 hnews (d.K_one hK) (by simpa using hlen) (by simpa using hbytes) (Nat.le_refl _)
  obtain ⟨A',c',rfl,k1,k2,k3⟩:=fin [] v' w' (Reps.none _ _) (by simpa using r1) r2
  exact ⟨A',c',w',hrun,k1,k2,k3⟩
 | some b =>
  rcases Nat.eq_zero_or_pos xs.length with h0 | h0
  ·have hx : xs = []:=List.eq_nil_of_length_eq_zero h0
   subst hx
   obtain ⟨v',w',hrun,r1,r2⟩:=run_append_arg_grows (P:=P) w t ty e i z d.sz bytes ht hi hz hsize hby hzs hsz b 0 0 [] (by simp) (by simp) a 1 1 news hl1 hnews (by omega) (by simpa using hlen) (by simpa using hbytes)
   obtain ⟨A',c',rfl,k1,k2,k3⟩:=fin [] v' w' (Reps.none _ _) (by simpa using r1) r2
   exact ⟨A',c',w',hrun,k1,k2,k3⟩
  ·obtain ⟨olds,hR,ho⟩:=reads_flat d h h0
   obtain ⟨v',w',hrun,r1,r2⟩:=run_append_arg_grows (P:=P) w t ty e i z d.sz bytes ht hi hz hsize hby hzs hsz b xs.length xs.length olds hR.1 ho a 1 1 news hl1 hnews (by omega) hlen hbytes
   obtain ⟨A',c',rfl,k1,k2,k3⟩:=fin olds v' w' hR r1 r2
   exact ⟨A',c',w',hrun,k1,k2,k3⟩
theorem exec_append {P : Program} {a : Act} {oi : Oper} {w w' : World} {s x : Operand} {t : TypeId} {u sv xv : Value} (hop : oi.op = Op.call { callee:=Callee.builtin Builtin.append,args:=#[s,x],argTypes:=#[t,t] }) (hs : a.eval s = sv) (hx : a.eval x = xv)
  (hrun : (Builtin.append_ #[t,t] oi.type #[sv,xv]).run P w = .ok u w') : (execOp a.eval oi).run P w = .ok (.value u) w':=by
 simp [execOp,hop,resolve,invoke,builtin,hs,hx,hrun]
theorem none_empty {A0 : Option Addr} {l0 : List SOp} {w : World} (hr0 : Kd.C kOp w A0 l0.length l0) (hA : A0 = none) : l0.length = 0:=by
 subst hA
 rcases Nat.eq_zero_or_pos l0.length with h | h
 ·exact h
 ·obtain ⟨ad,_,_,e,_⟩:=at_Op hr0 0 (Int.le_refl _) (by omega)
  cases e
set_option maxHeartbeats 4000000 in
set_option maxRecDepth 1000000 in
theorem Clip_calls (A0 : Option Addr) (c0 : Nat) (l0 : List (SOp)) (w : World) (hr0 : Kd.C kOp w A0 l0.length l0) (hc0 : l0.length ≤ c0) (hl : l0.length ≤ 1000000) :
  Calls Try.prog 52 #[.slice A0 l0.length c0] w fun e w' => e = .returned (.slice A0 l0.length l0.length) ∧ w' = w:=by
 have hu:=Try.underlying24
 cases A0 with
 | none =>
  have h0:=none_empty hr0 rfl
  rw [h0] at hc0 ⊢
  have hcz : (0 : Int) ≤ (c0 : Int):=by omega
  go_enter Try.func52,Try.ntmps52
  go_wp2
  go_ret
  exact ⟨rfl,rfl⟩
 | some a =>
  have hcz : (l0.length : Int) ≤ (c0 : Int):=by omega
  have hcz2 : (0 : Int) ≤ (l0.length : Int):=by omega
  clear hr0
  generalize l0.length = n at hc0 hl hcz hcz2 ⊢
  go_enter Try.func52,Try.ntmps52
  go_wp2
  go_ret
  exact ⟨rfl,rfl⟩
theorem infoOp : (Try.prog.info? 38).map (fun i => (i.zero,i.size,i.bytes)) = some (some (.agg #[(.int .i64 0),(.int .i64 0),(.int .i64 0),(.int .i64 0),(.int .i64 0),(.int .i64 0),(.string ⟨#[]⟩),(.slice none 0 0),(.int .i64 0),(.int .i64 0),(.int .i64 0)]),11,112):=by kernel_rfl
abbrev opCells (o : SOp) (A7 : Option Addr) (c7 : Nat) : List Value:=[.int .i64 o.f0, .int .i64 o.f1, .int .i64 o.f2, .int .i64 o.f3.f0, .int .i64 o.f3.f1, .int .i64 o.f3.f2, .string o.f4, .slice A7 o.f5.length c7, .int .i64 o.f6, .int .i64 o.f7, .int .i64 o.f8]
abbrev S11 (W : World) (g : Nat) (o : SOp) (A7 : Option Addr) (c7 : Nat) : Prop:=W.cell? ⟨g,0,none⟩ = some (.int .i64 o.f0) ∧ W.cell? ⟨g,1,none⟩ = some (.int .i64 o.f1) ∧ W.cell? ⟨g,2,none⟩ = some (.int .i64 o.f2) ∧ W.cell? ⟨g,3,none⟩ = some (.int .i64 o.f3.f0) ∧ W.cell? ⟨g,4,none⟩ = some (.int .i64 o.f3.f1) ∧ W.cell? ⟨g,5,none⟩ = some (.int .i64 o.f3.f2) ∧ W.cell? ⟨g,6,none⟩ = some (.string o.f4) ∧ W.cell? ⟨g,7,none⟩ = some (.slice A7 o.f5.length c7) ∧ W.cell? ⟨g,8,none⟩ = some (.int .i64 o.f6) ∧ W.cell? ⟨g,9,none⟩ = some (.int .i64 o.f7) ∧ W.cell? ⟨g,10,none⟩ = some (.int .i64 o.f8)
theorem S11.below {W W' : World} {g : Nat} {o : SOp} {A7 : Option Addr} {c7 : Nat} (h : S11 W g o A7 c7) (hb : Below W.heap.size W W') : S11 W' g o A7 c7:=by
 obtain ⟨h0,h1,h2,h3,h4,h5,h6,h7,h8,h9,h10⟩:=h
 exact ⟨pw_cell_below hb h0,pw_cell_below hb h1,pw_cell_below hb h2,pw_cell_below hb h3,pw_cell_below hb h4,pw_cell_below hb h5,pw_cell_below hb h6,pw_cell_below hb h7,pw_cell_below hb h8,pw_cell_below hb h9,pw_cell_below hb h10⟩
theorem S11.boxed (w : World) (o : SOp) (A7 : Option Addr) (c7 : Nat) (t : TypeId) : S11 (w.alloc (.cells (opCells o A7 c7).toArray t)) w.heap.size o A7 c7:=by
 refine ⟨?_, ?_, ?_, ?_, ?_, ?_, ?_, ?_, ?_, ?_, ?_⟩ <;> simp
theorem exK {P : Program} {ops : Array Oper} {Q : Exit → Act → World → Prop} {S : World → Prop} {F : Act → World → Prop} {K : Act → World → Prop} {oi : Oper} {a : Act} {w : World} {N : Option Tmp} (hK : Shut (∀ a' w',S w' → (S w' → F a' w') → K a' w')) (u : Value) (w' : World) (hw : Region.wanted oi (yielded ops a.tmps) = true:=by rfl) (hN : oi.dst = N:=by rfl)
  (hrun : (execOp a.eval oi).run P w = .ok (.value u) w') (hS : S w') (h : S w' → F (a.put N u) w') : if Region.wanted oi (yielded ops a.tmps) = true then Oper.wp P oi a w K Q else K (a.put N undef) w:=by
 rw [if_pos hw]
 unfold Oper.wp
 rw [hrun,Oper.upon_value,hN]
 exact hK.out _ w' hS h
theorem with_app {A0 : Option Addr} {l0 : List SOp} {o : SOp} {A7 : Option Addr} {c7 : Nat} {w w1 : World} (hb1 : Below w.heap.size w w1) (hl : l0.length ≤ 1000000) (hr0 : Kd.C kOp w A0 l0.length l0) (hr7 : Kd.C kElem w A7 o.f5.length o.f5) (hc7 : o.f5.length ≤ c7) :
  ∃ A' c' w',(Builtin.append_ #[24,24] 24 #[.slice A0 l0.length l0.length, .slice (some ⟨w1.heap.size,0,none⟩) 1 1]).run Try.prog (w1.alloc (.cells (opCells o A7 c7).toArray 38)) = .ok (.slice A' (l0.length + 1) c') w' ∧ l0.length + 1 ≤ c' ∧ Kd.C kOp w' A' (l0.length + 1) (l0 ++ [o]) ∧ Below w.heap.size w w':=by
 obtain ⟨i,hi,hiv⟩:=Option.map_eq_some_iff.1 infoOp
 simp only [Prod.mk.injEq] at hiv
 have hb2 : Below w.heap.size w (w1.alloc (.cells (opCells o A7 c7).toArray 38)):=below_alloc hb1 _
 obtain ⟨A',c',w',hrun,k1,k2,k3⟩:=C_append_full kOp (P:=Try.prog) (w1.alloc (.cells (opCells o A7 c7).toArray 38)) 24 24 38 i _ 112 Try.underlying24 hi hiv.1 hiv.2.1 hiv.2.2 rfl (by decide)
  A0 l0 (Kd.C_below hr0 hb2) (fun hA => none_empty hr0 hA) ⟨w1.heap.size,0,none⟩ o (opCells o A7 c7) (kOp_mk _ o hc7 (Kd.C_below hr7 hb2)) (fun j u hu => by
   have:=top_cell w1 (opCells o A7 c7).toArray 38 w1.heap.size j rfl
   have ea : (⟨w1.heap.size,0,none⟩ : Addr).add j = ⟨w1.heap.size,j,none⟩:=by rw [Addr.add_lit,Nat.zero_add]
   rw [ea,this]; simpa using hu) (by omega) (by unfold maxLen; omega)
 exact ⟨A',c',w',hrun,k1,k2,below_step hb2 k3⟩
set_option maxHeartbeats 4000000 in
set_option maxRecDepth 1000000 in
theorem tree_With.calls (A0 : Option Addr) (c0 : Nat) (l0 : List SOp) (o : SOp) (A7 : Option Addr) (c7 : Nat) (w : World) (hr0 : Kd.C kOp w A0 l0.length l0) (hc0 : l0.length ≤ c0) (hr7 : Kd.C kElem w A7 o.f5.length o.f5) (hc7 : o.f5.length ≤ c7) (hl : l0.length ≤ 1000000) :
  Calls Try.prog 32 #[.slice A0 l0.length c0, .agg (opCells o A7 c7).toArray] w fun e w' => ∃ A c,e = .returned (.slice A (l0.length + 1) c) ∧ l0.length + 1 ≤ c ∧ Kd.C kOp w' A (l0.length + 1) (l0 ++ [o]) ∧ Below w.heap.size w w':=by
 have HCL:=Aside0.mk (fun W (hb : Below w.heap.size w W) => Clip_calls A0 c0 l0 W (Kd.C_below hr0 hb) hc0 hl)
 have HAL:=Aside0.mk (below_alloc (Below.refl w.heap.size w) (.cells (opCells o A7 c7).toArray 38))
 have hbx:=S11.boxed w o A7 c7 38
 obtain ⟨b0,b1,b2,b3,b4,b5,b6,b7,b8,b9,b10⟩:=hbx
 have HB:=Aside0.mk (S11.boxed w o A7 c7 38)
 have HR0:=Aside0.mk hr0
 have HR7:=Aside0.mk hr7
 have HL:=Aside0.mk hl
 clear hr0 hr7 hl
 go_enter Try.func32,Try.ntmps32
 go_wp2_with fail
 refine stL (S:=fun w' => S11 w' w.heap.size o A7 c7) [4] 6 t_tree_With.bits1 t_tree_With.tab1 (hS:=⟨b0,b1,b2,b3,b4,b5,b6,b7,b8,b9,b10⟩) (h:=fun hS HT HW => ?_)
 refine pu HT 0 5 1 (h := ?_)
 refine tk HT HW hS 2 7 5 (h := ?_)
 have HB1:=Aside0.mk (below_drew1 HAL.out)
 clear b0 b1 b2 b3 b4 b5 b6 b7 b8 b9 b10
 generalize (w.alloc (.cells (opCells o A7 c7).toArray 38)).drew = w1 at HB1 hS ⊢
 have HS2:=Aside0.mk (S11.below hS (below_alloc (Below.refl _ w1) (.cells (opCells o A7 c7).toArray 38)))
 refine two_ (i:=1) (j:=3) (Ni:=some 6) (Nj:=some 8) (bA 6 7) (bA 6 13) rfl rfl rfl rfl (two_of HT.out (by kernel_rfl)) (by decide) (by decide) (fun K hK => ?_) (fun K hK => ?_)
 ·refine gS Try.func52 #[.slice A0 l0.length c0] (h := ?_)
  refine (HCL.out _ HB1.out).mono ?_
  rintro e w3 ⟨rfl,rfl⟩
  refine ⟨_,rfl, ?_⟩
  refine hK.out _ _ hS (fun hS => ?_)
  clear hK
  refine nm (h := ?_)
  refine exS HT 3 (some 8) 15 (.slice (some ⟨w3.heap.size,0,none⟩) 1 1) (w3.alloc (.cells (opCells o A7 c7).toArray 38)) (hrun := ?_) (hS:=HS2.out) (h:=fun hS' => ?_)
  ·clear HT HW hS
   go_simp
  refine nm (h := ?_)
  obtain ⟨A',c',w',hrun,hk⟩:=with_app HB1.out HL.out HR0.out HR7.out hc7
  have HK:=Aside0.mk hk
  clear hk hS hS'
  refine exL HT 4 (some 9) 31 (.slice A' (l0.length + 1) c') w' (hrun:=exec_append rfl rfl rfl hrun) (h := ?_)
  refine nm (h := ?_)
  refine pu HT 5 4 63 (h := ?_)
  refine dn HT (h := ?_)
  clear HT HW hrun
  go_wp2
  go_ret
  exact ⟨A',c',rfl,HK.out.1,HK.out.2.1,HK.out.2.2⟩
 ·refine exK hK (.slice (some ⟨w1.heap.size,0,none⟩) 1 1) (w1.alloc (.cells (opCells o A7 c7).toArray 38)) (hrun := ?_) (hS:=HS2.out) (h:=fun hS' => ?_)
  ·clear HT HW hS hK
   go_simp
  clear hK
  refine nm (h := ?_)
  refine ca HT 1 (some 6) 15 #[.slice A0 l0.length c0] Try.func52 (h:=fun K hK => ?_)
  refine (HCL.out _ (below_alloc HB1.out _)).mono ?_
  rintro e w3 ⟨rfl,rfl⟩
  refine ⟨_,rfl, ?_⟩
  refine hK.out _ _ HS2.out (fun hS => ?_)
  clear hK
  refine nm (h := ?_)
  obtain ⟨A',c',w',hrun,hk⟩:=with_app HB1.out HL.out HR0.out HR7.out hc7
  have HK:=Aside0.mk hk
  clear hk hS hS'
  refine exL HT 4 (some 9) 31 (.slice A' (l0.length + 1) c') w' (hrun:=exec_append rfl rfl rfl hrun) (h := ?_)
  refine nm (h := ?_)
  refine pu HT 5 4 63 (h := ?_)
  refine dn HT (h := ?_)
  clear HT HW hrun
  go_wp2
  go_ret
  exact ⟨A',c',rfl,HK.out.1,HK.out.2.1,HK.out.2.2⟩
end Go.Proofs.Ytonoaflfobajcaa.L
end

section
namespace Go.Proofs.Ytonoaflfobajcaa.L
open Go.RowKit Go.Proofs.YtonoaflfobajcaaW.PrintWords Go.Proofs.YtonoaflfobajcaaW.PrintLast Go.Proofs.YtonoaflfobajcaaW.PrintMore
set_option linter.unusedVariables false
set_option linter.unusedSimpArgs false
def idleR (l : List SOp) (o : SOp) : Bool:=o.f2 == 2 && !(o.f8 == cntR l o.f6 o.f7)
def idleF (l : List SOp) (o : SOp) : Option (Bool × Int):=if smalls (l ++ [o]) = true ∧ l.length ≤ 1000000 then some (if mayB (l ++ [o]) = true then (idleR l o,0) else (false,1)) else none
def doc_Idle.f (l0 : List (SOp)) (a1_0 : Int) (a1_1 : Int) (a1_2 : Int) (a1_3 : Int) (a1_4 : Int) (a1_5 : Int) (a1_6 : ByteArray) (l1_7 : List (SElem)) (a1_8 : Int) (a1_9 : Int) (a1_10 : Int) : Option (Bool × Int):=idleF l0 ⟨a1_0,a1_1,a1_2,⟨a1_3,a1_4,a1_5⟩,a1_6,l1_7,a1_8,a1_9,a1_10⟩
set_option maxHeartbeats 4000000 in
set_option maxRecDepth 1000000 in
theorem Idle_calls (A0 : Option Addr) (c0 : Nat) (l0 : List (SOp)) (o : SOp) (A7 : Option Addr) (c7 : Nat) (r1 : Bool) (r2 : Int) (w : World) (hr0 : Kd.C kOp w A0 l0.length l0) (hc0 : l0.length ≤ c0) (hr7 : Kd.C kElem w A7 o.f5.length o.f5) (hc7 : o.f5.length ≤ c7) (h : idleF l0 o = some (r1,r2)) :
  Calls Try.prog 12 #[.slice A0 l0.length c0, .agg (opCells o A7 c7).toArray] w fun e w' => e = .returned (.tuple #[.bool r1, .int .i64 r2]) ∧ Below w.heap.size w w':=by
 unfold idleF at h
 split at h
 case isFalse => cases h
 rename_i hq
 obtain ⟨hsm,hl⟩:=hq
 have h:=Option.some.inj h
 have hlen : (l0 ++ [o]).length = l0.length + 1:=by simp
 have HAL:=Aside0.mk (below_alloc (Below.refl w.heap.size w) (.cells (opCells o A7 c7).toArray 38))
 have hcW:=tree_With.calls A0 c0 l0 o A7 c7 _ (Kd.C_below hr0 HAL.out) hc0 (Kd.C_below hr7 HAL.out) hc7 hl
 have HW:=Aside0.mk hcW
 have HM:=Aside0.mk (fun (A2 : Option Addr) (c2 : Nat) (w2 : World) (hc2 : l0.length + 1 ≤ c2) (hC2 : Kd.C kOp w2 A2 (l0.length + 1) (l0 ++ [o])) => by
  have:=tree_May.calls A2 c2 (l0 ++ [o]) (mayB (l0 ++ [o])) w2 (by rw [hlen]; exact hC2) (by rw [hlen]; exact hc2) (tree_May_f hsm)
  rw [hlen] at this
  exact this)
 obtain ⟨b0,b1,b2,b3,b4,b5,b6,b7,b8,b9,b10⟩:=S11.boxed w o A7 c7 38
 have HR0:=Aside0.mk hr0
 have HC0:=Aside0.mk hc0
 have HL:=Aside0.mk hl
 have HB2:=Aside0.mk (And.intro b2 (And.intro b6 (And.intro b7 (And.intro b8 (And.intro b9 b10)))))
 clear hcW hr0 hr7 hlen hsm hl hc0
 go_enter Try.func12,Try.ntmps12
 go_wp2_with fail
 refine HW.out.mono ?_
 rintro e w2 ⟨A2,c2,rfl,hc2,hC2,hb2⟩
 have HM2:=Aside0.mk (HM.out A2 c2 w2 hc2 hC2)
 have HB:=Aside0.mk (below_step HAL.out hb2)
 have HX:=Aside0.mk (And.intro (pw_cell_below hb2 b2) (And.intro (pw_cell_below hb2 b8) (And.intro (pw_cell_below hb2 b9) (pw_cell_below hb2 b10))))
 clear b0 b1 b2 b3 b4 b5 b6 b7 b8 b9 b10 HW HM HB2 hc2 hC2 hb2
 go_wp2_with fail
 refine HM2.out.mono ?_
 rintro e w3 ⟨rfl,hb3⟩
 obtain ⟨x2,x8,x9,x10⟩:=HX.out
 have y2:=pw_cell_below hb3 x2
 have y8:=pw_cell_below hb3 x8
 have y9:=pw_cell_below hb3 x9
 have y10:=pw_cell_below hb3 x10
 have HB3:=Aside0.mk (below_step HB.out hb3)
 clear x2 x8 x9 x10 HX HM2 hb3 HB
 cases hm : mayB (l0 ++ [o]) with
 | false =>
  rw [hm] at h
  have e1 : (false,(1 : Int)) = (r1,r2):=h
  injection e1 with e1 e2
  subst e1 e2
  clear hm h
  go_wp2
  go_ret2
  exact ⟨rfl,HB3.out⟩
 | true =>
  rw [hm] at h
  have e1 : (idleR l0 o,(0 : Int)) = (r1,r2):=h
  injection e1 with e1 e2
  subst e2
  have HE:=Aside0.mk e1
  clear e1
  have HMB:=Aside0.mk hm
  clear h hm
  go_upto_region 3 with (fail)
  by_cases h2 : o.f2 = 2
  ·obtain ⟨hrow,hnext⟩:=RowOk.snoc_inv ((mayB_iff _).1 HMB.out)
   obtain ⟨p,hp,p1,p2,p3⟩:=hnext.tog h2
   obtain ⟨i,hi,hfi,hri⟩:=findOp_mem hrow hp
   clear hri
   rw [p2,p3] at hfi
   have hcn:=counts_at hrow hi
   have hpi : l0[i] = p:=by
    rcases findOp_cases l0 o.f6 o.f7 with ⟨j,hj,j0,j1,_,ej⟩ | ⟨hn,_⟩
    ·rw [hfi] at ej
     have : i = j:=by omega
     subst this
     have:=name_inj hrow hi (show i < l0.length from hi) rfl rfl
     obtain ⟨k,hk,rfl⟩:=List.getElem_of_mem hp
     have:=name_inj hrow hi hk (by rw [j0,p2]) (by rw [j1,p3])
     subst this; rfl
    ·exact absurd ⟨p2,p3⟩ (hn p hp)
   rw [hpi,p2,p3] at hcn
   obtain ⟨k,hk⟩:=Ev.rounds (Counts_ev hrow)
   have hbC:=fun W (hb : Below w.heap.size w W) => doc_Counts.calls k A0 c0 l0 (countsL l0) W (Kd.C_below HR0.out hb) HC0.out hk
   have hbF:=fun W (hb : Below w.heap.size w W) => tree_Find.calls A0 c0 l0 o.f6 o.f7 (i : Int) W (Kd.C_below HR0.out hb) HC0.out (by unfold tree_Find.f; rw [if_pos (by have:=HL.out; omega),hfi])
   have HCC:=Aside0.mk hbC
   have HFF:=Aside0.mk hbF
   have hi0 : (0 : Int) ≤ (i : Int):=by omega
   have hi1 : (i : Int) < ((countsL l0).length : Int):=by rw [counts_length]; omega
   have hrd : rd (countsL l0) (i : Int) = cntR l0 o.f6 o.f7:=by unfold rd; rw [Int.toNat_natCast,hcn]
   have hid : idleR l0 o = (o.f8 != cntR l0 o.f6 o.f7):=by unfold idleR; rw [h2]; rfl
   rw [hid] at HE
   have HI:=Aside0.mk (And.intro hi0 (And.intro hi1 hrd))
   clear hbC hbF hk hcn hpi hfi hp p1 p2 p3 hnext hrow hid hi hi0 hi1 hrd
   have e2 : (o.f2 == 2) = true:=by rw [h2]; rfl
   refine stL (S:=fun w' => w'.cell? ⟨w.heap.size,2,none⟩ = some (.int .i64 o.f2) ∧ w'.cell? ⟨w.heap.size,8,none⟩ = some (.int .i64 o.f6) ∧ w'.cell? ⟨w.heap.size,9,none⟩ = some (.int .i64 o.f7) ∧ w'.cell? ⟨w.heap.size,10,none⟩ = some (.int .i64 o.f8)) [] 20 t_doc_Idle.bits3 t_doc_Idle.tab3 (hS:=⟨y2,y8,y9,y10⟩) (h:=fun hS HT HW => ?_)
   refine pu HT 0 11 1 (h := ?_)
   refine tk HT HW hS 1 12 3 (h := ?_)
   refine pu HT 2 13 7 (h := ?_)
   refine pu HT 3 14 15 (h := ?_)
   refine pu HT 4 15 31 (h := ?_)
   refine tk HT HW hS 5 16 63 (h := ?_)
   refine pu HT 6 17 127 (h := ?_)
   refine pu HT 8 19 383 (h := ?_)
   refine pu HT 9 20 895 (h := ?_)
   refine tk HT HW hS 10 21 1919 (h := ?_)
   refine pu HT 11 22 3967 (h := ?_)
   refine tk HT HW hS 12 23 8063 (h := ?_)
   refine ca HT 7 (some 18) 8191 #[.slice A0 l0.length c0] Try.func30 (h:=fun K hK => ?_)
   refine (HCC.out _ (below_drew1 HB3.out)).mono ?_
   rintro e w4 ⟨v4,rfl,hR4,hb4⟩
   obtain ⟨A4,c4,rfl,hc4,hC4⟩:=Kd.R_reads hR4
   have HB4:=Aside0.mk (below_step (below_drew1 HB3.out) hb4)
   refine ⟨_,rfl, ?_⟩
   refine hK.out _ _ ⟨pw_cell_below hb4 y2,pw_cell_below hb4 y8,pw_cell_below hb4 y9,pw_cell_below hb4 y10⟩ (fun hS => ?_)
   obtain ⟨z2,z8,z9,z10⟩:=hS
   have HZ:=Aside0.mk (And.intro z2 (And.intro z8 (And.intro z9 z10)))
   have HC4:=Aside0.mk hC4
   clear hK hb4 hR4 hC4 y2 y8 y9 y10 HCC z2 z8 z9 z10
   refine nm (h := ?_)
   refine ca HT 13 (some 24) 16383 #[.slice A0 l0.length c0, .int .i64 o.f6, .int .i64 o.f7] Try.func33 (h:=fun K hK => ?_)
   refine (HFF.out _ HB4.out).mono ?_
   rintro e w5 ⟨rfl,hb5⟩
   have HB5:=Aside0.mk (below_step HB4.out hb5)
   refine ⟨_,rfl, ?_⟩
   refine hK.out _ _ ⟨pw_cell_below hb5 HZ.out.1,pw_cell_below hb5 HZ.out.2.1,pw_cell_below hb5 HZ.out.2.2.1,pw_cell_below hb5 HZ.out.2.2.2⟩ (fun hS => ?_)
   have hC5:=Kd.C_below HC4.out hb5
   clear hK hb5 HZ HC4 HFF
   obtain ⟨hi0,hi1,hrd⟩:=HI.out
   obtain ⟨ad,rfl,hcell⟩:=Kd.at_int hC5 (i : Int) hi0 hi1
   rw [hrd] at hcell
   simp only [Int.toNat_natCast] at hcell
   generalize (countsL l0).length = nn at hi1 ⊢
   generalize cntR l0 o.f6 o.f7 = cc at hcell HE ⊢
   clear hC5 HI hrd
   refine nm (h := ?_)
   refine pu HT 14 25 32767 (h := ?_)
   refine exS HT 15 (some 26) 65535 (.int .i64 cc) w5 (hrun := ?_) (hS:=hS) (h:=fun hS => ?_)
   ·clear HT HW hS
    go_simp
   refine nm (h := ?_)
   refine pu HT 16 27 131071 (h := ?_)
   refine pu HT 17 28 262143 (h := ?_)
   refine pu HT 18 4 524287 (h := ?_)
   refine pu HT 19 5 1048575 (h := ?_)
   refine dn HT (h := ?_)
   clear HT HW hS
   go_wp2
   go_ret2
   exact ⟨by rw [← HE.out]; rfl,HB5.out⟩
  ·have e2 : (o.f2 == 2) = false:=by simp [h2]
   have hid : idleR l0 o = false:=by unfold idleR; rw [e2]; rfl
   rw [hid] at HE
   refine stL (S:=fun w' => w'.cell? ⟨w.heap.size,2,none⟩ = some (.int .i64 o.f2)) [] 20 t_doc_Idle.bits3 t_doc_Idle.tab3 (hS:=y2) (h:=fun hS HT HW => ?_)
   clear y2 y8 y9 y10
   refine pu HT 0 11 1 (h := ?_)
   refine tk HT HW hS 1 12 3 (h := ?_)
   refine pu HT 2 13 7 (h := ?_)
   refine pu HT 3 14 15 (h := ?_)
   refine off HT 4 15 31 (h := ?_)
   refine off HT 5 16 63 (h := ?_)
   refine off HT 6 17 127 (h := ?_)
   refine off HT 7 18 255 (h := ?_)
   refine off HT 8 19 511 (h := ?_)
   refine off HT 9 20 1023 (h := ?_)
   refine off HT 10 21 2047 (h := ?_)
   refine off HT 11 22 4095 (h := ?_)
   refine off HT 12 23 8191 (h := ?_)
   refine off HT 13 24 16383 (h := ?_)
   refine off HT 14 25 32767 (h := ?_)
   refine off HT 15 26 65535 (h := ?_)
   refine off HT 16 27 131071 (h := ?_)
   refine pu HT 17 28 262143 (h := ?_)
   refine pu HT 18 4 524287 (h := ?_)
   refine pu HT 19 5 1048575 (h := ?_)
   refine dn HT (h := ?_)
   clear HT HW hS
   go_wp2
   go_ret2
   exact ⟨by rw [← HE.out]; rfl,below_drew1 HB3.out⟩
theorem doc_Idle.calls (A0 : Option Addr) (c0 : Nat) (l0 : List (SOp)) (a1_0 : Int) (a1_1 : Int) (a1_2 : Int) (a1_3 : Int) (a1_4 : Int) (a1_5 : Int) (a1_6 : ByteArray) (A1_7 : Option Addr) (c1_7 : Nat) (l1_7 : List (SElem)) (a1_8 : Int) (a1_9 : Int) (a1_10 : Int) (r1 : Bool) (r2 : Int) (w : World) (hr0 : Kd.C kOp w A0 l0.length l0) (hc0 : l0.length ≤ c0) (hr1_7 : Kd.C kElem w A1_7 l1_7.length l1_7) (hc1_7 : l1_7.length ≤ c1_7) (h : doc_Idle.f l0 a1_0 a1_1 a1_2 a1_3 a1_4 a1_5 a1_6 l1_7 a1_8 a1_9 a1_10 = some (r1,r2)) :
  Calls Try.prog 12 #[.slice A0 l0.length c0, .agg #[.int .i64 a1_0, .int .i64 a1_1, .int .i64 a1_2, .int .i64 a1_3, .int .i64 a1_4, .int .i64 a1_5, .string a1_6, .slice A1_7 l1_7.length c1_7, .int .i64 a1_8, .int .i64 a1_9, .int .i64 a1_10]] w fun e w' => e = .returned (.tuple #[.bool r1, .int .i64 r2]) ∧ Below w.heap.size w w' :=
 Idle_calls A0 c0 l0 ⟨a1_0,a1_1,a1_2,⟨a1_3,a1_4,a1_5⟩,a1_6,l1_7,a1_8,a1_9,a1_10⟩ A1_7 c1_7 r1 r2 w hr0 hc0 hr1_7 hc1_7 h
end Go.Proofs.Ytonoaflfobajcaa.L
end

section
namespace Go.Proofs.Ytonoaflfobajcaa.L
open Go.RowKit Go.Proofs.YtonoaflfobajcaaW.PrintWords Go.Proofs.YtonoaflfobajcaaW.PrintLast Go.Proofs.YtonoaflfobajcaaW.PrintMore
attribute [local go_sem] max2_int min2_int max_two min_two max_three min_three max_four min_four
set_option linter.unusedVariables false
set_option linter.unusedSimpArgs false
def r1_Rune.f (a0 : Int) : Option (Bool):=if a0 = 10 then (some true) else (if a0 ≥ 32 then (if a0 ≤ 55295 then (if a0 = 127 then (if a0 ≥ 57344 then (if a0 ≤ 1114111 then (some (a0 != 65533)) else (some false)) else (some false)) else (some true)) else (if a0 ≥ 57344 then (if a0 ≤ 1114111 then (some (a0 != 65533)) else (some false)) else (some false))) else (if a0 ≥ 57344 then (if a0 ≤ 1114111 then (some (a0 != 65533)) else (some false)) else (some false)))
set_option maxHeartbeats 8000000 in
set_option maxRecDepth 100000 in
theorem r1_Rune.calls (a0 : Int) (r : Bool) (w : World) (h : r1_Rune.f a0 = some r) :
  Calls Try.prog 13 #[.int .i32 a0] w fun e w' => e = .returned (.bool r) ∧ Drawn0 w w':=by
 unfold r1_Rune.f at h; have H:=h
 clear h
 by_cases c2 : a0 = 10
 ·rw [if_pos c2] at H
  obtain ⟨c2b0,c2b1⟩:=bT c2
  clear c2
  obtain rfl:=Option.some.inj H
  go_enter Try.func13,Try.ntmps13
  go_wp2
  go_ret
  exact ⟨rf,by repeat (first | exact Drawn0.refl _ | apply Drawn0.step)⟩
 rw [if_neg c2] at H
 obtain ⟨c2b0,c2b1⟩:=bF c2
 by_cases c3 : a0 ≥ 32; rotate_left
 ·rw [if_neg c3] at H
  have c3b0:=decide_eq_false c3
  clear c3
  by_cases c10 : a0 ≥ 57344; rotate_left
  ·rw [if_neg c10] at H
   have c10b0:=decide_eq_false c10
   clear c10
   obtain rfl:=Option.some.inj H
   go_enter Try.func13,Try.ntmps13
   go_wp2
   go_ret
   exact ⟨rf,by repeat (first | exact Drawn0.refl _ | apply Drawn0.step)⟩
  rw [if_pos c10] at H
  have c10b0:=decide_eq_true c10
  clear c10
  by_cases c11 : a0 ≤ 1114111
  ·rw [if_pos c11] at H
   have c11b0:=decide_eq_true c11
   clear c11
   obtain rfl:=Option.some.inj H
   go_enter Try.func13,Try.ntmps13
   go_wp2
   go_ret
   exact ⟨rf,by repeat (first | exact Drawn0.refl _ | apply Drawn0.step)⟩
  rw [if_neg c11] at H
  have c11b0:=decide_eq_false c11
  clear c11
  obtain rfl:=Option.some.inj H
  go_enter Try.func13,Try.ntmps13
  go_wp2
  go_ret
  exact ⟨rf,by repeat (first | exact Drawn0.refl _ | apply Drawn0.step)⟩
 rw [if_pos c3] at H
 have c3b0:=decide_eq_true c3
 clear c3
 by_cases c4 : a0 ≤ 55295; rotate_left
 ·rw [if_neg c4] at H
  have c4b0:=decide_eq_false c4
  clear c4
  by_cases c8 : a0 ≥ 57344; rotate_left
  ·rw [if_neg c8] at H
   have c8b0:=decide_eq_false c8
   clear c8
   obtain rfl:=Option.some.inj H
   go_enter Try.func13,Try.ntmps13
   go_wp2
   go_ret
   exact ⟨rf,by repeat (first | exact Drawn0.refl _ | apply Drawn0.step)⟩
  rw [if_pos c8] at H
  have c8b0:=decide_eq_true c8
  clear c8
  by_cases c9 : a0 ≤ 1114111
  ·rw [if_pos c9] at H
   have c9b0:=decide_eq_true c9
   clear c9
   obtain rfl:=Option.some.inj H
   go_enter Try.func13,Try.ntmps13
   go_wp2
   go_ret
   exact ⟨rf,by repeat (first | exact Drawn0.refl _ | apply Drawn0.step)⟩
  rw [if_neg c9] at H
  have c9b0:=decide_eq_false c9
  clear c9
  obtain rfl:=Option.some.inj H
  go_enter Try.func13,Try.ntmps13
  go_wp2
  go_ret
  exact ⟨rf,by repeat (first | exact Drawn0.refl _ | apply Drawn0.step)⟩
 rw [if_pos c4] at H
 have c4b0:=decide_eq_true c4
 clear c4
 by_cases c5 : a0 = 127; rotate_left
 ·rw [if_neg c5] at H
  obtain ⟨c5b0,c5b1⟩:=bF c5
  obtain rfl:=Option.some.inj H
  go_enter Try.func13,Try.ntmps13
  go_wp2
  go_ret
  exact ⟨rf,by repeat (first | exact Drawn0.refl _ | apply Drawn0.step)⟩
 rw [if_pos c5] at H
 obtain ⟨c5b0,c5b1⟩:=bT c5
 clear c5
 by_cases c6 : a0 ≥ 57344; rotate_left
 ·rw [if_neg c6] at H
  have c6b0:=decide_eq_false c6
  clear c6
  obtain rfl:=Option.some.inj H
  go_enter Try.func13,Try.ntmps13
  go_wp2
  go_ret
  exact ⟨rf,by repeat (first | exact Drawn0.refl _ | apply Drawn0.step)⟩
 rw [if_pos c6] at H
 have c6b0:=decide_eq_true c6
 clear c6
 by_cases c7 : a0 ≤ 1114111
 ·rw [if_pos c7] at H
  have c7b0:=decide_eq_true c7
  clear c7
  obtain rfl:=Option.some.inj H
  go_enter Try.func13,Try.ntmps13
  go_wp2
  go_ret
  exact ⟨rf,by repeat (first | exact Drawn0.refl _ | apply Drawn0.step)⟩
 rw [if_neg c7] at H
 have c7b0:=decide_eq_false c7
 clear c7
 obtain rfl:=Option.some.inj H
 go_enter Try.func13,Try.ntmps13
 go_wp2
 go_ret
 exact ⟨rf,by repeat (first | exact Drawn0.refl _ | apply Drawn0.step)⟩
def w6_wakes.f  : Option (Bool):=(doc_Text.f ([] : List (SOp))).bind fun bt222 => ((some (([(⟨1,1,1,(⟨0,0,0⟩ : SElem),(⟨#[97]⟩ : ByteArray),([] : List (SElem)),0,0,0⟩ : SOp),(⟨1,2,2,(⟨0,0,0⟩ : SElem),(⟨#[]⟩ : ByteArray),([] : List (SElem)),1,1,0⟩ : SOp)] : List (SOp)) : List (SOp))).bind fun y224 => (if 1 ≤ (y224.length : Int) then ((doc_Text.f (y224.take 1)).bind fun bt231 => ((doc_Text.f y224).bind fun bt233 => ((w6_num.f bt222.2).bind fun t235 => (if t235 = 0 then ((w6_num.f bt231.2).bind fun t236 => (if t236 = 0 then ((w6_num.f bt233.2).bind fun t237 => (if t237 = 0 then (if bt222.1.toList = ([] : List UInt8) then (if bt231.1.toList = ([97] : List UInt8) then (some (bt233.1.toList == ([] : List UInt8))) else (some false)) else (some false)) else (some false))) else (some false))) else (some false))))) else (none)))
set_option maxHeartbeats 8000000 in
set_option maxRecDepth 100000 in
theorem w6_wakes.calls  (r : Bool) (w : World) (h : w6_wakes.f  = some r) :
  Calls Try.prog 14 #[] w fun e w' => e = .returned (.bool r) ∧ Below w.heap.size w w':=by
 have hu38:=Try.underlying38
 have HB:=Aside0.mk (Below.refl w.heap.size w)
 unfold w6_wakes.f at h; have H:=h
 clear h
 obtain ⟨⟨t222,t223⟩,A1,H⟩:=bE H
 try dsimp only at H
 obtain ⟨y224,hy224⟩ : ∃ y_ : List (SOp),y_ = (([(⟨1,1,1,(⟨0,0,0⟩ : SElem),(⟨#[97]⟩ : ByteArray),([] : List (SElem)),0,0,0⟩ : SOp),(⟨1,2,2,(⟨0,0,0⟩ : SElem),(⟨#[]⟩ : ByteArray),([] : List (SElem)),1,1,0⟩ : SOp)] : List (SOp))):=⟨_,rfl⟩
 first | rw [Option.bind_some,← hy224] at H | rw [← hy224] at H
 have Ny224:=Aside0.mk hy224
 clear hy224
 by_cases c2 : 1 ≤ (y224.length : Int); rotate_left
 ·rw [if_neg c2] at H
  exact absurd H (by simp)
 rw [if_pos c2] at H
 have c2b0:=eq_true c2
 have c2b1:=decide_eq_true c2
 clear c2
 obtain ⟨y227,hy227⟩ : ∃ y_ : List (SOp),y_ = (y224.take 1):=⟨_,rfl⟩
 first | rw [Option.bind_some,← hy227] at H | rw [← hy227] at H
 have Ny227:=Aside0.mk hy227
 clear hy227
 obtain ⟨⟨t231,t232⟩,A3,H⟩:=bE H
 try dsimp only at H
 obtain ⟨⟨t233,t234⟩,A4,H⟩:=bE H
 try dsimp only at H
 obtain ⟨t235,A5,H⟩:=bE H
 by_cases c6 : t235 = 0; rotate_left
 ·rw [if_neg c6] at H
  obtain ⟨c6b0,c6b1⟩:=bF c6
  obtain rfl:=Option.some.inj H
  go_enter Try.func14,Try.ntmps14
  go_wp2_with (first | ((with_reducible refine gate_callee (f:=7) rfl ?_); refine gl (some 9) Try.func7 #[.slice none 0 0] (h := ?_); (refine (doc_Text.calls _ _ ([] : List (SOp)) t222 t223 _ ?side1 ?side2 A1.out).mono ?_); (case side1 => exact Kd.C_nil _ _); (case side2 => exact Nat.le_refl _); rintro e w48 ⟨rfl,hb⟩; refine ⟨_,rfl, ?_⟩; replace HB:=bs HB hb; clear hb) | ((with_reducible refine gate_dst (N:=14) rfl ?_); refine Kd.S_lit kOp _ 38 ?hg (N:=14) ?hd (xs:=([(⟨1,1,1,(⟨0,0,0⟩ : SElem),(⟨#[97]⟩ : ByteArray),([] : List (SElem)),0,0,0⟩ : SOp),(⟨1,2,2,(⟨0,0,0⟩ : SElem),(⟨#[]⟩ : ByteArray),([] : List (SElem)),1,1,0⟩ : SOp)] : List (SOp))) (inner:=[.int .i64 1, .int .i64 1, .int .i64 1, .int .i64 0, .int .i64 0, .int .i64 0, .string (⟨#[97]⟩ : ByteArray), .slice none 0 0, .int .i64 0, .int .i64 0, .int .i64 0, .int .i64 1, .int .i64 2, .int .i64 2, .int .i64 0, .int .i64 0, .int .i64 0, .string (⟨#[]⟩ : ByteArray), .slice none 0 0, .int .i64 1, .int .i64 1, .int .i64 0]) (ok:=fun _ => True) (okp:=fun _ => True) ?hr ?hp (fun _ hk => hk) trivial (Below.refl _ _) (Nat.le_refl _) (by simp) ?_; (case hd => rfl); (case hg => rfl); (case hr => first | (go_simp; done) | (go_simp; rfl)); (case hp => exact (Reps.front (show Kd.M kOp _ _ _ (⟨1,1,1,(⟨0,0,0⟩ : SElem),(⟨#[97]⟩ : ByteArray),([] : List (SElem)),0,0,0⟩ : SOp) [.int .i64 1, .int .i64 1, .int .i64 1, .int .i64 0, .int .i64 0, .int .i64 0, .string (⟨#[97]⟩ : ByteArray), .slice none 0 0, .int .i64 0, .int .i64 0, .int .i64 0] from (kOp_mkM _ _ _ (⟨1,1,1,(⟨0,0,0⟩ : SElem),(⟨#[97]⟩ : ByteArray),([] : List (SElem)),0,0,0⟩ : SOp) (Kd.R_nil _ _ _ _ _))) rfl (Reps.front (show Kd.M kOp _ _ _ (⟨1,2,2,(⟨0,0,0⟩ : SElem),(⟨#[]⟩ : ByteArray),([] : List (SElem)),1,1,0⟩ : SOp) [.int .i64 1, .int .i64 2, .int .i64 2, .int .i64 0, .int .i64 0, .int .i64 0, .string (⟨#[]⟩ : ByteArray), .slice none 0 0, .int .i64 1, .int .i64 1, .int .i64 0] from (kOp_mkM _ _ _ (⟨1,2,2,(⟨0,0,0⟩ : SElem),(⟨#[]⟩ : ByteArray),([] : List (SElem)),1,1,0⟩ : SOp) (Kd.R_nil _ _ _ _ _))) rfl (Reps.none _ _) rfl) rfl)); intro v225 w49 ho50 hb hg_ hnew_; clear hg_ hnew_; (first | rw [← Ny224.out] at ho50 | (simp only [Int.reduceToNat] at ho50; rw [← Ny224.out] at ho50)); have HO226:=Aside0.mk (Kd.S_lower ho50 (below_size (bw HB))); replace HB:=bs HB hb; clear hb ho50; obtain ⟨Ao52,co52,eo52⟩:=Kd.S_slice HO226.out; subst eo52; have q51 : (1 : Int) ≤ ((y224.length : Int) : Int):=od; obtain ⟨i051,hi051,_,hsz51,_⟩:=info_parts info38; have hroom51 : y224.length ≤ co52:=(Kd.S_reads' HO226.out).2.1; have hC51 : Kd.C kOp _ Ao52 y224.length y224:=(Kd.S_reads' HO226.out).2.2; have hcut51:=cut_to (P:=Try.prog) 24 38 .i64 Try.underlying24 hi051 Ao52 y224.length co52 1 (by omega) q51 hroom51; have hr51:=Kd.C_take (m:=1) hC51 (by omega); have hy51 : y227.length = (1 : Int).toNat:=(by rw [Ny227.out,List.length_take]; omega); rw [← Ny227.out] at hr51; rw [← hy51] at hcut51; have HR230:=Aside0.mk hr51; have HC230:=Aside0.mk (show y227.length ≤ co52 from by omega); clear hr51 hC51 hroom51 hi051 hsz51; have KY51:=Aside0.mk hy51; clear hy51; have KL51:=Aside0.mk (show 1 ≤ y224.length from by omega); replace q51:=eq_true q51) | ((with_reducible refine gate_callee (f:=7) rfl ?_); refine gl (some 18) Try.func7 #[.slice Ao52 y227.length co52] (h := ?_); (with_reducible refine (doc_Text.calls _ _ y227 t231 t232 _ ?side1 ?side2 A3.out).mono ?_); (case side1 => repeat (first | exact (ck HR230) | (with_reducible refine Kd.C_alloc ?_ _) | (with_reducible refine Kd.C_drewN ?_ _) | (with_reducible refine Kd.C_drew ?_))); (case side2 => exact HC230.out); rintro e w53 ⟨rfl,hb⟩; refine ⟨_,rfl, ?_⟩; replace HO226:=sb HO226 hb; replace HR230:=Aside0.mk (Kd.C_below (ck HR230) hb); replace HB:=bs HB hb; clear hb) | ((with_reducible refine gate_callee (f:=7) rfl ?_); refine gl (some 23) Try.func7 #[.slice Ao52 y224.length co52] (h := ?_); (with_reducible refine (doc_Text.calls _ _ y224 t233 t234 _ ?side1 ?side2 A4.out).mono ?_); (case side1 => exact cs HO226); (case side2 => exact (Kd.S_reads' HO226.out).2.1); rintro e w54 ⟨rfl,hb⟩; refine ⟨_,rfl, ?_⟩; replace HO226:=sb HO226 hb; replace HR230:=Aside0.mk (Kd.C_below (ck HR230) hb); replace HB:=bs HB hb; clear hb) | ((with_reducible refine gate_callee (f:=8) rfl ?_); refine gl (some 27) Try.func8 #[.int .i64 t223] (h := ?_); (with_reducible refine (w6_num.calls t223 t235 _ A5.out).mono ?_); rintro e w' ⟨rfl,⟨nd,rfl⟩⟩; refine ⟨_,rfl, ?_⟩))
  go_ret
  exact ⟨re,bw HB⟩
 rw [if_pos c6] at H
 obtain ⟨c6b0,c6b1⟩:=bT c6
 clear c6
 obtain ⟨t236,A7,H⟩:=bE H
 by_cases c8 : t236 = 0; rotate_left
 ·rw [if_neg c8] at H
  obtain ⟨c8b0,c8b1⟩:=bF c8
  obtain rfl:=Option.some.inj H
  go_enter Try.func14,Try.ntmps14
  go_wp2_with (first | ((with_reducible refine gate_callee (f:=7) rfl ?_); refine gl (some 9) Try.func7 #[.slice none 0 0] (h := ?_); (refine (doc_Text.calls _ _ ([] : List (SOp)) t222 t223 _ ?side1 ?side2 A1.out).mono ?_); (case side1 => exact Kd.C_nil _ _); (case side2 => exact Nat.le_refl _); rintro e w41 ⟨rfl,hb⟩; refine ⟨_,rfl, ?_⟩; replace HB:=bs HB hb; clear hb) | ((with_reducible refine gate_dst (N:=14) rfl ?_); refine Kd.S_lit kOp _ 38 ?hg (N:=14) ?hd (xs:=([(⟨1,1,1,(⟨0,0,0⟩ : SElem),(⟨#[97]⟩ : ByteArray),([] : List (SElem)),0,0,0⟩ : SOp),(⟨1,2,2,(⟨0,0,0⟩ : SElem),(⟨#[]⟩ : ByteArray),([] : List (SElem)),1,1,0⟩ : SOp)] : List (SOp))) (inner:=[.int .i64 1, .int .i64 1, .int .i64 1, .int .i64 0, .int .i64 0, .int .i64 0, .string (⟨#[97]⟩ : ByteArray), .slice none 0 0, .int .i64 0, .int .i64 0, .int .i64 0, .int .i64 1, .int .i64 2, .int .i64 2, .int .i64 0, .int .i64 0, .int .i64 0, .string (⟨#[]⟩ : ByteArray), .slice none 0 0, .int .i64 1, .int .i64 1, .int .i64 0]) (ok:=fun _ => True) (okp:=fun _ => True) ?hr ?hp (fun _ hk => hk) trivial (Below.refl _ _) (Nat.le_refl _) (by simp) ?_; (case hd => rfl); (case hg => rfl); (case hr => first | (go_simp; done) | (go_simp; rfl)); (case hp => exact (Reps.front (show Kd.M kOp _ _ _ (⟨1,1,1,(⟨0,0,0⟩ : SElem),(⟨#[97]⟩ : ByteArray),([] : List (SElem)),0,0,0⟩ : SOp) [.int .i64 1, .int .i64 1, .int .i64 1, .int .i64 0, .int .i64 0, .int .i64 0, .string (⟨#[97]⟩ : ByteArray), .slice none 0 0, .int .i64 0, .int .i64 0, .int .i64 0] from (kOp_mkM _ _ _ (⟨1,1,1,(⟨0,0,0⟩ : SElem),(⟨#[97]⟩ : ByteArray),([] : List (SElem)),0,0,0⟩ : SOp) (Kd.R_nil _ _ _ _ _))) rfl (Reps.front (show Kd.M kOp _ _ _ (⟨1,2,2,(⟨0,0,0⟩ : SElem),(⟨#[]⟩ : ByteArray),([] : List (SElem)),1,1,0⟩ : SOp) [.int .i64 1, .int .i64 2, .int .i64 2, .int .i64 0, .int .i64 0, .int .i64 0, .string (⟨#[]⟩ : ByteArray), .slice none 0 0, .int .i64 1, .int .i64 1, .int .i64 0] from (kOp_mkM _ _ _ (⟨1,2,2,(⟨0,0,0⟩ : SElem),(⟨#[]⟩ : ByteArray),([] : List (SElem)),1,1,0⟩ : SOp) (Kd.R_nil _ _ _ _ _))) rfl (Reps.none _ _) rfl) rfl)); intro v225 w42 ho43 hb hg_ hnew_; clear hg_ hnew_; (first | rw [← Ny224.out] at ho43 | (simp only [Int.reduceToNat] at ho43; rw [← Ny224.out] at ho43)); have HO226:=Aside0.mk (Kd.S_lower ho43 (below_size (bw HB))); replace HB:=bs HB hb; clear hb ho43; obtain ⟨Ao45,co45,eo45⟩:=Kd.S_slice HO226.out; subst eo45; have q44 : (1 : Int) ≤ ((y224.length : Int) : Int):=od; obtain ⟨i044,hi044,_,hsz44,_⟩:=info_parts info38; have hroom44 : y224.length ≤ co45:=(Kd.S_reads' HO226.out).2.1; have hC44 : Kd.C kOp _ Ao45 y224.length y224:=(Kd.S_reads' HO226.out).2.2; have hcut44:=cut_to (P:=Try.prog) 24 38 .i64 Try.underlying24 hi044 Ao45 y224.length co45 1 (by omega) q44 hroom44; have hr44:=Kd.C_take (m:=1) hC44 (by omega); have hy44 : y227.length = (1 : Int).toNat:=(by rw [Ny227.out,List.length_take]; omega); rw [← Ny227.out] at hr44; rw [← hy44] at hcut44; have HR230:=Aside0.mk hr44; have HC230:=Aside0.mk (show y227.length ≤ co45 from by omega); clear hr44 hC44 hroom44 hi044 hsz44; have KY44:=Aside0.mk hy44; clear hy44; have KL44:=Aside0.mk (show 1 ≤ y224.length from by omega); replace q44:=eq_true q44) | ((with_reducible refine gate_callee (f:=7) rfl ?_); refine gl (some 18) Try.func7 #[.slice Ao45 y227.length co45] (h := ?_); (with_reducible refine (doc_Text.calls _ _ y227 t231 t232 _ ?side1 ?side2 A3.out).mono ?_); (case side1 => repeat (first | exact (ck HR230) | (with_reducible refine Kd.C_alloc ?_ _) | (with_reducible refine Kd.C_drewN ?_ _) | (with_reducible refine Kd.C_drew ?_))); (case side2 => exact HC230.out); rintro e w46 ⟨rfl,hb⟩; refine ⟨_,rfl, ?_⟩; replace HO226:=sb HO226 hb; replace HR230:=Aside0.mk (Kd.C_below (ck HR230) hb); replace HB:=bs HB hb; clear hb) | ((with_reducible refine gate_callee (f:=7) rfl ?_); refine gl (some 23) Try.func7 #[.slice Ao45 y224.length co45] (h := ?_); (with_reducible refine (doc_Text.calls _ _ y224 t233 t234 _ ?side1 ?side2 A4.out).mono ?_); (case side1 => exact cs HO226); (case side2 => exact (Kd.S_reads' HO226.out).2.1); rintro e w47 ⟨rfl,hb⟩; refine ⟨_,rfl, ?_⟩; replace HO226:=sb HO226 hb; replace HR230:=Aside0.mk (Kd.C_below (ck HR230) hb); replace HB:=bs HB hb; clear hb) | ((with_reducible refine gate_callee (f:=8) rfl ?_); refine gl (some 27) Try.func8 #[.int .i64 t223] (h := ?_); (with_reducible refine (w6_num.calls t223 t235 _ A5.out).mono ?_); rintro e w' ⟨rfl,⟨nd,rfl⟩⟩; refine ⟨_,rfl, ?_⟩) | (go_at_call 8; (with_reducible refine (w6_num.calls t232 t236 _ A7.out).mono ?_); rintro e w' ⟨rfl,⟨nd,rfl⟩⟩))
  go_ret
  exact ⟨re,bw HB⟩
 rw [if_pos c8] at H
 obtain ⟨c8b0,c8b1⟩:=bT c8
 clear c8
 obtain ⟨t237,A9,H⟩:=bE H
 by_cases c10 : t237 = 0; rotate_left
 ·rw [if_neg c10] at H
  obtain ⟨c10b0,c10b1⟩:=bF c10
  obtain rfl:=Option.some.inj H
  go_enter Try.func14,Try.ntmps14
  go_wp2_with (first | ((with_reducible refine gate_callee (f:=7) rfl ?_); refine gl (some 9) Try.func7 #[.slice none 0 0] (h := ?_); (refine (doc_Text.calls _ _ ([] : List (SOp)) t222 t223 _ ?side1 ?side2 A1.out).mono ?_); (case side1 => exact Kd.C_nil _ _); (case side2 => exact Nat.le_refl _); rintro e w34 ⟨rfl,hb⟩; refine ⟨_,rfl, ?_⟩; replace HB:=bs HB hb; clear hb) | ((with_reducible refine gate_dst (N:=14) rfl ?_); refine Kd.S_lit kOp _ 38 ?hg (N:=14) ?hd (xs:=([(⟨1,1,1,(⟨0,0,0⟩ : SElem),(⟨#[97]⟩ : ByteArray),([] : List (SElem)),0,0,0⟩ : SOp),(⟨1,2,2,(⟨0,0,0⟩ : SElem),(⟨#[]⟩ : ByteArray),([] : List (SElem)),1,1,0⟩ : SOp)] : List (SOp))) (inner:=[.int .i64 1, .int .i64 1, .int .i64 1, .int .i64 0, .int .i64 0, .int .i64 0, .string (⟨#[97]⟩ : ByteArray), .slice none 0 0, .int .i64 0, .int .i64 0, .int .i64 0, .int .i64 1, .int .i64 2, .int .i64 2, .int .i64 0, .int .i64 0, .int .i64 0, .string (⟨#[]⟩ : ByteArray), .slice none 0 0, .int .i64 1, .int .i64 1, .int .i64 0]) (ok:=fun _ => True) (okp:=fun _ => True) ?hr ?hp (fun _ hk => hk) trivial (Below.refl _ _) (Nat.le_refl _) (by simp) ?_; (case hd => rfl); (case hg => rfl); (case hr => first | (go_simp; done) | (go_simp; rfl)); (case hp => exact (Reps.front (show Kd.M kOp _ _ _ (⟨1,1,1,(⟨0,0,0⟩ : SElem),(⟨#[97]⟩ : ByteArray),([] : List (SElem)),0,0,0⟩ : SOp) [.int .i64 1, .int .i64 1, .int .i64 1, .int .i64 0, .int .i64 0, .int .i64 0, .string (⟨#[97]⟩ : ByteArray), .slice none 0 0, .int .i64 0, .int .i64 0, .int .i64 0] from (kOp_mkM _ _ _ (⟨1,1,1,(⟨0,0,0⟩ : SElem),(⟨#[97]⟩ : ByteArray),([] : List (SElem)),0,0,0⟩ : SOp) (Kd.R_nil _ _ _ _ _))) rfl (Reps.front (show Kd.M kOp _ _ _ (⟨1,2,2,(⟨0,0,0⟩ : SElem),(⟨#[]⟩ : ByteArray),([] : List (SElem)),1,1,0⟩ : SOp) [.int .i64 1, .int .i64 2, .int .i64 2, .int .i64 0, .int .i64 0, .int .i64 0, .string (⟨#[]⟩ : ByteArray), .slice none 0 0, .int .i64 1, .int .i64 1, .int .i64 0] from (kOp_mkM _ _ _ (⟨1,2,2,(⟨0,0,0⟩ : SElem),(⟨#[]⟩ : ByteArray),([] : List (SElem)),1,1,0⟩ : SOp) (Kd.R_nil _ _ _ _ _))) rfl (Reps.none _ _) rfl) rfl)); intro v225 w35 ho36 hb hg_ hnew_; clear hg_ hnew_; (first | rw [← Ny224.out] at ho36 | (simp only [Int.reduceToNat] at ho36; rw [← Ny224.out] at ho36)); have HO226:=Aside0.mk (Kd.S_lower ho36 (below_size (bw HB))); replace HB:=bs HB hb; clear hb ho36; obtain ⟨Ao38,co38,eo38⟩:=Kd.S_slice HO226.out; subst eo38; have q37 : (1 : Int) ≤ ((y224.length : Int) : Int):=od; obtain ⟨i037,hi037,_,hsz37,_⟩:=info_parts info38; have hroom37 : y224.length ≤ co38:=(Kd.S_reads' HO226.out).2.1; have hC37 : Kd.C kOp _ Ao38 y224.length y224:=(Kd.S_reads' HO226.out).2.2; have hcut37:=cut_to (P:=Try.prog) 24 38 .i64 Try.underlying24 hi037 Ao38 y224.length co38 1 (by omega) q37 hroom37; have hr37:=Kd.C_take (m:=1) hC37 (by omega); have hy37 : y227.length = (1 : Int).toNat:=(by rw [Ny227.out,List.length_take]; omega); rw [← Ny227.out] at hr37; rw [← hy37] at hcut37; have HR230:=Aside0.mk hr37; have HC230:=Aside0.mk (show y227.length ≤ co38 from by omega); clear hr37 hC37 hroom37 hi037 hsz37; have KY37:=Aside0.mk hy37; clear hy37; have KL37:=Aside0.mk (show 1 ≤ y224.length from by omega); replace q37:=eq_true q37) | ((with_reducible refine gate_callee (f:=7) rfl ?_); refine gl (some 18) Try.func7 #[.slice Ao38 y227.length co38] (h := ?_); (with_reducible refine (doc_Text.calls _ _ y227 t231 t232 _ ?side1 ?side2 A3.out).mono ?_); (case side1 => repeat (first | exact (ck HR230) | (with_reducible refine Kd.C_alloc ?_ _) | (with_reducible refine Kd.C_drewN ?_ _) | (with_reducible refine Kd.C_drew ?_))); (case side2 => exact HC230.out); rintro e w39 ⟨rfl,hb⟩; refine ⟨_,rfl, ?_⟩; replace HO226:=sb HO226 hb; replace HR230:=Aside0.mk (Kd.C_below (ck HR230) hb); replace HB:=bs HB hb; clear hb) | ((with_reducible refine gate_callee (f:=7) rfl ?_); refine gl (some 23) Try.func7 #[.slice Ao38 y224.length co38] (h := ?_); (with_reducible refine (doc_Text.calls _ _ y224 t233 t234 _ ?side1 ?side2 A4.out).mono ?_); (case side1 => exact cs HO226); (case side2 => exact (Kd.S_reads' HO226.out).2.1); rintro e w40 ⟨rfl,hb⟩; refine ⟨_,rfl, ?_⟩; replace HO226:=sb HO226 hb; replace HR230:=Aside0.mk (Kd.C_below (ck HR230) hb); replace HB:=bs HB hb; clear hb) | ((with_reducible refine gate_callee (f:=8) rfl ?_); refine gl (some 27) Try.func8 #[.int .i64 t223] (h := ?_); (with_reducible refine (w6_num.calls t223 t235 _ A5.out).mono ?_); rintro e w' ⟨rfl,⟨nd,rfl⟩⟩; refine ⟨_,rfl, ?_⟩) | (go_at_call 8; (with_reducible refine (w6_num.calls t232 t236 _ A7.out).mono ?_); rintro e w' ⟨rfl,⟨nd,rfl⟩⟩) | (go_at_call 8; (with_reducible refine (w6_num.calls t234 t237 _ A9.out).mono ?_); rintro e w' ⟨rfl,⟨nd,rfl⟩⟩))
  go_ret
  exact ⟨re,bw HB⟩
 rw [if_pos c10] at H
 obtain ⟨c10b0,c10b1⟩:=bT c10
 clear c10
 by_cases c11 : t222.toList = ([] : List UInt8); rotate_left
 ·rw [if_neg c11] at H
  obtain ⟨c11b0,c11b1⟩:=bF c11
  obtain rfl:=Option.some.inj H
  go_enter Try.func14,Try.ntmps14
  go_wp2_with (first | ((with_reducible refine gate_callee (f:=7) rfl ?_); refine gl (some 9) Try.func7 #[.slice none 0 0] (h := ?_); (refine (doc_Text.calls _ _ ([] : List (SOp)) t222 t223 _ ?side1 ?side2 A1.out).mono ?_); (case side1 => exact Kd.C_nil _ _); (case side2 => exact Nat.le_refl _); rintro e w27 ⟨rfl,hb⟩; refine ⟨_,rfl, ?_⟩; replace HB:=bs HB hb; clear hb) | ((with_reducible refine gate_dst (N:=14) rfl ?_); refine Kd.S_lit kOp _ 38 ?hg (N:=14) ?hd (xs:=([(⟨1,1,1,(⟨0,0,0⟩ : SElem),(⟨#[97]⟩ : ByteArray),([] : List (SElem)),0,0,0⟩ : SOp),(⟨1,2,2,(⟨0,0,0⟩ : SElem),(⟨#[]⟩ : ByteArray),([] : List (SElem)),1,1,0⟩ : SOp)] : List (SOp))) (inner:=[.int .i64 1, .int .i64 1, .int .i64 1, .int .i64 0, .int .i64 0, .int .i64 0, .string (⟨#[97]⟩ : ByteArray), .slice none 0 0, .int .i64 0, .int .i64 0, .int .i64 0, .int .i64 1, .int .i64 2, .int .i64 2, .int .i64 0, .int .i64 0, .int .i64 0, .string (⟨#[]⟩ : ByteArray), .slice none 0 0, .int .i64 1, .int .i64 1, .int .i64 0]) (ok:=fun _ => True) (okp:=fun _ => True) ?hr ?hp (fun _ hk => hk) trivial (Below.refl _ _) (Nat.le_refl _) (by simp) ?_; (case hd => rfl); (case hg => rfl); (case hr => first | (go_simp; done) | (go_simp; rfl)); (case hp => exact (Reps.front (show Kd.M kOp _ _ _ (⟨1,1,1,(⟨0,0,0⟩ : SElem),(⟨#[97]⟩ : ByteArray),([] : List (SElem)),0,0,0⟩ : SOp) [.int .i64 1, .int .i64 1, .int .i64 1, .int .i64 0, .int .i64 0, .int .i64 0, .string (⟨#[97]⟩ : ByteArray), .slice none 0 0, .int .i64 0, .int .i64 0, .int .i64 0] from (kOp_mkM _ _ _ (⟨1,1,1,(⟨0,0,0⟩ : SElem),(⟨#[97]⟩ : ByteArray),([] : List (SElem)),0,0,0⟩ : SOp) (Kd.R_nil _ _ _ _ _))) rfl (Reps.front (show Kd.M kOp _ _ _ (⟨1,2,2,(⟨0,0,0⟩ : SElem),(⟨#[]⟩ : ByteArray),([] : List (SElem)),1,1,0⟩ : SOp) [.int .i64 1, .int .i64 2, .int .i64 2, .int .i64 0, .int .i64 0, .int .i64 0, .string (⟨#[]⟩ : ByteArray), .slice none 0 0, .int .i64 1, .int .i64 1, .int .i64 0] from (kOp_mkM _ _ _ (⟨1,2,2,(⟨0,0,0⟩ : SElem),(⟨#[]⟩ : ByteArray),([] : List (SElem)),1,1,0⟩ : SOp) (Kd.R_nil _ _ _ _ _))) rfl (Reps.none _ _) rfl) rfl)); intro v225 w28 ho29 hb hg_ hnew_; clear hg_ hnew_; (first | rw [← Ny224.out] at ho29 | (simp only [Int.reduceToNat] at ho29; rw [← Ny224.out] at ho29)); have HO226:=Aside0.mk (Kd.S_lower ho29 (below_size (bw HB))); replace HB:=bs HB hb; clear hb ho29; obtain ⟨Ao31,co31,eo31⟩:=Kd.S_slice HO226.out; subst eo31; have q30 : (1 : Int) ≤ ((y224.length : Int) : Int):=od; obtain ⟨i030,hi030,_,hsz30,_⟩:=info_parts info38; have hroom30 : y224.length ≤ co31:=(Kd.S_reads' HO226.out).2.1; have hC30 : Kd.C kOp _ Ao31 y224.length y224:=(Kd.S_reads' HO226.out).2.2; have hcut30:=cut_to (P:=Try.prog) 24 38 .i64 Try.underlying24 hi030 Ao31 y224.length co31 1 (by omega) q30 hroom30; have hr30:=Kd.C_take (m:=1) hC30 (by omega); have hy30 : y227.length = (1 : Int).toNat:=(by rw [Ny227.out,List.length_take]; omega); rw [← Ny227.out] at hr30; rw [← hy30] at hcut30; have HR230:=Aside0.mk hr30; have HC230:=Aside0.mk (show y227.length ≤ co31 from by omega); clear hr30 hC30 hroom30 hi030 hsz30; have KY30:=Aside0.mk hy30; clear hy30; have KL30:=Aside0.mk (show 1 ≤ y224.length from by omega); replace q30:=eq_true q30) | ((with_reducible refine gate_callee (f:=7) rfl ?_); refine gl (some 18) Try.func7 #[.slice Ao31 y227.length co31] (h := ?_); (with_reducible refine (doc_Text.calls _ _ y227 t231 t232 _ ?side1 ?side2 A3.out).mono ?_); (case side1 => repeat (first | exact (ck HR230) | (with_reducible refine Kd.C_alloc ?_ _) | (with_reducible refine Kd.C_drewN ?_ _) | (with_reducible refine Kd.C_drew ?_))); (case side2 => exact HC230.out); rintro e w32 ⟨rfl,hb⟩; refine ⟨_,rfl, ?_⟩; replace HO226:=sb HO226 hb; replace HR230:=Aside0.mk (Kd.C_below (ck HR230) hb); replace HB:=bs HB hb; clear hb) | ((with_reducible refine gate_callee (f:=7) rfl ?_); refine gl (some 23) Try.func7 #[.slice Ao31 y224.length co31] (h := ?_); (with_reducible refine (doc_Text.calls _ _ y224 t233 t234 _ ?side1 ?side2 A4.out).mono ?_); (case side1 => exact cs HO226); (case side2 => exact (Kd.S_reads' HO226.out).2.1); rintro e w33 ⟨rfl,hb⟩; refine ⟨_,rfl, ?_⟩; replace HO226:=sb HO226 hb; replace HR230:=Aside0.mk (Kd.C_below (ck HR230) hb); replace HB:=bs HB hb; clear hb) | ((with_reducible refine gate_callee (f:=8) rfl ?_); refine gl (some 27) Try.func8 #[.int .i64 t223] (h := ?_); (with_reducible refine (w6_num.calls t223 t235 _ A5.out).mono ?_); rintro e w' ⟨rfl,⟨nd,rfl⟩⟩; refine ⟨_,rfl, ?_⟩) | (go_at_call 8; (with_reducible refine (w6_num.calls t232 t236 _ A7.out).mono ?_); rintro e w' ⟨rfl,⟨nd,rfl⟩⟩) | (go_at_call 8; (with_reducible refine (w6_num.calls t234 t237 _ A9.out).mono ?_); rintro e w' ⟨rfl,⟨nd,rfl⟩⟩))
  go_ret
  exact ⟨re,bw HB⟩
 rw [if_pos c11] at H
 obtain ⟨c11b0,c11b1⟩:=bT c11
 clear c11
 by_cases c12 : t231.toList = ([97] : List UInt8)
 ·rw [if_pos c12] at H
  obtain ⟨c12b0,c12b1⟩:=bT c12
  clear c12
  obtain rfl:=Option.some.inj H
  go_enter Try.func14,Try.ntmps14
  go_wp2_with (first | ((with_reducible refine gate_callee (f:=7) rfl ?_); refine gl (some 9) Try.func7 #[.slice none 0 0] (h := ?_); (refine (doc_Text.calls _ _ ([] : List (SOp)) t222 t223 _ ?side1 ?side2 A1.out).mono ?_); (case side1 => exact Kd.C_nil _ _); (case side2 => exact Nat.le_refl _); rintro e w13 ⟨rfl,hb⟩; refine ⟨_,rfl, ?_⟩; replace HB:=bs HB hb; clear hb) | ((with_reducible refine gate_dst (N:=14) rfl ?_); refine Kd.S_lit kOp _ 38 ?hg (N:=14) ?hd (xs:=([(⟨1,1,1,(⟨0,0,0⟩ : SElem),(⟨#[97]⟩ : ByteArray),([] : List (SElem)),0,0,0⟩ : SOp),(⟨1,2,2,(⟨0,0,0⟩ : SElem),(⟨#[]⟩ : ByteArray),([] : List (SElem)),1,1,0⟩ : SOp)] : List (SOp))) (inner:=[.int .i64 1, .int .i64 1, .int .i64 1, .int .i64 0, .int .i64 0, .int .i64 0, .string (⟨#[97]⟩ : ByteArray), .slice none 0 0, .int .i64 0, .int .i64 0, .int .i64 0, .int .i64 1, .int .i64 2, .int .i64 2, .int .i64 0, .int .i64 0, .int .i64 0, .string (⟨#[]⟩ : ByteArray), .slice none 0 0, .int .i64 1, .int .i64 1, .int .i64 0]) (ok:=fun _ => True) (okp:=fun _ => True) ?hr ?hp (fun _ hk => hk) trivial (Below.refl _ _) (Nat.le_refl _) (by simp) ?_; (case hd => rfl); (case hg => rfl); (case hr => first | (go_simp; done) | (go_simp; rfl)); (case hp => exact (Reps.front (show Kd.M kOp _ _ _ (⟨1,1,1,(⟨0,0,0⟩ : SElem),(⟨#[97]⟩ : ByteArray),([] : List (SElem)),0,0,0⟩ : SOp) [.int .i64 1, .int .i64 1, .int .i64 1, .int .i64 0, .int .i64 0, .int .i64 0, .string (⟨#[97]⟩ : ByteArray), .slice none 0 0, .int .i64 0, .int .i64 0, .int .i64 0] from (kOp_mkM _ _ _ (⟨1,1,1,(⟨0,0,0⟩ : SElem),(⟨#[97]⟩ : ByteArray),([] : List (SElem)),0,0,0⟩ : SOp) (Kd.R_nil _ _ _ _ _))) rfl (Reps.front (show Kd.M kOp _ _ _ (⟨1,2,2,(⟨0,0,0⟩ : SElem),(⟨#[]⟩ : ByteArray),([] : List (SElem)),1,1,0⟩ : SOp) [.int .i64 1, .int .i64 2, .int .i64 2, .int .i64 0, .int .i64 0, .int .i64 0, .string (⟨#[]⟩ : ByteArray), .slice none 0 0, .int .i64 1, .int .i64 1, .int .i64 0] from (kOp_mkM _ _ _ (⟨1,2,2,(⟨0,0,0⟩ : SElem),(⟨#[]⟩ : ByteArray),([] : List (SElem)),1,1,0⟩ : SOp) (Kd.R_nil _ _ _ _ _))) rfl (Reps.none _ _) rfl) rfl)); intro v225 w14 ho15 hb hg_ hnew_; clear hg_ hnew_; (first | rw [← Ny224.out] at ho15 | (simp only [Int.reduceToNat] at ho15; rw [← Ny224.out] at ho15)); have HO226:=Aside0.mk (Kd.S_lower ho15 (below_size (bw HB))); replace HB:=bs HB hb; clear hb ho15; obtain ⟨Ao17,co17,eo17⟩:=Kd.S_slice HO226.out; subst eo17; have q16 : (1 : Int) ≤ ((y224.length : Int) : Int):=od; obtain ⟨i016,hi016,_,hsz16,_⟩:=info_parts info38; have hroom16 : y224.length ≤ co17:=(Kd.S_reads' HO226.out).2.1; have hC16 : Kd.C kOp _ Ao17 y224.length y224:=(Kd.S_reads' HO226.out).2.2; have hcut16:=cut_to (P:=Try.prog) 24 38 .i64 Try.underlying24 hi016 Ao17 y224.length co17 1 (by omega) q16 hroom16; have hr16:=Kd.C_take (m:=1) hC16 (by omega); have hy16 : y227.length = (1 : Int).toNat:=(by rw [Ny227.out,List.length_take]; omega); rw [← Ny227.out] at hr16; rw [← hy16] at hcut16; have HR230:=Aside0.mk hr16; have HC230:=Aside0.mk (show y227.length ≤ co17 from by omega); clear hr16 hC16 hroom16 hi016 hsz16; have KY16:=Aside0.mk hy16; clear hy16; have KL16:=Aside0.mk (show 1 ≤ y224.length from by omega); replace q16:=eq_true q16) | ((with_reducible refine gate_callee (f:=7) rfl ?_); refine gl (some 18) Try.func7 #[.slice Ao17 y227.length co17] (h := ?_); (with_reducible refine (doc_Text.calls _ _ y227 t231 t232 _ ?side1 ?side2 A3.out).mono ?_); (case side1 => repeat (first | exact (ck HR230) | (with_reducible refine Kd.C_alloc ?_ _) | (with_reducible refine Kd.C_drewN ?_ _) | (with_reducible refine Kd.C_drew ?_))); (case side2 => exact HC230.out); rintro e w18 ⟨rfl,hb⟩; refine ⟨_,rfl, ?_⟩; replace HO226:=sb HO226 hb; replace HR230:=Aside0.mk (Kd.C_below (ck HR230) hb); replace HB:=bs HB hb; clear hb) | ((with_reducible refine gate_callee (f:=7) rfl ?_); refine gl (some 23) Try.func7 #[.slice Ao17 y224.length co17] (h := ?_); (with_reducible refine (doc_Text.calls _ _ y224 t233 t234 _ ?side1 ?side2 A4.out).mono ?_); (case side1 => exact cs HO226); (case side2 => exact (Kd.S_reads' HO226.out).2.1); rintro e w19 ⟨rfl,hb⟩; refine ⟨_,rfl, ?_⟩; replace HO226:=sb HO226 hb; replace HR230:=Aside0.mk (Kd.C_below (ck HR230) hb); replace HB:=bs HB hb; clear hb) | ((with_reducible refine gate_callee (f:=8) rfl ?_); refine gl (some 27) Try.func8 #[.int .i64 t223] (h := ?_); (with_reducible refine (w6_num.calls t223 t235 _ A5.out).mono ?_); rintro e w' ⟨rfl,⟨nd,rfl⟩⟩; refine ⟨_,rfl, ?_⟩) | (go_at_call 8; (with_reducible refine (w6_num.calls t232 t236 _ A7.out).mono ?_); rintro e w' ⟨rfl,⟨nd,rfl⟩⟩) | (go_at_call 8; (with_reducible refine (w6_num.calls t234 t237 _ A9.out).mono ?_); rintro e w' ⟨rfl,⟨nd,rfl⟩⟩))
  go_ret
  exact ⟨re,bw HB⟩
 rw [if_neg c12] at H
 obtain ⟨c12b0,c12b1⟩:=bF c12
 obtain rfl:=Option.some.inj H
 go_enter Try.func14,Try.ntmps14
 go_wp2_with (first | ((with_reducible refine gate_callee (f:=7) rfl ?_); refine gl (some 9) Try.func7 #[.slice none 0 0] (h := ?_); (refine (doc_Text.calls _ _ ([] : List (SOp)) t222 t223 _ ?side1 ?side2 A1.out).mono ?_); (case side1 => exact Kd.C_nil _ _); (case side2 => exact Nat.le_refl _); rintro e w20 ⟨rfl,hb⟩; refine ⟨_,rfl, ?_⟩; replace HB:=bs HB hb; clear hb) | ((with_reducible refine gate_dst (N:=14) rfl ?_); refine Kd.S_lit kOp _ 38 ?hg (N:=14) ?hd (xs:=([(⟨1,1,1,(⟨0,0,0⟩ : SElem),(⟨#[97]⟩ : ByteArray),([] : List (SElem)),0,0,0⟩ : SOp),(⟨1,2,2,(⟨0,0,0⟩ : SElem),(⟨#[]⟩ : ByteArray),([] : List (SElem)),1,1,0⟩ : SOp)] : List (SOp))) (inner:=[.int .i64 1, .int .i64 1, .int .i64 1, .int .i64 0, .int .i64 0, .int .i64 0, .string (⟨#[97]⟩ : ByteArray), .slice none 0 0, .int .i64 0, .int .i64 0, .int .i64 0, .int .i64 1, .int .i64 2, .int .i64 2, .int .i64 0, .int .i64 0, .int .i64 0, .string (⟨#[]⟩ : ByteArray), .slice none 0 0, .int .i64 1, .int .i64 1, .int .i64 0]) (ok:=fun _ => True) (okp:=fun _ => True) ?hr ?hp (fun _ hk => hk) trivial (Below.refl _ _) (Nat.le_refl _) (by simp) ?_; (case hd => rfl); (case hg => rfl); (case hr => first | (go_simp; done) | (go_simp; rfl)); (case hp => exact (Reps.front (show Kd.M kOp _ _ _ (⟨1,1,1,(⟨0,0,0⟩ : SElem),(⟨#[97]⟩ : ByteArray),([] : List (SElem)),0,0,0⟩ : SOp) [.int .i64 1, .int .i64 1, .int .i64 1, .int .i64 0, .int .i64 0, .int .i64 0, .string (⟨#[97]⟩ : ByteArray), .slice none 0 0, .int .i64 0, .int .i64 0, .int .i64 0] from (kOp_mkM _ _ _ (⟨1,1,1,(⟨0,0,0⟩ : SElem),(⟨#[97]⟩ : ByteArray),([] : List (SElem)),0,0,0⟩ : SOp) (Kd.R_nil _ _ _ _ _))) rfl (Reps.front (show Kd.M kOp _ _ _ (⟨1,2,2,(⟨0,0,0⟩ : SElem),(⟨#[]⟩ : ByteArray),([] : List (SElem)),1,1,0⟩ : SOp) [.int .i64 1, .int .i64 2, .int .i64 2, .int .i64 0, .int .i64 0, .int .i64 0, .string (⟨#[]⟩ : ByteArray), .slice none 0 0, .int .i64 1, .int .i64 1, .int .i64 0] from (kOp_mkM _ _ _ (⟨1,2,2,(⟨0,0,0⟩ : SElem),(⟨#[]⟩ : ByteArray),([] : List (SElem)),1,1,0⟩ : SOp) (Kd.R_nil _ _ _ _ _))) rfl (Reps.none _ _) rfl) rfl)); intro v225 w21 ho22 hb hg_ hnew_; clear hg_ hnew_; (first | rw [← Ny224.out] at ho22 | (simp only [Int.reduceToNat] at ho22; rw [← Ny224.out] at ho22)); have HO226:=Aside0.mk (Kd.S_lower ho22 (below_size (bw HB))); replace HB:=bs HB hb; clear hb ho22; obtain ⟨Ao24,co24,eo24⟩:=Kd.S_slice HO226.out; subst eo24; have q23 : (1 : Int) ≤ ((y224.length : Int) : Int):=od; obtain ⟨i023,hi023,_,hsz23,_⟩:=info_parts info38; have hroom23 : y224.length ≤ co24:=(Kd.S_reads' HO226.out).2.1; have hC23 : Kd.C kOp _ Ao24 y224.length y224:=(Kd.S_reads' HO226.out).2.2; have hcut23:=cut_to (P:=Try.prog) 24 38 .i64 Try.underlying24 hi023 Ao24 y224.length co24 1 (by omega) q23 hroom23; have hr23:=Kd.C_take (m:=1) hC23 (by omega); have hy23 : y227.length = (1 : Int).toNat:=(by rw [Ny227.out,List.length_take]; omega); rw [← Ny227.out] at hr23; rw [← hy23] at hcut23; have HR230:=Aside0.mk hr23; have HC230:=Aside0.mk (show y227.length ≤ co24 from by omega); clear hr23 hC23 hroom23 hi023 hsz23; have KY23:=Aside0.mk hy23; clear hy23; have KL23:=Aside0.mk (show 1 ≤ y224.length from by omega); replace q23:=eq_true q23) | ((with_reducible refine gate_callee (f:=7) rfl ?_); refine gl (some 18) Try.func7 #[.slice Ao24 y227.length co24] (h := ?_); (with_reducible refine (doc_Text.calls _ _ y227 t231 t232 _ ?side1 ?side2 A3.out).mono ?_); (case side1 => repeat (first | exact (ck HR230) | (with_reducible refine Kd.C_alloc ?_ _) | (with_reducible refine Kd.C_drewN ?_ _) | (with_reducible refine Kd.C_drew ?_))); (case side2 => exact HC230.out); rintro e w25 ⟨rfl,hb⟩; refine ⟨_,rfl, ?_⟩; replace HO226:=sb HO226 hb; replace HR230:=Aside0.mk (Kd.C_below (ck HR230) hb); replace HB:=bs HB hb; clear hb) | ((with_reducible refine gate_callee (f:=7) rfl ?_); refine gl (some 23) Try.func7 #[.slice Ao24 y224.length co24] (h := ?_); (with_reducible refine (doc_Text.calls _ _ y224 t233 t234 _ ?side1 ?side2 A4.out).mono ?_); (case side1 => exact cs HO226); (case side2 => exact (Kd.S_reads' HO226.out).2.1); rintro e w26 ⟨rfl,hb⟩; refine ⟨_,rfl, ?_⟩; replace HO226:=sb HO226 hb; replace HR230:=Aside0.mk (Kd.C_below (ck HR230) hb); replace HB:=bs HB hb; clear hb) | ((with_reducible refine gate_callee (f:=8) rfl ?_); refine gl (some 27) Try.func8 #[.int .i64 t223] (h := ?_); (with_reducible refine (w6_num.calls t223 t235 _ A5.out).mono ?_); rintro e w' ⟨rfl,⟨nd,rfl⟩⟩; refine ⟨_,rfl, ?_⟩) | (go_at_call 8; (with_reducible refine (w6_num.calls t232 t236 _ A7.out).mono ?_); rintro e w' ⟨rfl,⟨nd,rfl⟩⟩) | (go_at_call 8; (with_reducible refine (w6_num.calls t234 t237 _ A9.out).mono ?_); rintro e w' ⟨rfl,⟨nd,rfl⟩⟩))
 go_ret
 exact ⟨re,bw HB⟩
end Go.Proofs.Ytonoaflfobajcaa.L
end
