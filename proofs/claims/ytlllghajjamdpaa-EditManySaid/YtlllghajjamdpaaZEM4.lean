/- Part 4 of the proof that for every argument the law EditMany answers true: many edits, one behind the other, by sites in turn, are each a row's next op; the text is as if each had been done to it plainly. -/
import Derived.Test.YtlllghajjamdpaaZEM3
import Derived.Laws.AppendOwn
import Derived.StillTailTactics
import Derived.LoopTactic
import Derived.WalkSpells
import Derived.IntWalk
import Derived.Deep.DeepCutAuto
import Derived.Deep.CutBlock
section
namespace Go.Proofs.Ytlllghajjamdpaa.L
open Go.RowKit Go.Proofs.YtlllghajjamdpaaW.PrintWords Go.Proofs.YtlllghajjamdpaaW.PrintLast Go.Proofs.YtlllghajjamdpaaW.PrintMore
set_option linter.unusedVariables false
set_option linter.unusedSimpArgs false
set_option maxHeartbeats 40000000
set_option maxRecDepth 1000000
section
theorem m_Push (n p : Nat) (w : World) : (method (n + 1) 109 (.pointer (some ⟨p, 0, none⟩)) "Push").run Try.prog w = .ok (103, .pointer (some ⟨p, 0, none⟩)) w := by kernel_rfl
theorem m_Pop (n p : Nat) (w : World) : (method (n + 1) 109 (.pointer (some ⟨p, 0, none⟩)) "Pop").run Try.prog w = .ok (102, .pointer (some ⟨p, 0, none⟩)) w := by kernel_rfl
theorem load_hung (p : Nat) (w : World) (v : Value) (f : Nat) (hc : w.cell? ⟨p,0,none⟩ = some v) : (do let v <- loadVar 110 ⟨p,0,none⟩; pure (f,v) : Sem (FuncId × Value)).run Try.prog w = .ok (f,v) w:=by
 have h : (loadVar 110 ⟨p,0,none⟩).run Try.prog w = (load ⟨p,0,none⟩).run Try.prog w:=by kernel_rfl
 simp [h,hc]
theorem m_Len (n p : Nat) (w : World) (v : Value) (hc : w.cell? ⟨p, 0, none⟩ = some v) : (method (n + 1) 109 (.pointer (some ⟨p, 0, none⟩)) "Len").run Try.prog w = .ok (80, v) w := by
 have h : (method (n + 1) 109 (.pointer (some ⟨p, 0, none⟩)) "Len").run Try.prog w = (do let v ← loadVar 110 ⟨p, 0, none⟩; pure (80, v) : Sem _).run Try.prog w := by kernel_rfl
 exact h.trans (load_hung p w v _ hc)
theorem m_Less (n p : Nat) (w : World) (v : Value) (hc : w.cell? ⟨p, 0, none⟩ = some v) : (method (n + 1) 109 (.pointer (some ⟨p, 0, none⟩)) "Less").run Try.prog w = .ok (101, v) w := by
 have h : (method (n + 1) 109 (.pointer (some ⟨p, 0, none⟩)) "Less").run Try.prog w = (do let v ← loadVar 110 ⟨p, 0, none⟩; pure (101, v) : Sem _).run Try.prog w := by kernel_rfl
 exact h.trans (load_hung p w v _ hc)
theorem m_Swap (n p : Nat) (w : World) (v : Value) (hc : w.cell? ⟨p, 0, none⟩ = some v) : (method (n + 1) 109 (.pointer (some ⟨p, 0, none⟩)) "Swap").run Try.prog w = .ok (104, v) w := by
 have h : (method (n + 1) 109 (.pointer (some ⟨p, 0, none⟩)) "Swap").run Try.prog w = (do let v ← loadVar 110 ⟨p, 0, none⟩; pure (104, v) : Sem _).run Try.prog w := by kernel_rfl
 exact h.trans (load_hung p w v _ hc)
attribute [local go_sem] m_Push m_Pop
theorem hung_Len (A : Option Addr) (n c : Nat) (w : World) : Calls Try.prog 80 #[.slice A n c] w fun e w' => e = .returned (.int .i64 n) /\ w = w':=by
 go_enter Try.func80,Try.ntmps80
 go_wp2
 go_ret
 exact ⟨rfl,rfl⟩
theorem hung_Less (g n c i j : Nat) (x y : Int) (w : World) (hi : i < n) (hj : j < n) (hx : w.cell? ⟨g,i,none⟩ = some (.int .i64 x)) (hy : w.cell? ⟨g,j,none⟩ = some (.int .i64 y)) :
  Calls Try.prog 101 #[.slice (some ⟨g,0,none⟩) n c, .int .i64 i, .int .i64 j] w fun e w' => e = .returned (.bool (decide (y < x))) /\ w' = w.drew:=by
 have hi0 : (0 : Int) <= (i : Int):=by omega
 have hj0 : (0 : Int) <= (j : Int):=by omega
 have hi1 : (i : Int) < (n : Int):=by omega
 have hj1 : (j : Int) < (n : Int):=by omega
 go_enter Try.func101,Try.ntmps101
 go_wp2
 refine stR (S:=fun w' => w'.cell? ⟨g,i,none⟩ = some (.int .i64 x) /\ w'.cell? ⟨g,j,none⟩ = some (.int .i64 y)) 10 t_tree_hung_Less.bits1 t_tree_hung_Less.tab1 (hS:=⟨hx,hy⟩) (h:=fun hS HT HW => ?_)
 refine pu HT 0 7 1 (h := ?_)
 refine pu HT 1 8 3 (h := ?_)
 refine pu HT 2 9 7 (h := ?_)
 refine tk HT HW hS 3 10 15 (h := ?_)
 refine pu HT 4 11 31 (h := ?_)
 refine pu HT 5 12 63 (h := ?_)
 refine pu HT 6 13 127 (h := ?_)
 refine tk HT HW hS 7 14 255 (h := ?_)
 refine pu HT 8 15 511 (h := ?_)
 refine pu HT 9 6 1023 (h := ?_)
 refine dn HT (h := ?_)
 clear HT HW hS
 go_wp2
 go_ret
 exact ⟨rfl,rfl⟩
theorem hung_Swap (g n c i j : Nat) (x y : Int) (w : World) (hi : i < n) (hj : j < n) (hx : w.cell? ⟨g,i,none⟩ = some (.int .i64 x)) (hy : w.cell? ⟨g,j,none⟩ = some (.int .i64 y)) (fz : ∀ k,w.frozen? ⟨g,k,none⟩ = false) :
  Calls Try.prog 104 #[.slice (some ⟨g,0,none⟩) n c, .int .i64 i, .int .i64 j] w fun e w' => e = .returned (.tuple #[]) /\ w' = (w.drew.setCell ⟨g,i,none⟩ (.int .i64 y)).setCell ⟨g,j,none⟩ (.int .i64 x):=by
 have hi0 : (0 : Int) <= (i : Int):=by omega
 have hj0 : (0 : Int) <= (j : Int):=by omega
 have hi1 : (i : Int) < (n : Int):=by omega
 have hj1 : (j : Int) < (n : Int):=by omega
 go_enter Try.func104,Try.ntmps104
 go_wp2
 refine stL (S:=fun w' => w'.cell? ⟨g,i,none⟩ = some (.int .i64 x) /\ w'.cell? ⟨g,j,none⟩ = some (.int .i64 y)) [13,15] 16 t_tree_hung_Swap.bits0 t_tree_hung_Swap.tab0 (hS:=⟨hx,hy⟩) (h:=fun hS HT HW => ?_)
 refine pu HT 0 6 1 (h := ?_)
 refine pu HT 1 7 3 (h := ?_)
 refine pu HT 2 8 7 (h := ?_)
 refine pu HT 3 9 15 (h := ?_)
 refine pu HT 4 10 31 (h := ?_)
 refine pu HT 5 11 63 (h := ?_)
 refine pu HT 6 12 127 (h := ?_)
 refine tk HT HW hS 7 13 255 (h := ?_)
 refine pu HT 8 14 511 (h := ?_)
 refine pu HT 9 15 1023 (h := ?_)
 refine pu HT 10 16 2047 (h := ?_)
 refine tk HT HW hS 11 17 4095 (h := ?_)
 refine pu HT 12 18 8191 (h := ?_)
 have hf1 : w.drew.frozen? ⟨g,i,none⟩ = false:=fz i
 refine skL HT 13 16383 (w.drew.setCell ⟨g,i,none⟩ (.int .i64 y)) (hrun := ?_) (h := ?_)
 ·clear HT HW
  obtain ⟨hx',hy'⟩:=hS
  go_simp
 refine pu HT 14 19 32767 (h := ?_)
 refine skL HT 15 65535 ((w.drew.setCell ⟨g,i,none⟩ (.int .i64 y)).setCell ⟨g,j,none⟩ (.int .i64 x)) (hrun := ?_) (h := ?_)
 ·clear HT HW
  obtain ⟨hx',hy'⟩:=hS
  obtain ⟨v',hv'⟩:=cell?_setCell_some (p:=⟨g,i,none⟩) (x:=.int .i64 y) hy
  have hf2 : (w.setCell ⟨g,i,none⟩ (.int .i64 y)).frozen? ⟨g,j,none⟩ = false:=by rw [World.frozen?_setCell]; exact fz j
  go_simp
 refine dn HT (h := ?_)
 clear HT HW hS
 go_end0
 exact ⟨rfl,rfl⟩
abbrev encs (arr : List Int) : List Value:=arr.map (.int .i64)
abbrev RowI (w : World) (base g c : Nat) (arr : List Int) : Prop:=w.ownsRow base 3 1 (.slice (some ⟨g,0,none⟩) arr.length c) arr.length (encs arr)
theorem RowI.block {w : World} {base g c : Nat} {arr : List Int} (h : RowI w base g c arr) : ∃ cur,w.heap[g]? = some (.cells cur 3 (0,0)) /\ arr.length <= c /\ c <= maxLen /\ cur.size = c * 1 /\ cur.toList.take (arr.length * 1) = encs arr /\ base <= g:=by
 rcases h.2 with ⟨h,_⟩ | ⟨g',cap,cur,he,hb,hg,h1,h2,h3,h4⟩
 ·cases h
 ·injection he with e1 e2 e3
  injection e1 with e1
  injection e1 with e1
  subst e1; subst e3
  exact ⟨cur,hg,h1,h2,h3,h4,hb⟩
theorem RowI.cell {w : World} {base g c : Nat} {arr : List Int} (h : RowI w base g c arr) (k : Nat) (hk : k < arr.length) : w.cell? ⟨g,k,none⟩ = some (.int .i64 (at0 arr k)):=by
 have:=h.cells (g:=g) rfl k (.int .i64 (at0 arr k)) (by simp [at0,List.getD_eq_getElem?_getD,List.getElem?_eq_getElem hk])
 rw [show (⟨g,0,none⟩ : Addr).add k = ⟨g,k,none⟩ from Qbu g k] at this
 exact this
theorem RowI.frozen {w : World} {base g c : Nat} {arr : List Int} (h : RowI w base g c arr) (k : Nat) : w.frozen? ⟨g,k,none⟩ = false:=by
 obtain ⟨cur,hg,_⟩:=h.block
 simp [World.frozen?,hg]
theorem setCell_block {w : World} {g : Nat} {cur : Array Value} {t : TypeId} (hg : w.heap[g]? = some (.cells cur t (0,0))) (i : Nat) (u : Value) : (w.setCell ⟨g,i,none⟩ u).heap[g]? = some (.cells (cur.setIfInBounds i u) t (0,0)):=by
 simp [World.setCell,Array.getElem?_modify,hg]
theorem setCell_other {w : World} {g : Nat} (i : Nat) (u : Value) (k : Nat) (hk : k ≠ g) : (w.setCell ⟨g,i,none⟩ u).heap[k]? = w.heap[k]?:=by
 simp [World.setCell,Array.getElem?_modify,Ne.symm hk]
theorem Qbk (w : World) (g i : Nat) (u : Value) : w.grownBy (w.setCell ⟨g,i,none⟩ u) (some g) :=
 ⟨rfl,rfl,rfl,by simp [World.setCell],fun k _ hk => setCell_other i u k (fun e => hk (by rw [e]))⟩
theorem RowI.set {w : World} {base g c : Nat} {arr : List Int} (h : RowI w base g c arr) (i : Nat) (x : Int) (hi : i < arr.length) : RowI (w.setCell ⟨g,i,none⟩ (.int .i64 x)) base g c (arr.set i x):=by
 obtain ⟨cur,hg,h1,h2,h3,h4,hb⟩:=h.block
 refine ⟨by simp [encs], .inr ⟨g,c,_,by simp,hb,setCell_block hg i _,by simpa using h1,h2,by simpa using h3, ?_⟩⟩
 simp only [Nat.mul_one,List.length_set,Array.toList_setIfInBounds,encs,List.map_set] at h4 ⊢
 rw [<- h4,List.take_set]
theorem cell_grown' {w w' : World} {row : Option Nat} {a : Addr} {v : Value} (hg : w.grownBy w' row) (hne : some a.block ≠ row) (hc : w.cell? a = some v) : w'.cell? a = some v:=(World.cell?_of_block (hg.block _ (World.block_lt_of_cell? w a hc) hne)).trans hc
theorem drewG (w : World) (row : Option Nat) : w.grownBy w.drew row:=⟨rfl,rfl,rfl,Nat.le_refl _,fun _ _ _ => rfl⟩
theorem RowI.swap {w : World} {base g c : Nat} {arr : List Int} (h : RowI w base g c arr) (i j : Nat) (hi : i < arr.length) (hj : j < arr.length) :
  RowI ((w.drew.setCell ⟨g,i,none⟩ (.int .i64 (at0 arr j))).setCell ⟨g,j,none⟩ (.int .i64 (at0 arr i))) base g c (Qbs arr i j) /\ w.grownBy ((w.drew.setCell ⟨g,i,none⟩ (.int .i64 (at0 arr j))).setCell ⟨g,j,none⟩ (.int .i64 (at0 arr i))) (some g):=by
 have h0 : RowI w.drew base g c arr:=h
 exact ⟨(h0.set i _ hi).set j _ (by simpa using hj),((drewG w _).trans (Qbk _ _ _ _)).trans (Qbk _ _ _ _)⟩
theorem hung_Less' (base g c : Nat) (arr : List Int) (i j : Nat) (w : World) (h : RowI w base g c arr) (hi : i < arr.length) (hj : j < arr.length) :
  Calls Try.prog 101 #[.slice (some ⟨g,0,none⟩) arr.length c, .int .i64 i, .int .i64 j] w fun e w' => e = .returned (.bool (decide (at0 arr j < at0 arr i))) /\ w' = w.drew :=
 hung_Less g arr.length c i j _ _ w hi hj (h.cell i hi) (h.cell j hj)
theorem hung_Swap' (base g c : Nat) (arr : List Int) (i j : Nat) (w : World) (h : RowI w base g c arr) (hi : i < arr.length) (hj : j < arr.length) :
  Calls Try.prog 104 #[.slice (some ⟨g,0,none⟩) arr.length c, .int .i64 i, .int .i64 j] w fun e w' => e = .returned (.tuple #[]) /\ RowI w' base g c (Qbs arr i j) /\ w.grownBy w' (some g) :=
 (hung_Swap g arr.length c i j _ _ w hi hj (h.cell i hi) (h.cell j hj) h.frozen).mono (fun e w' hh => ⟨hh.1,by rw [hh.2]; exact h.swap i j hi hj⟩)
end
section
attribute [local go_sem] m_Push m_Pop m_Len m_Less m_Swap
abbrev hungP (p : Nat) : Value:=.iface 109 (.pointer (some ⟨p,0,none⟩))
theorem ta_int (x : Int) (w : World) : (Instr.typeAssert (.iface 3 (.int .i64 x)) 20 3 false).run Try.prog w = .ok (.int .i64 x) w:=by kernel_rfl
attribute [local go_sem] ta_int
structure Fr (w w' : World) (S : Nat -> Prop) : Prop where
 os : w'.os = w.os
 tape : w'.tape = w.tape
 output : w'.output = w.output
 size : w.heap.size <= w'.heap.size
 block : ∀ k,k < w.heap.size -> ¬ S k -> w'.heap[k]? = w.heap[k]?
theorem Fr.refl (w : World) (S : Nat -> Prop) : Fr w w S:=⟨rfl,rfl,rfl,Nat.le_refl _,fun _ _ _ => rfl⟩
theorem Fr.of_grown {w w' : World} {row : Option Nat} (hg : w.grownBy w' row) : Fr w w' (fun k => row = some k):=⟨hg.os,hg.tape,hg.output,hg.size,fun k hk hn => hg.block k hk (fun e => hn e.symm)⟩
theorem Fr.of_below {w w' : World} (h : Below w.heap.size w w') (S : Nat -> Prop) : Fr w w' S:=⟨h.os,h.tape,h.output,h.size,fun k hk _ => h.block k hk⟩
theorem Fr.mono {w w' : World} {S S' : Nat -> Prop} (h : Fr w w' S) (hs : ∀ k,S k -> k < w.heap.size -> S' k) : Fr w w' S':=⟨h.os,h.tape,h.output,h.size,fun k hk hn => h.block k hk (fun e => hn (hs k e hk))⟩
theorem Fr.trans {w w1 w2 : World} {S S2 : Nat -> Prop} (h : Fr w w1 S) (k : Fr w1 w2 S2) (hs : ∀ k,S2 k -> k < w.heap.size -> S k) : Fr w w2 S :=
 ⟨k.os.trans h.os,k.tape.trans h.tape,k.output.trans h.output,Nat.le_trans h.size k.size,fun i hi hn => (k.block i (Nat.lt_of_lt_of_le hi h.size) (fun e => hn (hs i e hi))).trans (h.block i hi hn)⟩
theorem Fr.below {w w' : World} {S : Nat -> Prop} (h : Fr w w' S) {B : Nat} (hS : ∀ k,S k -> B <= k) (hB : B <= w.heap.size) : Below B w w':=⟨h.os,h.tape,h.output,h.size,fun k hk => h.block k (Nat.lt_of_lt_of_le hk hB) (fun e => by have:=hS k e; omega)⟩
theorem Fr.cell {w w' : World} {S : Nat -> Prop} (h : Fr w w' S) {a : Addr} {v : Value} (hn : ¬ S a.block) (hc : w.cell? a = some v) : w'.cell? a = some v:=(World.cell?_of_block (h.block _ (World.block_lt_of_cell? w a hc) hn)).trans hc
theorem Fr.frozen {w w' : World} {S : Nat -> Prop} (h : Fr w w' S) {a : Addr} (hlt : a.block < w.heap.size) (hn : ¬ S a.block) : w'.frozen? a = w.frozen? a:=World.frozen?_of_block (h.block _ hlt hn)
theorem Fr.row {w w' : World} {S : Nat -> Prop} (h : Fr w w' S) {base n size : Nat} {e : TypeId} {v : Value} {xs : List Value} (ho : w.ownsRow base e size v n xs) (hn : ∀ k,v.ownBlock = some k -> ¬ S k) : w'.ownsRow base e size v n xs:=by
 refine ⟨ho.1, ?_⟩
 rcases ho.2 with h2 | ⟨g,cap,cur,rfl,hb,hg,rest⟩
 ·exact .inl h2
 ·refine .inr ⟨g,cap,cur,rfl,hb, ?_,rest⟩
  rw [h.block g (Array.getElem?_eq_some_iff.1 hg).1 (hn g rfl)]
  exact hg
def Hun (w : World) (base p : Nat) (v : Value) (arr : List Int) : Prop:=w.cell? ⟨p,0,none⟩ = some v /\ w.frozen? ⟨p,0,none⟩ = false /\ v.ownBlock ≠ some p /\ w.ownsRow base 3 1 v arr.length (encs arr)
theorem Hun.fr {w w' : World} {S : Nat -> Prop} {base p : Nat} {v : Value} {arr : List Int} (h : Hun w base p v arr) (hf : Fr w w' S) (hp : ¬ S p) (hv : ∀ k,v.ownBlock = some k -> ¬ S k) : Hun w' base p v arr :=
 ⟨hf.cell hp h.1,(hf.frozen (World.block_lt_of_cell? w _ h.1) hp).trans h.2.1,h.2.2.1,hf.row h.2.2.2 hv⟩
abbrev Hg (w : World) (base p g c : Nat) (arr : List Int) : Prop:=Hun w base p (.slice (some ⟨g,0,none⟩) arr.length c) arr
theorem Hg.grown {w w' : World} {base p g c : Nat} {arr arr' : List Int} (h : Hg w base p g c arr) (hl : arr'.length = arr.length) (hr : RowI w' base g c arr') (hg : w.grownBy w' (some g)) : Hg w' base p g c arr' :=
 ⟨by rw [hl]; exact cell_grown' hg (fun e => h.2.2.1 e.symm) h.1,(World.frozen?_of_block (hg.block _ (World.block_lt_of_cell? w _ h.1) (fun e => h.2.2.1 e.symm))).trans h.2.1,by rw [hl]; exact h.2.2.1,by exact hr⟩
theorem heap_up (base p g c j : Nat) (arr : List Int) (w : World) (hH : Hg w base p g c arr) (hup : HeapUp arr arr.length j) (hj : j < arr.length) (hn : arr.length < 4611686018427387904) :
  Calls Try.prog 79 #[hungP p, .int .i64 j] w fun e w' => e = .returned (.tuple #[]) /\ ∃ arr',arr'.Perm arr /\ Qcj arr' arr'.length /\ Hg w' base p g c arr' /\ w.grownBy w' (some g):=by
 have HU:=Zz.k hup
 clear hup
 go_enter Try.func79,Try.ntmps79
 go_wp2
 go_loopg [1] (j + 1) (fun gg s1 wr => ∃ (jn : Nat) (ar : List Int),s1 = .int .i64 jn /\ jn < gg /\ jn < ar.length /\ Zz (ar.length = arr.length) /\ Zz (ar.Perm arr) /\ Zz (HeapUp ar ar.length jn) /\ Zz (Hg wr base p g c ar) /\ Zz (w.grownBy wr (some g)))
 case atStart => exact ⟨j,arr,rfl,by omega,hj,⟨rfl⟩,⟨List.Perm.refl _⟩,HU,⟨hH⟩,⟨⟨rfl,rfl,rfl,Nat.le_refl _,fun _ _ _ => rfl⟩⟩⟩
 case round =>
  obtain ⟨jn,ar,rfl,hlt,hjl,HAL,HP,HU',HG,HB⟩:=hrel
  have hcell:=HG.out.1
  have hmx : ar.length < 4611686018427387904:=by rw [HAL.out]; exact hn
  by_cases h0 : jn = 0
  ·subst h0
   have HX:=Zz.k (HU'.out.stop (.inl rfl))
   go_wp2
   go_end0
   exact ⟨rfl,ar,HP.out,HX.out,HG.out,HB.out⟩
  ·have hdv : ((jn : Int) - 1) / 2 = (((jn - 1) / 2 : Nat) : Int):=by omega
   have hdn : ¬ ((jn : Int) - 1) / 2 = (jn : Int):=by omega
   have hdv2 : ((jn - 1 : Nat) : Int) / 2 = (((jn - 1) / 2 : Nat) : Int):=by omega
   have HDV:=Zz.k hdv
   have HDV2:=Zz.k hdv2
   clear hdv hdv2
   have hil : (jn - 1) / 2 < ar.length:=by omega
   have hls:=hung_Less' base g c ar jn ((jn - 1) / 2) wr HG.out.2.2.2 (by omega) hil
   by_cases hb : at0 ar ((jn - 1) / 2) < at0 ar jn
   ·have hbd : decide (at0 ar ((jn - 1) / 2) < at0 ar jn) = true:=Zd hb
    have HS:=Zz.k (HU'.out.step (Nat.le_refl _) (by omega) (by omega) hb)
    have HSW:=Zz.k (fun (hX : RowI wr base g c ar) => hung_Swap' base g c ar ((jn - 1) / 2) jn wr.drew hX hil hjl)
    rw [hbd] at hls
    clear hb hbd
    go_wp2_with fail
    rw [HDV.out]
    with_reducible refine hls.mono ?_
    rintro e w' ⟨rfl,rfl⟩
    go_wp2_with fail
    rw [HDV2.out]
    have hsw:=HSW.out HG.out.2.2.2
    with_reducible refine hsw.mono ?_
    rintro e w' ⟨rfl,hr,hg⟩
    have HR:=Zz.k hr
    have HGR:=Zz.k hg
    clear hr hg hls hcell hsw
    obtain ⟨g',rfl⟩ : ∃ g',gk = g' + 1:=⟨gk - 1,by omega⟩
    go_wp2
    go_roundg g'
    case measure => omega
    case rel =>
     refine ⟨(jn - 1) / 2,Qbs ar ((jn - 1) / 2) jn, ?_,by omega,by rw [Qam]; omega,⟨by rw [Qam]; exact HAL.out⟩,⟨(swapAt_perm ar _ _ hil hjl).trans HP.out⟩,⟨by rw [Qam]; exact HS.out⟩,⟨HG.out.grown (Qam _ _ _) HR.out ((drewG _ _).trans HGR.out)⟩,⟨HB.out.trans ((drewG _ _).trans HGR.out)⟩⟩
     rw [HDV2.out]
   ·have hbd : decide (at0 ar ((jn - 1) / 2) < at0 ar jn) = false:=Ze hb
    have HX:=Zz.k (HU'.out.stop (.inr (by omega)))
    rw [hbd] at hls
    clear hb hbd
    go_wp2_with fail
    rw [HDV.out]
    with_reducible refine hls.mono ?_
    rintro e w' ⟨rfl,rfl⟩
    go_wp2
    go_end0
    exact ⟨rfl,ar,HP.out,HX.out,HG.out,HB.out.trans (drewG _ _)⟩
theorem hung_Push (base p : Nat) (v : Value) (arr : List Int) (x : Int) (w : World) (h : Hun w base p v arr) (hlen : arr.length < 1000000) (hb : base <= w.heap.size) :
  Calls Try.prog 103 #[.pointer (some ⟨p,0,none⟩), .iface 3 (.int .i64 x)] w fun e w' => e = .returned (.tuple #[]) /\ ∃ v',Hun w' base p v' (arr ++ [x]) /\ (v'.ownBlock = v.ownBlock \/ ∃ b,v'.ownBlock = some b /\ w.heap.size <= b) /\ Fr w w' (fun k => k = p \/ v.ownBlock = some k):=by
 obtain ⟨hc,hf,hne,hrow⟩:=h
 have HROW:=Zz.k hrow
 have HNE:=Zz.k hne
 clear hrow hne
 go_enter Try.func103,Try.ntmps103
 refine stL (S:=fun w' => w'.cell? ⟨p,0,none⟩ = some v) [7,9] 10 t_tree_hung_Push.bits0 t_tree_hung_Push.tab0 (hS:=hc) (h:=fun hS HT HW => ?_)
 refine pu HT 0 4 1 (h := ?_)
 refine pu HT 1 5 3 (h := ?_)
 refine pu HT 2 6 7 (h := ?_)
 refine tk HT HW hS 3 7 15 (h := ?_)
 refine pu HT 4 8 31 (h := ?_)
 refine pu HT 5 9 63 (h := ?_)
 refine exS HT 6 (some 10) 127 (.slice (some ⟨w.drew.heap.size,0,none⟩) 1 1) (w.drew.alloc (.cells [.int .i64 x].toArray 3)) (hrun := ?_) (hS := ?_) (h:=fun hS => ?_)
 ·clear HT HW hS
  go_simp
 ·exact Qaa (Qad (Below.refl _ w.drew) _) hS
 refine nm (h := ?_)
 refine apL HT 7 11 255 base w.drew info3 Try.underlying110 v arr.length (encs arr) [.int .i64 x] HROW.out hb (by omega) rfl (by simp [Value.oneCell']) (h:=fun v1 w1 hown hg hat => ?_)
 have hnp : some p ≠ v.ownBlock:=fun e => HNE.out e.symm
 have hc1:=cell_grown' hg hnp (show w.drew.cell? ⟨p,0,none⟩ = some v from hc)
 have hf1 : w1.frozen? ⟨p,0,none⟩ = false:=(World.frozen?_of_block (hg.block _ (World.block_lt_of_cell? w _ hc) hnp)).trans hf
 have lp:=World.block_lt_of_cell? w _ hc
 simp only at lp
 obtain ⟨g1,c1,rfl⟩ : ∃ g c,v1 = .slice (some ⟨g,0,none⟩) (arr.length + 1) c:=by
  rcases hown.2 with ⟨_,h0⟩ | ⟨g,c,_,h0,_⟩
  ·omega
  ·exact ⟨g,c,h0⟩
 have HOWN:=Zz.k hown
 have HG:=Zz.k hg
 have HAT:=Zz.k hat
 clear hown hg hS hc hat
 refine nm (h := ?_)
 refine pu HT 8 12 511 (h := ?_)
 refine skL HT 9 1023 (w1.setCell ⟨p,0,none⟩ (.slice (some ⟨g1,0,none⟩) (arr.length + 1) c1)) (hrun := ?_) (h := ?_)
 ·clear HT HW
  go_simp
 refine dn HT (h := ?_)
 clear HT HW
 go_end0
 have hne1 : (Value.slice (some ⟨g1,0,none⟩) (arr.length + 1) c1).ownBlock ≠ some p:=by
  rcases HAT.out with hat | ⟨b,hb1,hle⟩
  ·rw [hat]; exact HNE.out
  ·rw [hb1]; intro e; cases e
   have : w.heap.size <= p:=hle
   omega
 refine ⟨rfl,_,⟨World.cell?_setCell_same w1 _ _ hc1,by rw [World.frozen?_setCell]; exact hf1,hne1, ?_⟩,HAT.out, ?_⟩
 ·have e : encs arr ++ [.int .i64 x] = encs (arr ++ [x]):=by simp [encs]
  have h2:=HOWN.out
  rw [e] at h2
  have h3:=(Fr.of_grown (Qbk w1 p 0 (.slice (some ⟨g1,0,none⟩) (arr.length + 1) c1))).row h2 (fun k hk e => hne1 (by rw [hk,<- e]))
  simpa using h3
 ·have f0 : Fr w w.drew (fun k => v.ownBlock = some k):=(Fr.of_grown (drewG w v.ownBlock))
  have f1 : Fr w w1 (fun k => k = p \/ v.ownBlock = some k):=(f0.trans (Fr.of_grown HG.out) (fun k hk _ => hk)).mono (fun k hk _ => .inr hk)
  exact f1.trans (Fr.of_grown (Qbk w1 p 0 _)) (fun k hk _ => .inl (Zo hk).symm)
end
section
attribute [local go_sem] m_Push m_Pop m_Len m_Less m_Swap ta_int
theorem hung_Pop (base p g c n : Nat) (arr : List Int) (w : World) (h : Hg w base p g c arr) (hn : arr.length = n + 1) (hlen : arr.length < 1000000) :
  Calls Try.prog 102 #[.pointer (some ⟨p,0,none⟩)] w fun e w' => e = .returned (.iface 3 (.int .i64 (at0 arr n))) /\ Hg w' base p g c (arr.take n) /\ Fr w w' (fun k => k = p):=by
 obtain ⟨hc,hf,hne,hrow⟩:=h
 have hx:=RowI.cell hrow n (by omega)
 have hcap : n <= c:=by obtain ⟨_,_,h1,_⟩:=RowI.block hrow; omega
 have HROW:=Zz.k hrow
 have HNE:=Zz.k hne
 have HN:=Zz.k hn
 rw [hn] at hc
 have hnl : (n : Int) < ((n + 1 : Nat) : Int):=by omega
 have hn0 : (0 : Int) <= (n : Int):=by omega
 have hnm : n < 1000000:=by omega
 clear hrow hne hn hlen
 generalize at0 arr n = x at hx ⊢
 go_enter Try.func102,Try.ntmps102
 go_wp2
 go_ret
 have hlt : (arr.take n).length = n:=by rw [List.length_take,HN.out]; omega
 refine ⟨rfl,⟨?_, ?_, ?_, ?_⟩,(Fr.of_grown (Qbk w p 0 _)).mono (fun k hk _ => (Zo hk).symm)⟩
 ·rw [hlt]; exact World.cell?_setCell_same w _ _ hc
 ·rw [World.frozen?_setCell]; exact hf
 ·exact HNE.out
 ·have h1 : RowI w base g c (arr.take n):=by
   obtain ⟨cur,hg,h1,h2,h3,h4,hb⟩:=RowI.block HROW.out
   refine ⟨by simp [encs], .inr ⟨g,c,cur,rfl,hb,hg,by omega,h2,h3, ?_⟩⟩
   rw [hlt,Nat.mul_one]
   rw [Nat.mul_one] at h4
   have e : encs (arr.take n) = (encs arr).take n:=by simp [encs,List.map_take]
   rw [e,<- h4,List.take_take,Nat.min_eq_left (by rw [HN.out]; omega)]
  exact (Fr.of_grown (Qbk w p 0 _)).row h1 (fun k hk e => HNE.out (by rw [e]; exact hk))
theorem hung_LessZ (base g c : Nat) (arr : List Int) (i j : Nat) (zi zj : Int) (w : World) (ei : zi = (i : Int)) (ej : zj = (j : Int)) (h : RowI w base g c arr) (hi : i < arr.length) (hj : j < arr.length) :
  Calls Try.prog 101 #[.slice (some ⟨g,0,none⟩) arr.length c, .int .i64 zi, .int .i64 zj] w fun e w' => e = .returned (.bool (decide (at0 arr j < at0 arr i))) /\ w' = w.drew:=by
 subst ei ej; exact hung_Less' base g c arr i j w h hi hj
theorem hung_SwapZ (base g c : Nat) (arr : List Int) (i j : Nat) (zi zj : Int) (w : World) (ei : zi = (i : Int)) (ej : zj = (j : Int)) (h : RowI w base g c arr) (hi : i < arr.length) (hj : j < arr.length) :
  Calls Try.prog 104 #[.slice (some ⟨g,0,none⟩) arr.length c, .int .i64 zi, .int .i64 zj] w fun e w' => e = .returned (.tuple #[]) /\ RowI w' base g c (Qbs arr i j) /\ w.grownBy w' (some g):=by
 subst ei ej; exact hung_Swap' base g c arr i j w h hi hj
def LeafOr (l : List Int) (n i j : Nat) : Prop:=∀ k,0 < k -> k < n -> (k - 1) / 2 = i -> at0 l k <= at0 l j
theorem leaf_two {l : List Int} {n i : Nat} (h2 : 2 * i + 2 < n) (hb : at0 l (2 * i + 1) < at0 l (2 * i + 2)) : LeafOr l n i (2 * i + 2):=by
 intro k h0 hk hp
 rcases (show k = 2 * i + 1 \/ k = 2 * i + 2 by omega) with rfl | rfl <;> omega
theorem leaf_one {l : List Int} {n i : Nat} (hb : ¬ at0 l (2 * i + 1) < at0 l (2 * i + 2)) : LeafOr l n i (2 * i + 1):=by
 intro k h0 hk hp
 rcases (show k = 2 * i + 1 \/ k = 2 * i + 2 by omega) with rfl | rfl <;> omega
theorem leaf_end {l : List Int} {n i : Nat} (h2 : ¬ 2 * i + 2 < n) : LeafOr l n i (2 * i + 1):=by
 intro k h0 hk hp
 obtain rfl : k = 2 * i + 1:=by omega
 exact Int.le_refl _
theorem heap_down (base p g c n : Nat) (arr : List Int) (w : World) (hH : Hg w base p g c arr) (hdn : HeapDn arr n 0) (hn : n <= arr.length) (h0 : 0 < arr.length) (hmx : arr.length < 1000000) :
  Calls Try.prog 84 #[hungP p, .int .i64 0, .int .i64 n] w fun e w' => (∃ u,e = .returned u) /\ ∃ arr',arr'.length = arr.length /\ arr'.Perm arr /\ (∀ k,n <= k -> at0 arr' k = at0 arr k) /\ Qcj arr' n /\ Hg w' base p g c arr' /\ w.grownBy w' (some g):=by
 have HD:=Zz.k hdn
 clear hdn
 go_enter Try.func84,Try.ntmps84
 go_wp2
 go_loopg [7] (n + 1) (fun gg s7 wr => ∃ (i : Nat) (ar : List Int),s7 = .int .i64 i /\ n < gg + i /\ i < ar.length /\ n <= ar.length /\ ar.length < 1000000 /\ Zz (ar.length = arr.length) /\ Zz (ar.Perm arr) /\ Zz (∀ k,n <= k -> at0 ar k = at0 arr k) /\ Zz (HeapDn ar n i) /\ Zz (Hg wr base p g c ar) /\ Zz (w.grownBy wr (some g)))
 case atStart => exact ⟨0,arr,rfl,by omega,h0,hn,hmx,⟨rfl⟩,⟨List.Perm.refl _⟩,⟨fun _ _ => rfl⟩,HD,⟨hH⟩,⟨⟨rfl,rfl,rfl,Nat.le_refl _,fun _ _ _ => rfl⟩⟩⟩
 case round =>
  obtain ⟨i,ar,rfl,hgg,hil,hnl,hal,HAL,HP,HF,HD',HG,HB⟩:=hrel
  have hcell:=HG.out.1
  by_cases h1 : 2 * i + 1 < n
  ·have h1z : ¬ (n : Int) <= 2 * (i : Int) + 1:=by omega
   have h1y : ¬ 2 * (i : Int) + 1 < 0:=by omega
   by_cases h2 : 2 * i + 2 < n
   ·have h2z : 2 * (i : Int) + 1 + 1 < (n : Int):=by omega
    have hls:=hung_LessZ base g c ar (2 * i + 2) (2 * i + 1) (2 * (i : Int) + 1 + 1) (2 * (i : Int) + 1) wr (by omega) (by omega) HG.out.2.2.2 (by omega) (by omega)
    by_cases hb : at0 ar (2 * i + 1) < at0 ar (2 * i + 2)
    ·have HL:=Zz.k (leaf_two h2 hb)
     rw [Zd hb] at hls
     clear hb
     go_wp2_with fail
     with_reducible refine hls.mono ?_
     rintro e w' ⟨rfl,rfl⟩
     clear hls
     have hl2:=hung_LessZ base g c ar (2 * i + 2) i (2 * (i : Int) + 1 + 1) (i : Int) wr.drew (by omega) rfl HG.out.2.2.2 (by omega) hil
     by_cases hb2 : at0 ar i < at0 ar (2 * i + 2)
     ·have HS:=Zz.k (HD'.out.step hnl (by omega) (by omega) (by omega) HL.out hb2)
      have hsw:=hung_SwapZ base g c ar i (2 * i + 2) (i : Int) (2 * (i : Int) + 1 + 1) wr.drew.drew rfl (by omega) HG.out.2.2.2 hil (by omega)
      rw [Zd hb2] at hl2
      have HPp:=Zz.k (swapAt_perm ar i (2 * i + 2) hil (by omega))
      have HFf:=Zz.k (fun (k : Nat) (hk : n <= k) => (show at0 (Qbs ar i (2 * i + 2)) k = at0 ar k by rw [Qbr _ _ _ _ hil (by omega),if_neg (by omega),if_neg (by omega)]))
      clear hb2
      go_wp2_with fail
      with_reducible refine hl2.mono ?_
      rintro e w' ⟨rfl,rfl⟩
      go_wp2_with fail
      with_reducible refine hsw.mono ?_
      rintro e w' ⟨rfl,hr,hg⟩
      have HR:=Zz.k hr
      have HGR:=Zz.k hg
      clear hr hg hl2 hcell hsw
      obtain ⟨g',rfl⟩ : ∃ g',gk = g' + 1:=⟨gk - 1,by omega⟩
      go_wp2
      go_roundg g'
      case measure => omega
      case rel =>
       refine ⟨2 * i + 2,Qbs ar i (2 * i + 2),by go_num,by omega,by rw [Qam]; omega,by rw [Qam]; omega,by rw [Qam]; omega,⟨by rw [Qam]; exact HAL.out⟩,⟨HPp.out.trans HP.out⟩,⟨fun k hk => (HFf.out k hk).trans (HF.out k hk)⟩,HS,⟨HG.out.grown (Qam _ _ _) HR.out ((drewG _ _).trans ((drewG _ _).trans HGR.out))⟩,⟨HB.out.trans ((drewG _ _).trans ((drewG _ _).trans HGR.out))⟩⟩
     ·have HX:=Zz.k (HD'.out.stop (fun k h0 hk hp => Int.le_trans (HL.out k h0 hk hp) (by omega)))
      rw [Ze hb2] at hl2
      clear hb2
      go_wp2_with fail
      with_reducible refine hl2.mono ?_
      rintro e w' ⟨rfl,rfl⟩
      go_wp2
      go_ret
      exact ⟨⟨_,rfl⟩,ar,HAL.out,HP.out,HF.out,HX.out,HG.out,HB.out.trans ((drewG _ _).trans (drewG _ _))⟩
    ·have HL:=Zz.k (leaf_one (n:=n) hb)
     rw [Ze hb] at hls
     clear hb
     go_wp2_with fail
     with_reducible refine hls.mono ?_
     rintro e w' ⟨rfl,rfl⟩
     clear hls
     have hl2:=hung_LessZ base g c ar (2 * i + 1) i (2 * (i : Int) + 1) (i : Int) wr.drew (by omega) rfl HG.out.2.2.2 (by omega) hil
     by_cases hb2 : at0 ar i < at0 ar (2 * i + 1)
     ·have HS:=Zz.k (HD'.out.step hnl (by omega) (by omega) (by omega) HL.out hb2)
      have hsw:=hung_SwapZ base g c ar i (2 * i + 1) (i : Int) (2 * (i : Int) + 1) wr.drew.drew rfl (by omega) HG.out.2.2.2 hil (by omega)
      rw [Zd hb2] at hl2
      have HPp:=Zz.k (swapAt_perm ar i (2 * i + 1) hil (by omega))
      have HFf:=Zz.k (fun (k : Nat) (hk : n <= k) => (show at0 (Qbs ar i (2 * i + 1)) k = at0 ar k by rw [Qbr _ _ _ _ hil (by omega),if_neg (by omega),if_neg (by omega)]))
      clear hb2
      go_wp2_with fail
      with_reducible refine hl2.mono ?_
      rintro e w' ⟨rfl,rfl⟩
      go_wp2_with fail
      with_reducible refine hsw.mono ?_
      rintro e w' ⟨rfl,hr,hg⟩
      have HR:=Zz.k hr
      have HGR:=Zz.k hg
      clear hr hg hl2 hcell hsw
      obtain ⟨g',rfl⟩ : ∃ g',gk = g' + 1:=⟨gk - 1,by omega⟩
      go_wp2
      go_roundg g'
      case measure => omega
      case rel =>
       refine ⟨2 * i + 1,Qbs ar i (2 * i + 1),by go_num,by omega,by rw [Qam]; omega,by rw [Qam]; omega,by rw [Qam]; omega,⟨by rw [Qam]; exact HAL.out⟩,⟨HPp.out.trans HP.out⟩,⟨fun k hk => (HFf.out k hk).trans (HF.out k hk)⟩,HS,⟨HG.out.grown (Qam _ _ _) HR.out ((drewG _ _).trans ((drewG _ _).trans HGR.out))⟩,⟨HB.out.trans ((drewG _ _).trans ((drewG _ _).trans HGR.out))⟩⟩
     ·have HX:=Zz.k (HD'.out.stop (fun k h0 hk hp => Int.le_trans (HL.out k h0 hk hp) (by omega)))
      rw [Ze hb2] at hl2
      clear hb2
      go_wp2_with fail
      with_reducible refine hl2.mono ?_
      rintro e w' ⟨rfl,rfl⟩
      go_wp2
      go_ret
      exact ⟨⟨_,rfl⟩,ar,HAL.out,HP.out,HF.out,HX.out,HG.out,HB.out.trans ((drewG _ _).trans (drewG _ _))⟩
   ·have HL:=Zz.k (leaf_end (l:=ar) h2)
    have h2z : ¬ 2 * (i : Int) + 1 + 1 < (n : Int):=by omega
    have hl2:=hung_LessZ base g c ar (2 * i + 1) i (2 * (i : Int) + 1) (i : Int) wr (by omega) rfl HG.out.2.2.2 (by omega) hil
    by_cases hb2 : at0 ar i < at0 ar (2 * i + 1)
    ·have HS:=Zz.k (HD'.out.step hnl (by omega) (by omega) (by omega) HL.out hb2)
     have hsw:=hung_SwapZ base g c ar i (2 * i + 1) (i : Int) (2 * (i : Int) + 1) wr.drew rfl (by omega) HG.out.2.2.2 hil (by omega)
     rw [Zd hb2] at hl2
     have HPp:=Zz.k (swapAt_perm ar i (2 * i + 1) hil (by omega))
     have HFf:=Zz.k (fun (k : Nat) (hk : n <= k) => (show at0 (Qbs ar i (2 * i + 1)) k = at0 ar k by rw [Qbr _ _ _ _ hil (by omega),if_neg (by omega),if_neg (by omega)]))
     clear hb2
     go_wp2_with fail
     with_reducible refine hl2.mono ?_
     rintro e w' ⟨rfl,rfl⟩
     go_wp2_with fail
     with_reducible refine hsw.mono ?_
     rintro e w' ⟨rfl,hr,hg⟩
     have HR:=Zz.k hr
     have HGR:=Zz.k hg
     clear hr hg hl2 hcell hsw
     obtain ⟨g',rfl⟩ : ∃ g',gk = g' + 1:=⟨gk - 1,by omega⟩
     go_wp2
     go_roundg g'
     case measure => omega
     case rel =>
      refine ⟨2 * i + 1,Qbs ar i (2 * i + 1),by go_num,by omega,by rw [Qam]; omega,by rw [Qam]; omega,by rw [Qam]; omega,⟨by rw [Qam]; exact HAL.out⟩,⟨HPp.out.trans HP.out⟩,⟨fun k hk => (HFf.out k hk).trans (HF.out k hk)⟩,HS,⟨HG.out.grown (Qam _ _ _) HR.out ((drewG _ _).trans HGR.out)⟩,⟨HB.out.trans ((drewG _ _).trans HGR.out)⟩⟩
    ·have HX:=Zz.k (HD'.out.stop (fun k h0 hk hp => Int.le_trans (HL.out k h0 hk hp) (by omega)))
     rw [Ze hb2] at hl2
     clear hb2
     go_wp2_with fail
     with_reducible refine hl2.mono ?_
     rintro e w' ⟨rfl,rfl⟩
     go_wp2
     go_ret
     exact ⟨⟨_,rfl⟩,ar,HAL.out,HP.out,HF.out,HX.out,HG.out,HB.out.trans (drewG _ _)⟩
  ·have HX:=Zz.k (HD'.out.stop (fun k _ hk hp => absurd hk (by omega)))
   have h1z : (n : Int) <= 2 * (i : Int) + 1:=by omega
   go_wp2
   go_ret
   exact ⟨⟨_,rfl⟩,ar,HAL.out,HP.out,HF.out,HX.out,HG.out,HB.out⟩
end
section
attribute [local go_sem] m_Push m_Pop m_Len m_Less m_Swap ta_int
theorem Hun.len {w : World} {base p : Nat} {v : Value} {arr : List Int} (h : Hun w base p v arr) : (v = .slice none 0 0 /\ arr = []) \/ ∃ g c,v = .slice (some ⟨g,0,none⟩) arr.length c:=by
 rcases h.2.2.2.2 with ⟨h1,h2⟩ | ⟨g,c,_,h1,_⟩
 ·exact .inl ⟨h1,List.length_eq_zero_iff.1 h2⟩
 ·exact .inr ⟨g,c,h1⟩
theorem Hun.snoc {w : World} {base p : Nat} {v : Value} {arr : List Int} {x : Int} (h : Hun w base p v (arr ++ [x])) : ∃ g c,v = .slice (some ⟨g,0,none⟩) (arr ++ [x]).length c:=by
 rcases h.len with ⟨_,h2⟩ | h
 ·simp at h2
 ·exact h
theorem heap_Push (base p : Nat) (v : Value) (arr : List Int) (x : Int) (w : World) (h : Hun w base p v arr) (hh : Qcj arr arr.length) (hlen : arr.length < 900000) (hb : base <= w.heap.size) :
  Calls Try.prog 68 #[hungP p, .iface 3 (.int .i64 x)] w fun e w' => e = .returned (.tuple #[]) /\ ∃ v' arr',Hun w' base p v' arr' /\ Qcj arr' arr'.length /\ arr'.Perm (x :: arr) /\ (v'.ownBlock = v.ownBlock \/ ∃ b,v'.ownBlock = some b /\ w.heap.size <= b) /\ Fr w w' (fun k => k = p \/ v.ownBlock = some k):=by
 have hp:=hung_Push base p v arr x w h (by omega) hb
 have HH:=Zz.k hh
 clear hh h
 go_enter Try.func68,Try.ntmps68
 go_wp2_with fail
 with_reducible refine hp.mono ?_
 rintro e w1 ⟨rfl,v',hH,hat,hf⟩
 obtain ⟨g,c,rfl⟩:=hH.snoc
 have hc:=hH.1
 have hll : (arr ++ [x]).length = arr.length + 1:=by simp
 have hu:=heap_up base p g c arr.length (arr ++ [x]) w1 hH (by rw [hll]; exact HeapUp.start HH.out rfl x) (by omega) (by omega)
 have hlz:=hung_Len (some ⟨g,0,none⟩) (arr.length + 1) c w1
 rw [hll] at hc
 have HHH:=Zz.k hH
 have HAT:=Zz.k hat
 have HF:=Zz.k hf
 clear hp hH hat hf hll
 go_wp2_with fail
 with_reducible refine hlz.mono ?_
 rintro e w' ⟨rfl,rfl⟩
 go_wp2_with fail
 with_reducible refine hu.mono ?_
 rintro e w2 ⟨rfl,ar,hpe,hhe,hg,hgr⟩
 go_wp2
 go_end0
 refine ⟨rfl,_,ar,hg,hhe,hpe.trans (List.perm_append_comm (l₁:=arr) (l₂:=[x])),HAT.out,HF.out.trans (Fr.of_grown hgr) (fun k hk hlt => ?_)⟩
 have hgk : g = k:=Zo hk
 subst hgk
 rcases HAT.out with h | ⟨b,h,hle⟩
 ·exact .inr h.symm
 ·have : g = b:=Zo h
  omega
theorem take_perm {l : List Int} {n : Nat} (h : l.length = n + 1) : l.Perm (at0 l n :: l.take n):=by
 have e : l = l.take n ++ [at0 l n]:=by
  have h1 : l.drop n = [at0 l n]:=by
   rw [List.drop_eq_getElem_cons (by omega : n < l.length),List.drop_eq_nil_of_le (by omega)]
   simp [at0,List.getD_eq_getElem?_getD,List.getElem?_eq_getElem (by omega : n < l.length)]
  rw [<- h1,List.take_append_drop]
 exact (List.Perm.of_eq e).trans (List.perm_append_comm (l₁:=l.take n) (l₂:=[at0 l n]))
theorem heap_Pop (base p g c n : Nat) (arr : List Int) (w : World) (h : Hg w base p g c arr) (hh : Qcj arr arr.length) (hn : arr.length = n + 1) (hlen : arr.length < 900000) :
  Calls Try.prog 81 #[hungP p] w fun e w' => e = .returned (.iface 3 (.int .i64 (at0 arr 0))) /\ ∃ arr',Hg w' base p g c arr' /\ Qcj arr' arr'.length /\ arr.Perm (at0 arr 0 :: arr') /\ Fr w w' (fun k => k = p \/ k = g):=by
 have hnm : n < 900000:=by omega
 have hlz:=hung_Len (some ⟨g,0,none⟩) (n + 1) c w
 have hsw:=hung_SwapZ base g c arr 0 n 0 (n : Int) w rfl rfl h.2.2.2 (by omega) (by omega)
 have hc:=h.1
 rw [hn] at hc hsw hh
 have HH:=Zz.k h
 have HI:=Zz.k hh
 have HN:=Zz.k hn
 clear hh h hn
 go_enter Try.func81,Try.ntmps81
 go_wp2_with fail
 with_reducible refine hlz.mono ?_
 rintro e w' ⟨rfl,rfl⟩
 go_wp2_with fail
 with_reducible refine hsw.mono ?_
 rintro e w1 ⟨rfl,hr,hg⟩
 have H1 : Hg w1 base p g c (Qbs arr 0 n):=HH.out.grown (Qam _ _ _) hr hg
 have hl1 : (Qbs arr 0 n).length = n + 1:=by rw [Qam]; exact HN.out
 have hdn:=heap_down base p g c n (Qbs arr 0 n) w1 H1 (HeapDn.start HI.out HN.out.symm) (by omega) (by omega) (by omega)
 have HG:=Zz.k hg
 clear hr hg hsw hlz hc
 go_wp2_with fail
 with_reducible refine hdn.mono ?_
 rintro e w2 ⟨⟨u,rfl⟩,ar,hla,hpe,hfx,hhe,hgg,hgr⟩
 have hpp:=hung_Pop base p g c n ar w2 hgg (by omega) (by omega)
 have e0 : at0 ar n = at0 arr 0:=by
  rw [hfx n (Nat.le_refl _),Qbr _ _ _ _ (by have:=HN.out; omega) (by have:=HN.out; omega),if_pos rfl]
 have hpa : arr.Perm (at0 arr 0 :: ar.take n):=by
  have h1:=(swapAt_perm arr 0 n (by have:=HN.out; omega) (by have:=HN.out; omega)).symm.trans (hpe.symm.trans (take_perm (n:=n) (hla.trans hl1)))
  rw [e0] at h1
  exact h1
 have hht : Qcj (ar.take n) (ar.take n).length:=by
  rw [show (ar.take n).length = n by rw [List.length_take]; omega]
  exact Qcj.take hhe
 have HX:=Zz.k (And.intro hpa (And.intro hht hgr))
 rw [e0] at hpp
 clear hla hpe hfx hhe hgg hdn hl1 H1 e0 hpa hht hgr
 go_wp2_with fail
 with_reducible refine hpp.mono ?_
 rintro e w3 ⟨rfl,h3,hf3⟩
 have H3:=Zz.k (And.intro h3 hf3)
 clear h3 hf3 hpp
 go_wp2
 go_ret
 refine ⟨rfl,ar.take n,H3.out.1,HX.out.2.1,HX.out.1, ?_⟩
 have f1:=(Fr.of_grown HG.out).trans (Fr.of_grown HX.out.2.2) (fun k hk _ => hk)
 exact (f1.mono (S':=fun k => k = p \/ k = g) (fun k hk _ => .inr (Zo hk).symm)).trans H3.out.2 (fun k hk _ => .inl hk)
end
section
open Go.Maps (Keyed IsMap has)
def ptrV : Option Nat -> Value
 | none => .pointer none
 | some p => .pointer (some ⟨p,0,none⟩)
def ptrC : Option Nat -> Int
 | none => -1
 | some p => (p : Int)
def ptrR : Value -> Option (DataW Unit × List MemPlace)
 | .pointer none => some (.lit (.int .i64 (-1)),[])
 | .pointer (some ⟨b,0,none⟩) => some (.lit (.int .i64 (b : Int)),[])
 | _ => none
theorem ptrR_V (o : Option Nat) : ptrR (ptrV o) = some (.lit (.int .i64 (ptrC o)),[]):=by cases o <;> rfl
theorem ptrR_inv {v : Value} {o : Option Nat} {ps : List MemPlace} (h : ptrR v = some (.lit (.int .i64 (ptrC o)),ps)) : v = ptrV o:=by
 unfold ptrR at h
 split at h
 ·simp only [Option.some.injEq,Prod.mk.injEq,DataW.lit.injEq,Lit.int.injEq,true_and] at h
  cases o with
  | none => rfl
  | some p => have:=h.1; simp [ptrC] at this
 ·simp only [Option.some.injEq,Prod.mk.injEq,DataW.lit.injEq,Lit.int.injEq,true_and] at h
  cases o with
  | none => have:=h.1; simp [ptrC] at this
  | some p =>
   have:=h.1
   simp only [ptrC] at this
   have:=Int.ofNat_inj.1 this
   subst this
   rfl
 ·cases h
section
variable {κ : Type} [DecidableEq κ]
def MapP (enc : κ -> Value) (K : TypeId) (w : World) (b n : Nat) (S : κ -> Option Nat) : Prop :=
 ∃ D : DataW Unit,w.ownsMap Try.prog K ptrR b n D /\ IsMap D /\ ∀ x kl,keyOf Try.prog K (enc x) = some kl -> D.atKey kl (.lit (.int .i64 (-1))) = .lit (.int .i64 (ptrC (S x)))
def updP (S : κ -> Option Nat) (x : κ) (p : Nat) : κ -> Option Nat:=fun y => if y = x then some p else S y
variable {enc : κ -> Value} {T K E : TypeId} {w w' : World} {b n : Nat} {S : κ -> Option Nat}
omit [DecidableEq κ] in
theorem MapP.made (enc : κ -> Value) (K : TypeId) (w : World) : MapP enc K (w.alloc (.map #[] 0)) w.heap.size 0 (fun _ => none) :=
 ⟨_,World.ownsMap_made _ _ _ _,Go.Maps.isMap_empty,fun x kl _ => rfl⟩
omit [DecidableEq κ] in
theorem MapP.lt (h : MapP enc K w b n S) : b < w.heap.size:=by obtain ⟨D,ho,_⟩:=h; exact ho.lt
omit [DecidableEq κ] in
theorem MapP.fr {T : Nat -> Prop} (h : MapP enc K w b n S) (hf : Fr w w' T) (hb : ¬ T b) : MapP enc K w' b n S:=by
 have hl:=h.lt
 obtain ⟨D,⟨es,clock,h1,h2⟩,hi,hD⟩:=h
 exact ⟨D,⟨es,clock,(hf.block b hl hb).trans h1,h2⟩,hi,hD⟩
omit [DecidableEq κ] in
theorem MapP.look (h : MapP enc K w b n S) (law : Keyed Try.prog K) (ht : Try.prog.underlying T = some (.map K E)) (hz : ∀ w,(zeroValue E).run Try.prog w = .ok (.pointer none) w)
  (x : κ) {kl : Lit} (hk : keyOf Try.prog K (enc x) = some kl) : (Instr.lookup T (.map (some b)) (enc x) false).run Try.prog w = .ok (ptrV (S x)) w:=by
 obtain ⟨D,ho,hi,hD⟩:=h
 obtain ⟨v,ps,hrun,hv⟩:=ho.lookup law ht (hz w) (ptrR_V none) hk
 have e : D.atKey kl (.lit (.int .i64 (ptrC none))) = .lit (.int .i64 (ptrC (S x))):=hD x kl hk
 rw [e] at hv
 rw [hrun,ptrR_inv hv]
theorem MapP.store (h : MapP enc K w b n S) (law : Keyed Try.prog K) (ht : Try.prog.underlying T = some (.map K E)) (hn : n < maxLen) (hinj : ∀ x y,enc x = enc y -> x = y)
  (x : κ) (p : Nat) {kl : Lit} (hk : keyOf Try.prog K (enc x) = some kl) :
  ∃ w',(Instr.mapUpdate T (.map (some b)) (enc x) (.pointer (some ⟨p,0,none⟩))).run Try.prog w = .ok () w' /\ MapP enc K w' b (n + 1) (updP S x p) /\ w.grownBy w' (some b):=by
 obtain ⟨D,ho,hi,hD⟩:=h
 obtain ⟨w',hrun,ho',hg⟩:=ho.update law ht hn hk (ptrR_V (some p))
 refine ⟨w',hrun,⟨_,ho',hi.put _ _,fun y kl' hk' => ?_⟩,hg⟩
 by_cases hy : y = x
 ·subst hy
  obtain rfl : kl = kl':=by rw [hk] at hk'; exact Zo hk'
  simp only [updP,if_true]
  exact Go.Maps.atKey_put_same hi (law.key hk) _ _
 ·have hne : kl' ≠ kl:=fun e => hy (hinj _ _ (law.inj hk' (by rw [e]; exact hk)))
  simp only [updP,hy,if_false]
  rw [Go.Maps.atKey_put_other hne]
  exact hD y kl' hk'
end
theorem zeroH (w : World) : (zeroValue 109).run Try.prog w = .ok (.pointer none) w:=by kernel_rfl
abbrev K3:=Int × Int × Int
def key3 (e : SElem) : K3:=(e.f0,e.f1,e.f2)
def Foot (S : K3 -> Option Nat) (V : K3 -> Value) (x : K3) (k : Nat) : Prop:=∃ p,S x = some p /\ (k = p \/ (V x).ownBlock = some k)
structure Forest (w : World) (base bU n : Nat) (S : K3 -> Option Nat) (V : K3 -> Value) (U : K3 -> List Int) : Prop where
 map : MapP encE 30 w bU n S
 some_ : ∀ x p,S x = some p -> ∃ arr,Hun w base p (V x) arr /\ Qcj arr arr.length /\ arr.Perm (U x)
 none_ : ∀ x,S x = none -> U x = []
 apart : ∀ x y k,x ≠ y -> Foot S V x k -> ¬ Foot S V y k
 rows : ∀ x k,Foot S V x k -> base <= k /\ k < w.heap.size /\ k ≠ bU
 base_ : base <= bU
def updV (V : K3 -> Value) (x : K3) (v : Value) : K3 -> Value:=fun y => if y = x then v else V y
def updU (U : K3 -> List Int) (x : K3) (l : List Int) : K3 -> List Int:=fun y => if y = x then l else U y
section
variable {w w' : World} {base bU n : Nat} {S : K3 -> Option Nat} {V : K3 -> Value} {U : K3 -> List Int}
theorem Forest.fr {T : Nat -> Prop} (h : Forest w base bU n S V U) (hf : Fr w w' T) (hb : ¬ T bU) (hT : ∀ x k,Foot S V x k -> ¬ T k) : Forest w' base bU n S V U :=
 ⟨h.map.fr hf hb,fun x p hp => by
   obtain ⟨arr,h1,h2,h3⟩:=h.some_ x p hp
   exact ⟨arr,h1.fr hf (hT x p ⟨p,hp, .inl rfl⟩) (fun k hk => hT x k ⟨p,hp, .inr hk⟩),h2,h3⟩,
  h.none_,h.apart,fun x k hk => ⟨(h.rows x k hk).1,Nat.lt_of_lt_of_le (h.rows x k hk).2.1 hf.size,(h.rows x k hk).2.2⟩,h.base_⟩
theorem Forest.below (h : Forest w base bU n S V U) (hf : Below w.heap.size w w') : Forest w' base bU n S V U :=
 h.fr (Fr.of_below hf (fun _ => False)) (fun h => h) (fun _ _ _ h => h)
theorem Forest.drew (h : Forest w base bU n S V U) : Forest w.drew base bU n S V U:=h.below (Qae (Below.refl _ w))
theorem Forest.at {x : K3} {p : Nat} {v' : Value} {arr' : List Int} {ys : List Int} (h : Forest w base bU n S V U) (hS : S x = some p) (hf : Fr w w' (fun k => k = p \/ (V x).ownBlock = some k))
  (hH : Hun w' base p v' arr') (hh : Qcj arr' arr'.length) (hp : arr'.Perm ys) (hv : v'.ownBlock = (V x).ownBlock \/ ∃ b,v'.ownBlock = some b /\ w.heap.size <= b /\ b < w'.heap.size) (hbase : base <= w.heap.size) : Forest w' base bU n S (updV V x v') (updU U x ys):=by
 have hTx : ∀ k,(k = p \/ (V x).ownBlock = some k) -> Foot S V x k:=fun k hk => ⟨p,hS,hk⟩
 have hbU : ¬ (bU = p \/ (V x).ownBlock = some bU):=fun e => (h.rows x bU (hTx bU e)).2.2 rfl
 have hfoot : ∀ y k,Foot S (updV V x v') y k -> (y ≠ x /\ Foot S V y k) \/ (y = x /\ (Foot S V x k \/ (w.heap.size <= k /\ k < w'.heap.size))):=by
  rintro y k ⟨q,hq,hk⟩
  by_cases e : y = x
  ·subst e
   refine .inr ⟨rfl, ?_⟩
   simp only [updV,if_true] at hk
   rcases hk with rfl | hk
   ·exact .inl ⟨_,hq, .inl rfl⟩
   ·rcases hv with hv | ⟨b,hb,hle,hlt⟩
    ·exact .inl ⟨_,hq, .inr (by rw [<- hv]; exact hk)⟩
    ·rw [hb] at hk; cases hk; exact .inr ⟨hle,hlt⟩
  ·simp only [updV,e,if_false] at hk
   exact .inl ⟨e,q,hq,hk⟩
 refine ⟨h.map.fr hf hbU, ?_, ?_, ?_, ?_,h.base_⟩
 ·intro y q hq
  by_cases e : y = x
  ·subst e
   rw [hS] at hq; cases hq
   simp only [updV,updU,if_true]
   exact ⟨arr',hH,hh,hp⟩
  ·simp only [updV,updU,e,if_false]
   obtain ⟨arr,h1,h2,h3⟩:=h.some_ y q hq
   have hn : ∀ k,Foot S V y k -> ¬ (k = p \/ (V x).ownBlock = some k):=fun k hk hk2 => h.apart y x k e hk (hTx k hk2)
   exact ⟨arr,h1.fr hf (hn q ⟨q,hq, .inl rfl⟩) (fun k hk => hn k ⟨q,hq, .inr hk⟩),h2,h3⟩
 ·intro y hy
  have e : y ≠ x:=by rintro rfl; rw [hS] at hy; cases hy
  simp only [updU,e,if_false]
  exact h.none_ y hy
 ·intro y z k hyz hy hz
  rcases hfoot y k hy with ⟨e1,f1⟩ | ⟨rfl,f1⟩ <;> rcases hfoot z k hz with ⟨e2,f2⟩ | ⟨rfl,f2⟩
  ·exact h.apart y z k hyz f1 f2
  ·rcases f2 with f2 | ⟨f2,_⟩
   ·exact h.apart y _ k hyz f1 f2
   ·have:=(h.rows y k f1).2.1; omega
  ·rcases f1 with f1 | ⟨f1,_⟩
   ·exact h.apart _ z k hyz f1 f2
   ·have:=(h.rows z k f2).2.1; omega
  ·exact hyz rfl
 ·intro y k hy
  rcases hfoot y k hy with ⟨_,f1⟩ | ⟨_,f1 | ⟨f1,f2⟩⟩
  ·exact ⟨(h.rows y k f1).1,Nat.lt_of_lt_of_le (h.rows y k f1).2.1 hf.size,(h.rows y k f1).2.2⟩
  ·exact ⟨(h.rows x k f1).1,Nat.lt_of_lt_of_le (h.rows x k f1).2.1 hf.size,(h.rows x k f1).2.2⟩
  ·exact ⟨by omega,f2,by have:=h.map.lt; omega⟩
theorem Forest.new {w1 w2 : World} {x : K3} {p : Nat} {v' : Value} (h : Forest w base bU n S V U) (hS : S x = none) (hf : Fr w w1 (fun _ => False)) (hp : w.heap.size <= p) (hpl : p < w1.heap.size) (hH : Hun w1 base p v' []) (hv : ∀ k,v'.ownBlock = some k -> w.heap.size <= k /\ k < w1.heap.size)
  (hm : MapP encE 30 w2 bU (n + 1) (updP S x p)) (hg : w1.grownBy w2 (some bU)) (hbase : base <= w.heap.size) : Forest w2 base bU (n + 1) (updP S x p) (updV V x v') U:=by
 have hbl:=h.map.lt
 have hf2 : Fr w w2 (fun k => k = bU):=(hf.mono (S':=fun k => k = bU) (fun _ e _ => e.elim)).trans (Fr.of_grown hg) (fun k hk _ => (Zo hk).symm)
 have hfoot : ∀ y k,Foot (updP S x p) (updV V x v') y k -> (y ≠ x /\ Foot S V y k) \/ (y = x /\ w.heap.size <= k /\ k < w1.heap.size):=by
  rintro y k ⟨q,hq,hk⟩
  by_cases e : y = x
  ·subst e
   simp only [updV,updP,if_true,Option.some.injEq] at hk hq
   subst hq
   rcases hk with rfl | hk
   ·exact .inr ⟨rfl,hp,hpl⟩
   ·exact .inr ⟨rfl,hv k hk⟩
  ·simp only [updV,updP,e,if_false] at hk hq
   exact .inl ⟨e,q,hq,hk⟩
 refine ⟨hm, ?_, ?_, ?_, ?_,h.base_⟩
 ·intro y q hq
  by_cases e : y = x
  ·subst e
   simp only [updP,if_true,Option.some.injEq] at hq
   subst hq
   simp only [updV,if_true]
   refine ⟨[],hH.fr (Fr.of_grown hg) (fun e => ?_) (fun k hk e => ?_),(fun k _ hk => absurd hk (Nat.not_lt_zero _)),by rw [h.none_ _ hS]⟩
   ·have:=Zo e; omega
   ·have:=Zo e
    have:=(hv k hk).1
    omega
  ·simp only [updV,updP,e,if_false] at hq ⊢
   obtain ⟨arr,h1,h2,h3⟩:=h.some_ y q hq
   have hn : ∀ k,Foot S V y k -> ¬ k = bU:=fun k hk => (h.rows y k hk).2.2
   exact ⟨arr,h1.fr hf2 (hn q ⟨q,hq, .inl rfl⟩) (fun k hk => hn k ⟨q,hq, .inr hk⟩),h2,h3⟩
 ·intro y hy
  by_cases e : y = x
  ·subst e; simp [updP] at hy
  ·simp only [updP,e,if_false] at hy
   exact h.none_ y hy
 ·intro y z k hyz hy hz
  rcases hfoot y k hy with ⟨e1,f1⟩ | ⟨rfl,f1⟩ <;> rcases hfoot z k hz with ⟨e2,f2⟩ | ⟨rfl,f2⟩
  ·exact h.apart y z k hyz f1 f2
  ·have:=(h.rows y k f1).2.1; omega
  ·have:=(h.rows z k f2).2.1; omega
  ·exact hyz rfl
 ·intro y k hy
  rcases hfoot y k hy with ⟨_,f1⟩ | ⟨_,f1,f2⟩
  ·exact ⟨(h.rows y k f1).1,Nat.lt_of_lt_of_le (h.rows y k f1).2.1 hf2.size,(h.rows y k f1).2.2⟩
  ·exact ⟨by omega,Nat.lt_of_lt_of_le f2 hg.size,by omega⟩
end
theorem Hun.own_lt {w : World} {base p : Nat} {v : Value} {arr : List Int} (h : Hun w base p v arr) : ∀ k,v.ownBlock = some k -> base <= k /\ k < w.heap.size:=World.ownsRow.lt h.2.2.2
theorem foot_updV {S : K3 -> Option Nat} {V : K3 -> Value} {x y : K3} {v' : Value} {k B : Nat} (hv : v'.ownBlock = (V x).ownBlock \/ ∃ b,v'.ownBlock = some b /\ B <= b) (h : Foot S (updV V x v') y k) : Foot S V y k \/ B <= k:=by
 obtain ⟨q,hq,hk⟩:=h
 by_cases e : y = x
 ·subst e
  simp only [updV,if_true] at hk
  rcases hk with rfl | hk
  ·exact .inl ⟨_,hq, .inl rfl⟩
  ·rcases hv with hv | ⟨b,hb,hle⟩
   ·exact .inl ⟨q,hq, .inr (by rw [<- hv]; exact hk)⟩
   ·rw [hb] at hk; cases hk; exact .inr hle
 ·simp only [updV,e,if_false] at hk
  exact .inl ⟨q,hq,hk⟩
theorem foot_updP {S : K3 -> Option Nat} {V : K3 -> Value} {x y : K3} {v' : Value} {p k B : Nat} (hp : B <= p) (hv : ∀ k,v'.ownBlock = some k -> B <= k) (h : Foot (updP S x p) (updV V x v') y k) : Foot S V y k \/ B <= k:=by
 obtain ⟨q,hq,hk⟩:=h
 by_cases e : y = x
 ·subst e
  simp only [updV,updP,if_true,Option.some.injEq] at hk hq
  subst hq
  rcases hk with rfl | hk
  ·exact .inr hp
  ·exact .inr (hv k hk)
 ·simp only [updV,updP,e,if_false] at hk hq
  exact .inl ⟨q,hq,hk⟩
theorem Forest.push {w : World} {base bU n : Nat} {S : K3 -> Option Nat} {V : K3 -> Value} {U : K3 -> List Int} {x : K3} {p : Nat} (h : Forest w base bU n S V U) (hS : S x = some p) (hlen : (U x).length < 900000) (hb : base <= w.heap.size) (z : Int) :
  Calls Try.prog 68 #[hungP p, .iface 3 (.int .i64 z)] w fun e w' => e = .returned (.tuple #[]) /\ ∃ v',Forest w' base bU n S (updV V x v') (updU U x (z :: U x)) /\ Fr w w' (fun k => k = p \/ (V x).ownBlock = some k) /\ (v'.ownBlock = (V x).ownBlock \/ ∃ b,v'.ownBlock = some b /\ w.heap.size <= b):=by
 obtain ⟨arr,h1,h2,h3⟩:=h.some_ x p hS
 refine (heap_Push base p (V x) arr z w h1 h2 (by rw [h3.length_eq]; exact hlen) hb).mono ?_
 rintro e w' ⟨rfl,v',arr',hH,hh,hp,hv,hf⟩
 refine ⟨rfl,v',h.at hS hf hH hh (hp.trans (h3.cons z)) ?_ hb,hf,hv⟩
 rcases hv with hv | ⟨b,hb',hle⟩
 ·exact .inl hv
 ·exact .inr ⟨b,hb',hle,(hH.own_lt b hb').2⟩
def gU (l : List SOp) : Nat -> K3 -> List Int
 | 0 => fun _ => []
 | i + 1 => if (Qar l i).f4.toList.isEmpty then gU l i else updU (gU l i) (key3 (Qar l i).f3) ((i : Int) :: gU l i (key3 (Qar l i).f3))
theorem gU_lt (l : List SOp) : ∀ i x k,k ∈ gU l i x -> 0 <= k /\ k < (i : Int)
 | 0,x,k,h => by simp [gU] at h
 | i + 1,x,k,h => by
  unfold gU at h
  split at h
  ·have:=gU_lt l i x k h; omega
  ·unfold updU at h
   split at h
   ·rcases List.mem_cons.1 h with rfl | h
    ·omega
    ·have:=gU_lt l i _ k h; omega
   ·have:=gU_lt l i x k h; omega
theorem gU_len (l : List SOp) : ∀ i x,(gU l i x).length <= i
 | 0,x => by simp [gU]
 | i + 1,x => by
  unfold gU
  split
  ·have:=gU_len l i x; omega
  ·unfold updU
   split
   ·have:=gU_len l i (key3 (Qar l i).f3); simp; omega
   ·have:=gU_len l i x; omega
end
section
attribute [local go_sem] mk_run
structure GrowI (w wr : World) (A : Option Addr) (c : Nat) (l : List SOp) (G bU i : Nat) (S : K3 -> Option Nat) (V : K3 -> Value) (n : Nat) : Prop where
 forest : Forest wr w.heap.size bU n S V (gU l i)
 below : Below w.heap.size w wr
 n_ : n <= i
 G_ : w.heap.size <= G
 GbU : G ≠ bU
 far : ∀ x k,Foot S V x k -> k ≠ G
 c0 : wr.cell? ⟨G,0,none⟩ = some (.slice A l.length c)
 c1 : wr.cell? ⟨G,1,none⟩ = some (.map (some bU))
 c2 : wr.cell? ⟨G,2,none⟩ = some (.slice none 0 0)
 fz : wr.frozen? ⟨G,2,none⟩ = false
theorem one_box {Q : World -> Prop} (W : World) (cs : Array Value) (t : TypeId) (h : ∀ w2,(∀ j,w2.cell? ⟨W.heap.size,j,none⟩ = cs[j]?) -> Below W.heap.size W w2 -> w2.heap.size = W.heap.size + 1 -> Q w2) : Q (W.alloc (.cells cs t)) :=
 h _ (fun j => by simp) (Qad (Below.refl _ _) _) (by simp)
theorem GrowI.next {w wr w' : World} {A : Option Addr} {c : Nat} {l : List SOp} {G bU i n n' : Nat} {S S' : K3 -> Option Nat} {V V' : K3 -> Value} {T : Nat -> Prop} (h : GrowI w wr A c l G bU i S V n) (hF : Forest w' w.heap.size bU n' S' V' (gU l (i + 1))) (hf : Fr wr w' T) (hTb : ∀ k,T k -> w.heap.size <= k /\ k ≠ G)
  (hfar : ∀ x k,Foot S' V' x k -> Foot S V x k \/ wr.heap.size <= k) (hn : n' <= i + 1) : GrowI w w' A c l G bU (i + 1) S' V' n' :=
 have hG : G < wr.heap.size:=World.block_lt_of_cell? wr _ h.c0
 have hTG : ¬ T G:=fun e => (hTb G e).2 rfl
 ⟨hF,h.below.trans (hf.below (fun k hk => (hTb k hk).1) h.below.size),hn,h.G_,h.GbU,fun x k hk => (hfar x k hk).elim (fun e => h.far x k e) (fun e => by omega),hf.cell hTG h.c0,hf.cell hTG h.c1,hf.cell hTG h.c2,(hf.frozen hG hTG).trans h.fz⟩
theorem gU_skip {l : List SOp} {i : Nat} {o : SOp} (ho : Qar l (i : Int) = o) (he : o.f4.toList.isEmpty = true) : gU l (i + 1) = gU l i:=by
 show (if (Qar l i).f4.toList.isEmpty then gU l i else _) = gU l i
 rw [ho,he]; rfl
theorem gU_push {l : List SOp} {i : Nat} {o : SOp} (ho : Qar l (i : Int) = o) (he : o.f4.toList.isEmpty = false) : gU l (i + 1) = updU (gU l i) (key3 o.f3) ((i : Int) :: gU l i (key3 o.f3)):=by
 show (if (Qar l i).f4.toList.isEmpty then gU l i else _) = _
 rw [ho,he]; rfl
theorem afterKey {o : SOp} (h : opOk o = true) : ∃ kl,keyOf Try.prog 30 (encE (key3 o.f3)) = some kl:=by
 have hb : (Qan o.f3 = false -> inI o.f3.f0 /\ inI o.f3.f1 /\ inI o.f3.f2):=fun hz => by
  rcases opOk_kind h with ⟨_,h⟩ | ⟨_,h⟩
  ·unfold editOk at h; simp only [Bool.and_eq_true] at h
   have h1:=h.1.1.1.1.1.1.1.1.1
   unfold Qbq at h1; rw [hz] at h1; simp at h1
   refine ⟨(nameOk_in h1.1.1).1,(nameOk_in h1.1.1).2, ?_⟩
   unfold inI; omega
  ·unfold Qbj at h; simp only [Bool.and_eq_true] at h; rw [hz] at h; simp at h
 cases hz : Qan o.f3 with
 | false => exact keyE (hb hz).1 (hb hz).2.1 (hb hz).2.2
 | true =>
  have hz' : (o.f3.f0 == 0 && (o.f3.f1 == 0 && (o.f3.f2 == 0))) = true:=hz
  simp at hz'
  refine keyE (x:=key3 o.f3) ?_ ?_ ?_ <;> simp only [key3,hz'] <;> (unfold inI; omega)
def okRow (l : List SOp) : Bool:=smalls l && decide (l.length <= 40) && l.all opOk
theorem okRow_at {l : List SOp} (h : okRow l = true) {i : Nat} (hi : i < l.length) : Sm (Qar l i) /\ opOk (Qar l i) = true:=by
 unfold okRow at h; simp only [Bool.and_eq_true] at h
 refine ⟨smalls_at h.1.1 hi, ?_⟩
 rw [Qax _ _ hi]
 exact List.all_eq_true.1 h.2 _ (List.getElem_mem hi)
theorem okRow_len {l : List SOp} (h : okRow l = true) : l.length <= 40:=by
 unfold okRow at h; simp only [Bool.and_eq_true,decide_eq_true_eq] at h; exact h.1.2
theorem grown_calls (A : Option Addr) (c : Nat) (l : List SOp) (w : World) (hr : Kd.C kOp w A l.length l) (hc : l.length <= c) (hok : okRow l = true) :
  Calls Try.prog 48 #[.slice A l.length c] w fun e w' => ∃ (G bU n : Nat) (S : K3 -> Option Nat) (V : K3 -> Value),e = .returned (.pointer (some ⟨G,0,none⟩)) /\ GrowI w w' A c l G bU l.length S V n:=by
 have HR:=Zz.k hr
 have HOK:=Zz.k hok
 have h40:=okRow_len hok
 clear hr hok
 go_enter Try.func48,Try.ntmps48
 go_wp2
 go_loopg [12] l.length (fun gg s12 wr => ∃ (i n : Nat) (S : K3 -> Option Nat) (V : K3 -> Value),s12 = .int .i64 i /\ i <= l.length /\ l.length <= gg + i /\ Zz (GrowI w wr A c l (w.heap.size + 1) w.heap.size i S V n))
 case atStart =>
  have hb1 : Below w.heap.size w (w.alloc (.map #[] 0)):=Qad (Below.refl _ _) _
  have hs1 : (w.alloc (.map #[] 0)).heap.size = w.heap.size + 1:=by simp
  have hm:=MapP.made encE 30 w
  have hb2:=Qad hb1 (.cells #[.slice A l.length c, .map (some w.heap.size), .slice none 0 0] 92)
  have hb3:=Qad (Below.refl _ (w.alloc (.map #[] 0))) (.cells #[.slice A l.length c, .map (some w.heap.size), .slice none 0 0] 92)
  have hc2:=fun j => top_cell (w.alloc (.map #[] 0)) #[.slice A l.length c, .map (some w.heap.size), .slice none 0 0] 92 _ j hs1
  have hf2:=top_frozen (w.alloc (.map #[] 0)) #[.slice A l.length c, .map (some w.heap.size), .slice none 0 0] 92 _ 2 hs1
  have hno : ∀ (V : K3 -> Value) x k,¬ Foot (fun _ => none) V x k:=fun V x k hk => by obtain ⟨p,hp,_⟩:=hk; cases hp
  exact ⟨0,0,fun _ => none,fun _ => .pointer none,rfl,Nat.zero_le _,by omega,⟨⟨⟨hm.fr (Fr.of_below hb3 (fun _ => False)) (fun h => h),fun x p hp => (by cases hp),fun x _ => rfl,fun x y k _ hk => (hno _ _ _ hk).elim,fun x k hk => (hno _ _ _ hk).elim,Nat.le_refl _⟩,hb2,Nat.le_refl _,by omega,by omega,fun x k hk => (hno _ _ _ hk).elim,hc2 0,hc2 1,hc2 2,hf2⟩⟩⟩
 case round =>
  obtain ⟨i,n,S,V,rfl,hi,hgg,HG⟩:=hrel
  by_cases hlt : i < l.length
  ·have hltz : (i : Int) < (l.length : Int):=by omega
   have h0z : (0 : Int) <= (i : Int):=by omega
   obtain ⟨ad,A7,c7,rfl,x0,x1,x2,x3,x4,x5,x6,x7,x8,x9,x10,l7,g7⟩:=at_Op (Kd.C_below HR.out HG.out.below) (i : Int) h0z hltz
   clear l7 g7
   simp only [Int.toNat_natCast] at x0 x1 x2 x3 x4 x5 x6 x7 x8 x9 x10
   have HSM:=Zz.k (okRow_at HOK.out hlt)
   generalize ho : Qar l (i : Int) = o at x0 x1 x2 x3 x4 x5 x6 x7 x8 x9 x10 HSM
   have HO:=Zz.k ho
   clear ho
   cases he : o.f4.toList.isEmpty with
   | true =>
    have HGU:=Zz.k (gU_skip HO.out he)
    go_wp2
    obtain ⟨g',rfl⟩ : ∃ g',gk = g' + 1:=⟨gk - 1,by omega⟩
    go_roundg g'
    case measure => omega
    case rel =>
     refine ⟨i + 1,n,S,V,by go_num,by omega,by omega,⟨?_⟩⟩
     exact HG.out.next (by rw [HGU.out]; exact HG.out.forest.below (Qad (Below.refl _ _) _)) (Fr.of_below (Qad (Below.refl _ _) _) (fun _ => False)) (fun _ h => h.elim) (fun _ _ h => .inl h) (by have:=HG.out.n_; omega)
   | false =>
    have HGU:=Zz.k (gU_push HO.out he)
    obtain ⟨kl,hkl⟩:=afterKey HSM.out.2
    go_upto_if 19 with (fail)
    refine one_box (Q:=Code.wp _ _ _ _) wr _ _ (fun w3 g2 gB gS => ?_)
    have o3:=g2 3; have o4:=g2 4; have o5:=g2 5
    simp only [List.getElem?_toArray,List.getElem?_cons_zero,List.getElem?_cons_succ] at o3 o4 o5
    have d1:=Qaa gB HG.out.c1
    have HGB:=Zz.k gB
    have hF3:=HG.out.forest.below gB
    have hlk:=fun (X : World) (hX : Forest X w.heap.size w.heap.size n S V (gU l i)) => hX.map.look lawE Try.underlying90 zeroH (key3 o.f3) hkl
    simp only [encE,key3] at hlk
    have HLK:=Zz.k hlk
    have lw3 : w.heap.size <= w3.heap.size:=Nat.le_trans HG.out.below.size gB.size
    have lG : w.heap.size + 1 < wr.heap.size:=World.block_lt_of_cell? wr _ HG.out.c1
    clear g2 gB x0 x1 x2 x3 x4 x5 x6 x7 x8 x9 x10 hlk
    cases hS : S (o.f3.f0,o.f3.f1,o.f3.f2) with
    | some p =>
     have hL:=HLK.out w3.drew hF3.drew
     rw [hS] at hL
     simp only [ptrV] at hL
     have HF3:=Zz.k hF3
     have HP:=Zz.k (Forest.push (w:=w3.drew.drew) hF3.drew.drew hS (by have:=gU_len l i (key3 o.f3); show (gU l i (key3 o.f3)).length < 900000; omega) lw3 (i : Int))
     clear hF3
     go_wp2
     refine stR (S:=fun w' => w'.cell? ⟨w.heap.size + 1,1,none⟩ = some (.map (some w.heap.size)) /\ w'.cell? ⟨wr.heap.size,3,none⟩ = some (.int .i64 o.f3.f0) /\ w'.cell? ⟨wr.heap.size,4,none⟩ = some (.int .i64 o.f3.f1) /\ w'.cell? ⟨wr.heap.size,5,none⟩ = some (.int .i64 o.f3.f2) /\ (Instr.lookup 90 (.map (some w.heap.size)) (.agg #[.int .i64 o.f3.f0, .int .i64 o.f3.f1, .int .i64 o.f3.f2]) false).run Try.prog w' = .ok (.pointer (some ⟨p,0,none⟩)) w')
      8 t_tree_grown.bits6 t_tree_grown.tab6 (hS:=⟨d1,o3,o4,o5,hL⟩) (h:=fun hS' HT HW => ?_)
     refine pu HT 0 20 1 (h := ?_)
     refine pu HT 1 21 3 (h := ?_)
     refine pu HT 2 22 7 (h := ?_)
     refine tk HT HW hS' 3 23 15 (h := ?_)
     refine pu HT 4 24 31 (h := ?_)
     refine tk HT HW hS' 5 25 63 (h := ?_)
     refine tk HT HW hS' 6 26 127 (h := ?_)
     refine pu HT 7 27 255 (h := ?_)
     refine dn HT (h := ?_)
     clear HT HW hS'
     go_wp2
     have hL2 : (Instr.lookup 90 (.map (some w.heap.size)) (.agg #[.int .i64 o.f3.f0, .int .i64 o.f3.f1, .int .i64 o.f3.f2]) false).run Try.prog w3.drew.drew = .ok (.pointer (some ⟨p,0,none⟩)) w3.drew.drew:=by
      have:=HLK.out w3.drew.drew HF3.out.drew.drew
      rw [hS] at this
      exact this
     refine stL (S:=fun w' => w'.cell? ⟨w.heap.size + 1,1,none⟩ = some (.map (some w.heap.size)) /\ w'.cell? ⟨wr.heap.size,3,none⟩ = some (.int .i64 o.f3.f0) /\ w'.cell? ⟨wr.heap.size,4,none⟩ = some (.int .i64 o.f3.f1) /\ w'.cell? ⟨wr.heap.size,5,none⟩ = some (.int .i64 o.f3.f2) /\ (Instr.lookup 90 (.map (some w.heap.size)) (.agg #[.int .i64 o.f3.f0, .int .i64 o.f3.f1, .int .i64 o.f3.f2]) false).run Try.prog w' = .ok (.pointer (some ⟨p,0,none⟩)) w')
      [10] 11 t_tree_grown.bits8 t_tree_grown.tab8 (hS:=⟨d1,o3,o4,o5,hL2⟩) (h:=fun hS' HT HW => ?_)
     refine pu HT 0 36 1 (h := ?_)
     refine pu HT 1 37 3 (h := ?_)
     refine pu HT 2 38 7 (h := ?_)
     refine tk HT HW hS' 3 39 15 (h := ?_)
     refine pu HT 4 40 31 (h := ?_)
     refine tk HT HW hS' 5 41 63 (h := ?_)
     refine tk HT HW hS' 6 42 127 (h := ?_)
     refine pu HT 7 43 255 (h := ?_)
     refine pu HT 8 44 511 (h := ?_)
     refine pu HT 9 45 1023 (h := ?_)
     refine caL HT 10 (some 46) 2047 #[hungP p, .iface 3 (.int .i64 (i : Int))] Try.func68 (h := ?_)
     refine HP.out.mono ?_
     rintro e w8 ⟨rfl,v',hF8,hf8,hv8⟩
     refine ⟨_,rfl, ?_⟩
     have HF8:=Zz.k hF8
     have Hf8:=Zz.k hf8
     have HV8:=Zz.k hv8
     clear hF8 hf8 hv8 hS' hL hL2
     refine nm (h := ?_)
     refine dn HT (h := ?_)
     clear HT HW
     go_wp2
     obtain ⟨g',rfl⟩ : ∃ g',gk = g' + 1:=⟨gk - 1,by omega⟩
     go_roundg g'
     case measure => omega
     case rel =>
      refine ⟨i + 1,n,S,_,by go_num,by omega,by omega,⟨HG.out.next (by rw [HGU.out]; exact HF8.out) ((Fr.of_below (Qae (Qae HGB.out)) _).trans Hf8.out (fun k hk _ => hk)) (fun k hk => ?_) (fun x k hk => ?_) (by have:=HG.out.n_; omega)⟩⟩
      ·have:=HG.out.forest.rows _ k ⟨p,hS,hk⟩
       exact ⟨this.1,HG.out.far _ k ⟨p,hS,hk⟩⟩
      ·rcases foot_updV HV8.out hk with h | h
       ·exact .inl h
       ·exact .inr (Nat.le_trans HGB.out.size h)
    | none =>
     have hL:=HLK.out w3.drew hF3.drew
     rw [hS] at hL
     simp only [ptrV] at hL
     have HF3:=Zz.k hF3
     clear hF3
     go_wp2
     refine stR (S:=fun w' => w'.cell? ⟨w.heap.size + 1,1,none⟩ = some (.map (some w.heap.size)) /\ w'.cell? ⟨wr.heap.size,3,none⟩ = some (.int .i64 o.f3.f0) /\ w'.cell? ⟨wr.heap.size,4,none⟩ = some (.int .i64 o.f3.f1) /\ w'.cell? ⟨wr.heap.size,5,none⟩ = some (.int .i64 o.f3.f2) /\ (Instr.lookup 90 (.map (some w.heap.size)) (.agg #[.int .i64 o.f3.f0, .int .i64 o.f3.f1, .int .i64 o.f3.f2]) false).run Try.prog w' = .ok (.pointer none) w')
      8 t_tree_grown.bits6 t_tree_grown.tab6 (hS:=⟨d1,o3,o4,o5,hL⟩) (h:=fun hS' HT HW => ?_)
     refine pu HT 0 20 1 (h := ?_)
     refine pu HT 1 21 3 (h := ?_)
     refine pu HT 2 22 7 (h := ?_)
     refine tk HT HW hS' 3 23 15 (h := ?_)
     refine pu HT 4 24 31 (h := ?_)
     refine tk HT HW hS' 5 25 63 (h := ?_)
     refine tk HT HW hS' 6 26 127 (h := ?_)
     refine pu HT 7 27 255 (h := ?_)
     refine dn HT (h := ?_)
     clear HT HW hS' hL
     go_wp2
     refine stL (S:=fun w' => w'.cell? ⟨w.heap.size + 1,1,none⟩ = some (.map (some w.heap.size)) /\ w'.cell? ⟨wr.heap.size,3,none⟩ = some (.int .i64 o.f3.f0) /\ w'.cell? ⟨wr.heap.size,4,none⟩ = some (.int .i64 o.f3.f1) /\ w'.cell? ⟨wr.heap.size,5,none⟩ = some (.int .i64 o.f3.f2))
      [8] 9 t_tree_grown.bits7 t_tree_grown.tab7 (hS:=⟨d1,o3,o4,o5⟩) (h:=fun hS' HT HW => ?_)
     refine pu HT 0 28 1 (h := ?_)
     refine pu HT 1 29 3 (h := ?_)
     refine pu HT 2 30 7 (h := ?_)
     refine tk HT HW hS' 3 31 15 (h := ?_)
     refine pu HT 4 32 31 (h := ?_)
     refine tk HT HW hS' 5 33 63 (h := ?_)
     refine exS HT 6 (some 34) 127 (.slice (some ⟨w3.drew.drew.heap.size,0,none⟩) 0 0) (w3.drew.drew.alloc (.cells #[] 3)) (hrun := ?_) (hS := ?_) (h:=fun hS' => ?_)
     ·clear HT HW hS'
      go_simp
     ·have hb:=Qad (Below.refl _ w3.drew.drew) (.cells #[] 3)
      exact ⟨Qaa hb hS'.1,Qaa hb hS'.2.1,Qaa hb hS'.2.2.1,Qaa hb hS'.2.2.2⟩
     refine nm (h := ?_)
     have hsz : (w3.drew.drew.alloc (.cells #[] 3)).heap.size = w3.drew.drew.heap.size + 1:=by simp
     refine exS HT 7 (some 35) 255 (.pointer (some ⟨w3.drew.drew.heap.size + 1,0,none⟩)) ((w3.drew.drew.alloc (.cells #[] 3)).alloc (.cells #[.slice (some ⟨w3.drew.drew.heap.size,0,none⟩) 0 0] 110)) (hrun := ?_) (hS := ?_) (h:=fun hS' => ?_)
     ·clear HT HW hS'
      go_simp
     ·have hb:=Qad (Below.refl _ (w3.drew.drew.alloc (.cells #[] 3))) (.cells #[.slice (some ⟨w3.drew.drew.heap.size,0,none⟩) 0 0] 110)
      exact ⟨Qaa hb hS'.1,Qaa hb hS'.2.1,Qaa hb hS'.2.2.1,Qaa hb hS'.2.2.2⟩
     refine nm (h := ?_)
     have hb5 : Below w3.drew.drew.heap.size w3.drew.drew (w3.drew.drew.alloc (.cells #[] 3)):=Qad (Below.refl _ w3.drew.drew) _
     have hr5 : RowI (w3.drew.drew.alloc (.cells #[] 3)) w.heap.size w3.drew.drew.heap.size 0 []:=World.ownsRow_made w3.drew.drew #[] 0 lw3 (by decide) rfl
     have hF5:=HF3.out.drew.drew.below hb5
     have hb6:=Qad (Below.refl _ (w3.drew.drew.alloc (.cells #[] 3))) (.cells #[.slice (some ⟨w3.drew.drew.heap.size,0,none⟩) 0 0] 110)
     have hc6:=top_cell (w3.drew.drew.alloc (.cells #[] 3)) #[.slice (some ⟨w3.drew.drew.heap.size,0,none⟩) 0 0] 110 _ 0 hsz
     have hf6:=top_frozen (w3.drew.drew.alloc (.cells #[] 3)) #[.slice (some ⟨w3.drew.drew.heap.size,0,none⟩) 0 0] 110 _ 0 hsz
     have hsz6 : ((w3.drew.drew.alloc (.cells #[] 3)).alloc (.cells #[.slice (some ⟨w3.drew.drew.heap.size,0,none⟩) 0 0] 110)).heap.size = w3.drew.drew.heap.size + 1 + 1:=by simp
     have hH6 : Hun ((w3.drew.drew.alloc (.cells #[] 3)).alloc (.cells #[.slice (some ⟨w3.drew.drew.heap.size,0,none⟩) 0 0] 110)) w.heap.size (w3.drew.drew.heap.size + 1) (.slice (some ⟨w3.drew.drew.heap.size,0,none⟩) 0 0) [] :=
      ⟨hc6,hf6,(by simp [Value.ownBlock]),(Fr.of_below hb6 (fun _ => False)).row hr5 (fun _ _ h => h)⟩
     have hb46:=Qal hb5 hb6
     have hd1:=Qaa hb46 (show w3.drew.drew.cell? _ = _ from d1)
     have ho3:=Qaa hb46 (show w3.drew.drew.cell? _ = _ from o3)
     have ho4:=Qaa hb46 (show w3.drew.drew.cell? _ = _ from o4)
     have ho5:=Qaa hb46 (show w3.drew.drew.cell? _ = _ from o5)
     generalize (w3.drew.drew.alloc (.cells #[] 3)).alloc (.cells #[.slice (some ⟨w3.drew.drew.heap.size,0,none⟩) 0 0] 110) = w6 at *
     have hF6:=HF3.out.drew.drew.below hb46
     obtain ⟨w7,hrun7,hm7,hg7⟩:=hF6.map.store lawE Try.underlying90 (Nat.lt_of_le_of_lt HG.out.n_ (Nat.lt_of_lt_of_le hlt (Nat.le_trans h40 (by decide)))) encE_inj (key3 o.f3) (w3.drew.drew.heap.size + 1) hkl
     simp only [encE,key3] at hrun7
     have hF7:=Forest.new (p:=w3.drew.drew.heap.size + 1) HF3.out.drew.drew hS (Fr.of_below hb46 _) (Nat.le_succ _) (by rw [hsz6]; omega) hH6 (fun k hk => by cases hk; exact ⟨Nat.le_refl _,by rw [hsz6]; exact Nat.lt_succ_of_lt (Nat.lt_succ_self _)⟩) hm7 hg7 lw3
     refine mu HT 8 511 w7 (hrun:=hrun7) (h := ?_)
     refine dn HT (h := ?_)
     have e1:=cell_grown' hg7 (fun e => by have:=Zo e; simp only at this; omega) hd1
     have e3:=cell_grown' hg7 (fun e => by have:=Zo e; simp only at this; omega) ho3
     have e4:=cell_grown' hg7 (fun e => by have:=Zo e; simp only at this; omega) ho4
     have e5:=cell_grown' hg7 (fun e => by have:=Zo e; simp only at this; omega) ho5
     have hup : updP S (o.f3.f0,o.f3.f1,o.f3.f2) (w3.drew.drew.heap.size + 1) (o.f3.f0,o.f3.f1,o.f3.f2) = some (w3.drew.drew.heap.size + 1):=by simp [updP]
     have HF7:=Zz.k hF7
     have HG7:=Zz.k (And.intro hb46 (And.intro hg7 hsz6))
     have lw7 : w.heap.size <= w7.drew.heap.size:=Nat.le_trans lw3 (Nat.le_trans (show w3.heap.size <= w6.heap.size from hb46.size) hg7.size)
     have HP:=Zz.k (Forest.push (w:=w7.drew) hF7.drew hup (by have:=gU_len l i (key3 o.f3); show (gU l i (key3 o.f3)).length < 900000; omega) lw7 (i : Int))
     have hL:=(hF7.drew).map.look lawE Try.underlying90 zeroH (key3 o.f3) hkl
     simp only [encE,key3] at hL
     rw [hup] at hL
     simp only [ptrV] at hL
     clear HT HW hS' hF7 hb46 hg7 hsz6 hm7 hF6 hb5 hr5 hF5 hb6 hc6 hf6 hH6 hd1 ho3 ho4 ho5 hrun7 hsz d1 o3 o4 o5 hup
     generalize hpp : w3.drew.drew.heap.size + 1 = pp at *
     go_wp2
     refine stL (S:=fun w' => w'.cell? ⟨w.heap.size + 1,1,none⟩ = some (.map (some w.heap.size)) /\ w'.cell? ⟨wr.heap.size,3,none⟩ = some (.int .i64 o.f3.f0) /\ w'.cell? ⟨wr.heap.size,4,none⟩ = some (.int .i64 o.f3.f1) /\ w'.cell? ⟨wr.heap.size,5,none⟩ = some (.int .i64 o.f3.f2) /\ (Instr.lookup 90 (.map (some w.heap.size)) (.agg #[.int .i64 o.f3.f0, .int .i64 o.f3.f1, .int .i64 o.f3.f2]) false).run Try.prog w' = .ok (.pointer (some ⟨pp,0,none⟩)) w')
      [10] 11 t_tree_grown.bits8 t_tree_grown.tab8 (hS:=⟨e1,e3,e4,e5,hL⟩) (h:=fun hS' HT HW => ?_)
     refine pu HT 0 36 1 (h := ?_)
     refine pu HT 1 37 3 (h := ?_)
     refine pu HT 2 38 7 (h := ?_)
     refine tk HT HW hS' 3 39 15 (h := ?_)
     refine pu HT 4 40 31 (h := ?_)
     refine tk HT HW hS' 5 41 63 (h := ?_)
     refine tk HT HW hS' 6 42 127 (h := ?_)
     refine pu HT 7 43 255 (h := ?_)
     refine pu HT 8 44 511 (h := ?_)
     refine pu HT 9 45 1023 (h := ?_)
     refine caL HT 10 (some 46) 2047 #[hungP pp, .iface 3 (.int .i64 (i : Int))] Try.func68 (h := ?_)
     refine HP.out.mono ?_
     rintro e w8 ⟨rfl,v',hF8,hf8,hv8⟩
     refine ⟨_,rfl, ?_⟩
     have HF8:=Zz.k hF8
     have Hf8:=Zz.k hf8
     have HV8:=Zz.k hv8
     clear hF8 hf8 hv8 hS' hL e1 e3 e4 e5
     refine nm (h := ?_)
     refine dn HT (h := ?_)
     clear HT HW
     go_wp2
     obtain ⟨g',rfl⟩ : ∃ g',gk = g' + 1:=⟨gk - 1,by omega⟩
     go_roundg g'
     case measure => omega
     case rel =>
      have hlp : wr.heap.size <= pp:=by rw [<- hpp]; exact Nat.le_succ_of_le HGB.out.size
      have f1 : Fr wr w6 (fun k => k = w.heap.size \/ wr.heap.size <= k):=Fr.of_below (Qal (Qae (Qae HGB.out)) HG7.out.1) _
      have f2 : Fr wr w7 (fun k => k = w.heap.size \/ wr.heap.size <= k):=f1.trans (Fr.of_grown HG7.out.2.1) (fun k hk _ => .inl (Zo hk).symm)
      have f3 : Fr wr w7.drew (fun k => k = w.heap.size \/ wr.heap.size <= k):=f2.trans (Fr.of_below (Qae (Below.refl _ w7)) (fun _ => False)) (fun _ h _ => h.elim)
      have hfo : ∀ x k,Foot (updP S (o.f3.f0,o.f3.f1,o.f3.f2) pp) (updV V (o.f3.f0,o.f3.f1,o.f3.f2) (.slice (some ⟨w3.drew.drew.heap.size,0,none⟩) 0 0)) x k -> Foot S V x k \/ wr.heap.size <= k:=fun x k hk => foot_updP hlp (fun k hk => by cases hk; exact HGB.out.size) hk
      refine ⟨i + 1,n + 1,_,_,by go_num,by omega,by omega,⟨HG.out.next (T:=fun k => k = w.heap.size \/ wr.heap.size <= k) (by rw [HGU.out]; exact HF8.out) (f3.trans Hf8.out (fun k hk hlt => ?_)) (fun k hk => ?_) (fun x k hk => ?_) (by have:=HG.out.n_; omega)⟩⟩
      ·rcases hk with rfl | hk
       ·exact .inr hlp
       ·simp only [updV,if_true,Value.ownBlock,Option.some.injEq] at hk
        exact .inr (by rw [<- hk]; exact HGB.out.size)
      ·rcases hk with rfl | hk
       ·exact ⟨Nat.le_refl _,by omega⟩
       ·exact ⟨Nat.le_trans HG.out.below.size hk,by omega⟩
      ·rcases foot_updV HV8.out hk with h | h
       ·exact hfo x k h
       ·exact .inr (Nat.le_trans HGB.out.size (Nat.le_trans (show w3.heap.size <= w6.heap.size from HG7.out.1.size) (Nat.le_trans HG7.out.2.1.size h)))
  ·obtain rfl : i = l.length:=by omega
   have hltz : ¬ (l.length : Int) < (l.length : Int):=by omega
   go_wp2
   go_ret
   exact ⟨w.heap.size + 1,rfl,w.heap.size,n,S,V,HG.out⟩
end
section
def nameIs (site seq : Int) (o : SOp) : Bool:=o.f0 == site && o.f1 == seq
theorem Find1_calls (o : SOp) (A7 : Option Addr) (c7 b1 b2 : Nat) (site seq : Int) (W : World) (h1 : W.cell? ⟨b1,0,none⟩ = some (.int .i64 site)) (h2 : W.cell? ⟨b2,0,none⟩ = some (.int .i64 seq)) :
  Calls Try.prog 75 #[opV o A7 c7, .pointer (some ⟨b1,0,none⟩), .pointer (some ⟨b2,0,none⟩)] W fun e w' => e = .returned (.bool (nameIs site seq o)) /\ Below W.heap.size W w':=by
 have l1:=World.block_lt_of_cell? W _ h1
 have l2:=World.block_lt_of_cell? W _ h2
 simp only at l1 l2
 unfold opV
 cases hq : (o.f0 == site)
 ·have e : nameIs site seq o = false:=by simp [nameIs,hq]
  rw [e]
  go_enter Try.func75,Try.ntmps75
  go_wp2
  go_ret
  exact ⟨rfl,(Below.refl _ _).alloc (Nat.le_refl _) _⟩
 ·have e : nameIs site seq o = (o.f1 == seq):=by simp [nameIs,hq]
  rw [e]
  go_enter Try.func75,Try.ntmps75
  go_wp2
  go_ret
  exact ⟨rfl,(Below.refl _ _).alloc (Nat.le_refl _) _⟩
def Qay (l : List SOp) (site seq : Int) : Int:=Qav (fun i => nameIs site seq (Qar l i)) l.length l.length 0
def tree_Find.f (l0 : List (SOp)) (a1 : Int) (a2 : Int) : Option (Int):=if l0.length <= 9223372036854775807 then some (Qay l0 a1 a2) else none
theorem tree_Find.calls (A0 : Option Addr) (c0 : Nat) (l0 : List (SOp)) (a1 : Int) (a2 : Int) (r : Int) (w : World) (hr0 : Kd.C kOp w A0 l0.length l0) (hc0 : l0.length <= c0) (h : tree_Find.f l0 a1 a2 = some r) :
  Calls Try.prog 62 #[.slice A0 l0.length c0, .int .i64 a1, .int .i64 a2] w fun e w' => e = .returned (.int .i64 r) /\ Below w.heap.size w w':=by
 unfold tree_Find.f at h
 split at h
 ·obtain rfl:=Zo h
  clear h
  have eg:=enters_at Try.func75 (by kernel_rfl) rfl
  have hm : l0.length <= 9223372036854775807:=‹_›
  have cI:=fun W => IndexFuncOp 75 #[.pointer (some ⟨w.heap.size,0,none⟩), .pointer (some ⟨w.heap.size + 1,0,none⟩)] A0 c0 l0 (fun i => nameIs a1 a2 (Qar l0 i))
   (fun _ W => Below w.heap.size w W /\ W.cell? ⟨w.heap.size,0,none⟩ = some (.int .i64 a1) /\ W.cell? ⟨w.heap.size + 1,0,none⟩ = some (.int .i64 a2))
   (fun _ W => Below w.heap.size w W) W eg hm
  have HC:=Zz.k cI
  have HR:=Zz.k hr0
  clear cI hr0 eg
  go_enter Try.func62,Try.ntmps62
  go_wp2_with fail
  refine (HC.out _ ⟨((Below.refl _ w).alloc (Nat.le_refl _) _).alloc (by simp) _,by simp,by simp⟩ (fun i W hI => Kd.C_below HR.out hI.1) ?_).mono ?_
  ·intro i W A7 c7 hi hI hl hC
   refine (Find1_calls (Qar l0 i) A7 c7 _ _ a1 a2 W hI.2.1 hI.2.2).mono ?_
   rintro e w' ⟨rfl,hb⟩
   have b:=hI.1.trans (hb.mono hI.1.size)
   exact ⟨rfl,fun _ => b,fun _ => ⟨b,(hb.cell (World.block_lt_of_cell? W _ hI.2.1)).trans hI.2.1,(hb.cell (World.block_lt_of_cell? W _ hI.2.2)).trans hI.2.2⟩⟩
  ·rintro e w' ⟨rfl,hp⟩
   have hb : Below w.heap.size w w':=by
    rcases hp with ⟨_,_,_,_,h⟩ | ⟨_,h,_⟩ <;> exact h
   clear hp
   go_wp2
   go_ret
   exact ⟨rfl,hb⟩
 ·cases h
end
section
def flatE (xs : List SElem) : List Value:=xs.flatMap (fun x => [.int .i64 x.f0, .int .i64 x.f1, .int .i64 x.f2])
abbrev RowE (w : World) (base : Nat) (v : Value) (xs : List SElem) : Prop:=w.ownsRow base 30 3 v xs.length (flatE xs)
theorem flatE_snoc (xs : List SElem) (x : SElem) : flatE (xs ++ [x]) = flatE xs ++ [.int .i64 x.f0, .int .i64 x.f1, .int .i64 x.f2]:=by simp [flatE]
theorem RowE.snoc {w : World} {base : Nat} {v : Value} {xs : List SElem} {x : SElem} (h : w.ownsRow base 30 3 v (xs.length + 1) (flatE xs ++ [.int .i64 x.f0, .int .i64 x.f1, .int .i64 x.f2])) : RowE w base v (xs ++ [x]):=by
 unfold RowE
 rw [flatE_snoc,List.length_append]
 exact h
theorem RowE.nil (w : World) (base : Nat) : RowE w base (.slice none 0 0) []:=World.ownsRow_nil w base _ _
theorem pop_max {arr : List Int} {m : Int} {us : List Int} (hh : Qcj arr arr.length) (hp : arr.Perm (m :: us)) (hs : (m :: us).Pairwise (fun a b => b <= a)) : at0 arr 0 = m:=by
 have hl : arr.length = us.length + 1:=hp.length_eq
 have hm0 : at0 arr 0 ∈ arr:=by
  unfold at0; rw [List.getD_eq_getElem?_getD,List.getElem?_eq_getElem (by omega)]; exact List.getElem_mem _
 have h1 : at0 arr 0 <= m:=by
  rcases List.mem_cons.1 (hp.mem_iff.1 hm0) with h | h
  ·omega
  ·exact (List.pairwise_cons.1 hs).1 _ h
 have hm : m ∈ arr:=hp.mem_iff.2 (List.mem_cons_self)
 obtain ⟨i,hi,rfl⟩:=List.getElem_of_mem hm
 have h2:=hh.root i hi
 have e : at0 arr i = arr[i]:=by unfold at0; rw [List.getD_eq_getElem?_getD,List.getElem?_eq_getElem hi]; rfl
 omega
theorem Forest.pop {w : World} {base bU n : Nat} {S : K3 -> Option Nat} {V : K3 -> Value} {U : K3 -> List Int} {x : K3} {p : Nat} {m : Int} {us : List Int} (h : Forest w base bU n S V U) (hS : S x = some p) (hU : U x = m :: us) (hs : (m :: us).Pairwise (fun a b => b <= a)) (hlen : us.length < 800000) (hb : base <= w.heap.size) :
  (∃ A c,V x = .slice A (us.length + 1) c) /\ w.cell? ⟨p,0,none⟩ = some (V x) /\
  Calls Try.prog 81 #[hungP p] w fun e w' => e = .returned (.iface 3 (.int .i64 m)) /\ ∃ v',Forest w' base bU n S (updV V x v') (updU U x us) /\ Fr w w' (fun k => k = p \/ (V x).ownBlock = some k) /\ v'.ownBlock = (V x).ownBlock:=by
 obtain ⟨arr,h1,h2,h3⟩:=h.some_ x p hS
 rw [hU] at h3
 have hl : arr.length = us.length + 1:=h3.length_eq
 have hm:=pop_max h2 h3 hs
 rcases h1.len with ⟨_,hz⟩ | ⟨g,c,hv⟩
 ·rw [hz] at hl; simp at hl
 ·refine ⟨⟨_,c,by rw [hv,hl]⟩,h1.1, ?_⟩
  rw [hv] at h1
  refine (heap_Pop base p g c us.length arr w h1 h2 hl (by omega)).mono ?_
  rintro e w' ⟨rfl,arr',hH,hh,hp,hf⟩
  rw [hm] at hp ⊢
  have hp' : arr'.Perm us:=((List.perm_cons m).1 (hp.symm.trans h3))
  have hf' : Fr w w' (fun k => k = p \/ (V x).ownBlock = some k):=by
   rw [hv]
   exact hf.mono (fun k hk _ => by rcases hk with rfl | rfl <;> simp [Value.ownBlock])
  refine ⟨rfl,_,h.at hS hf' hH hh hp' (.inl (by rw [hv]; rfl)) hb,hf',by rw [hv]; rfl⟩
theorem Forest.empty {w : World} {base bU n : Nat} {S : K3 -> Option Nat} {V : K3 -> Value} {U : K3 -> List Int} {x : K3} {p : Nat} (h : Forest w base bU n S V U) (hS : S x = some p) (hU : U x = []) : (∃ A c,V x = .slice A 0 c) /\ w.cell? ⟨p,0,none⟩ = some (V x):=by
 obtain ⟨arr,h1,h2,h3⟩:=h.some_ x p hS
 rw [hU] at h3
 have hl : arr = []:=List.perm_nil.1 h3
 refine ⟨?_,h1.1⟩
 rcases h1.len with ⟨hv,hz⟩ | ⟨g,c,hv⟩
 ·exact ⟨_,_,hv⟩
 ·exact ⟨_,c,by rw [hv,hl]; rfl⟩
end
section
attribute [local go_sem] ta_int
structure Gs (w0 w : World) (A : Option Addr) (c : Nat) (l : List SOp) (G bU n : Nat) (S : K3 -> Option Nat) (V : K3 -> Value) (U : K3 -> List Int) : Prop where
 forest : Forest w w0.heap.size bU n S V U
 below : Below w0.heap.size w0 w
 G_ : w0.heap.size <= G
 GbU : G ≠ bU
 far : ∀ x k,Foot S V x k -> k ≠ G
 c0 : w.cell? ⟨G,0,none⟩ = some (.slice A l.length c)
 c1 : w.cell? ⟨G,1,none⟩ = some (.map (some bU))
theorem GrowI.gs {w0 w : World} {A : Option Addr} {c : Nat} {l : List SOp} {G bU i n : Nat} {S : K3 -> Option Nat} {V : K3 -> Value} (h : GrowI w0 w A c l G bU i S V n) : Gs w0 w A c l G bU n S V (gU l i):=⟨h.forest,h.below,h.G_,h.GbU,h.far,h.c0,h.c1⟩
section
variable {w0 w w' : World} {A : Option Addr} {c : Nat} {l : List SOp} {G bU n : Nat} {S : K3 -> Option Nat} {V V' : K3 -> Value} {U U' : K3 -> List Int}
theorem Gs.with {T : Nat -> Prop} (h : Gs w0 w A c l G bU n S V U) (hF : Forest w' w0.heap.size bU n S V' U') (hf : Fr w w' T) (hT : ∀ k,T k -> w0.heap.size <= k /\ k ≠ G) (hfar : ∀ x k,Foot S V' x k -> Foot S V x k \/ w.heap.size <= k) : Gs w0 w' A c l G bU n S V' U' :=
 have hG : G < w.heap.size:=World.block_lt_of_cell? w _ h.c0
 have hTG : ¬ T G:=fun e => (hT G e).2 rfl
 ⟨hF,h.below.trans (hf.below (fun k hk => (hT k hk).1) h.below.size),h.G_,h.GbU,fun x k hk => (hfar x k hk).elim (fun e => h.far x k e) (fun e => by omega),hf.cell hTG h.c0,hf.cell hTG h.c1⟩
theorem Gs.down (h : Gs w0 w A c l G bU n S V U) (hb : Below w.heap.size w w') : Gs w0 w' A c l G bU n S V U:=h.with (h.forest.below hb) (Fr.of_below hb (fun _ => False)) (fun _ h => h.elim) (fun _ _ h => .inl h)
theorem Gs.drew (h : Gs w0 w A c l G bU n S V U) : Gs w0 w.drew A c l G bU n S V U:=h.down (Qae (Below.refl _ _))
end
def atE (l : List SOp) (i : Int) : SElem:=⟨(Qar l i).f0,(Qar l i).f1,0⟩
def nextL (l : List SOp) (e : SElem) : List SElem :=
 if 0 <= Qay l e.f0 e.f1 /\ wrap64 (e.f2 + 1) < (Qaj (Qar l (Qay l e.f0 e.f1)) : Int) then [⟨(Qar l (Qay l e.f0 e.f1)).f0,(Qar l (Qay l e.f0 e.f1)).f1,wrap64 (e.f2 + 1)⟩] else []
def belowL (l : List SOp) (us : List Int) (e : SElem) : List SElem:=us.map (atE l) ++ nextL l e
def Falls (l : List SOp) (us : List Int) : Prop:=us.Pairwise (fun a b => b <= a) /\ ∀ k ∈ us,0 <= k /\ k < (l.length : Int)
structure BelI (w0 w wr : World) (A : Option Addr) (c : Nat) (l : List SOp) (G bU n : Nat) (S : K3 -> Option Nat) (V V' : K3 -> Value) (U : K3 -> List Int) (e : SElem) (us : List Int) (v : Value) (xs : List SElem) : Prop where
 gs : Gs w0 wr A c l G bU n S V' (updU U (key3 e) us)
 fr : Fr w wr (fun k => Foot S V (key3 e) k)
 feet : ∀ x k,Foot S V' x k -> Foot S V x k
 row : RowE wr w.heap.size v xs
 e0 : wr.cell? ⟨w.heap.size,0,none⟩ = some (.int .i64 e.f0)
 e1 : wr.cell? ⟨w.heap.size,1,none⟩ = some (.int .i64 e.f1)
 e2 : wr.cell? ⟨w.heap.size,2,none⟩ = some (.int .i64 e.f2)
 ne : v.ownBlock ≠ some w.heap.size
theorem firstAt_range (p : Nat -> Bool) (n : Nat) : ∀ d k,0 <= Qav p n d k -> Qav p n d k < (n : Int)
 | 0,k,h => by simp [Qav] at h
 | d + 1,k,h => by
  unfold Qav at h ⊢
  split
  ·split
   ·omega
   ·rename_i h1 h2
    rw [if_pos h1,if_neg h2] at h
    exact firstAt_range p n d _ h
  ·rename_i h1
   rw [if_neg h1] at h
   omega
theorem findOp_range (l : List SOp) (a b : Int) : 0 <= Qay l a b -> Qay l a b < (l.length : Int):=firstAt_range _ _ _ _
theorem updU_same (U : K3 -> List Int) (x : K3) : updU U x (U x) = U:=by
 funext y; unfold updU; split
 ·rename_i h; rw [h]
 ·rfl
theorem updU_two (U : K3 -> List Int) (x : K3) (a b : List Int) : updU (updU U x a) x b = updU U x b:=by
 funext y; unfold updU; split <;> rfl
section
variable {w0 w wr w' : World} {A : Option Addr} {c : Nat} {l : List SOp} {G bU n : Nat} {S : K3 -> Option Nat} {V V' : K3 -> Value} {U : K3 -> List Int} {e : SElem} {us us' : List Int} {v : Value} {xs : List SElem}
theorem BelI.popped {p : Nat} {v' : Value} (h : BelI w0 w wr A c l G bU n S V V' U e us v xs) (hG : Gs w0 w A c l G bU n S V U) (hS : S (key3 e) = some p)
  (hF : Forest w' w0.heap.size bU n S (updV V' (key3 e) v') (updU (updU U (key3 e) us) (key3 e) us')) (hf : Fr wr.drew w' (fun k => k = p \/ (V' (key3 e)).ownBlock = some k)) (hv : v'.ownBlock = (V' (key3 e)).ownBlock) :
  BelI w0 w w' A c l G bU n S V (updV V' (key3 e) v') U e us' v xs:=by
 have hft : ∀ k,(k = p \/ (V' (key3 e)).ownBlock = some k) -> Foot S V (key3 e) k:=fun k hk => h.feet _ k ⟨p,hS,hk⟩
 have hlt : ∀ k,(k = p \/ (V' (key3 e)).ownBlock = some k) -> k < w.heap.size:=fun k hk => (hG.forest.rows _ k (hft k hk)).2.1
 have hw : ¬ (w.heap.size = p \/ (V' (key3 e)).ownBlock = some w.heap.size):=fun hk => by have:=hlt _ hk; omega
 have hfeet : ∀ x k,Foot S (updV V' (key3 e) v') x k -> Foot S V' x k:=by
  rintro x k ⟨q,hq,hk⟩
  refine ⟨q,hq,hk.imp id (fun hk => ?_)⟩
  by_cases ex : x = key3 e
  ·subst ex; simp only [updV,if_true] at hk; rw [<- hv]; exact hk
  ·simp only [updV,ex,if_false] at hk; exact hk
 have hrow : RowE w' w.heap.size v xs:=Fr.row hf (show wr.drew.ownsRow _ _ _ _ _ _ from h.row) (fun k hk hk2 => by
  have h1:=hlt k hk2
  have h2:=(World.ownsRow.lt h.row k hk).1
  omega)
 refine ⟨?_, ?_,fun x k hk => h.feet x k (hfeet x k hk),hrow,hf.cell hw h.e0,hf.cell hw h.e1,hf.cell hw h.e2,h.ne⟩
 ·rw [<- updU_two U (key3 e) us us']
  exact h.gs.drew.with hF hf (fun k hk => ⟨(hG.forest.rows _ k (hft k hk)).1,hG.far _ k (hft k hk)⟩) (fun x k hk => .inl (hfeet x k hk))
 ·exact (h.fr.trans (Fr.of_below (Qae (Below.refl _ wr)) (fun _ => False)) (fun _ h _ => h.elim)).trans hf (fun k hk _ => hft k hk)
theorem BelI.down (h : BelI w0 w wr A c l G bU n S V V' U e us v xs) (hb : Below wr.heap.size wr w') : BelI w0 w w' A c l G bU n S V V' U e us v xs :=
 ⟨h.gs.down hb,h.fr.trans (Fr.of_below hb (fun _ => False)) (fun _ h _ => h.elim),h.feet,(Fr.of_below hb (fun _ => False)).row h.row (fun _ _ h => h),Qaa hb h.e0,Qaa hb h.e1,Qaa hb h.e2,h.ne⟩
theorem BelI.app {x : SElem} {v1 : Value} (h : BelI w0 w wr A c l G bU n S V V' U e us v xs) (hG : Gs w0 w A c l G bU n S V U) (hrow : w'.ownsRow w.heap.size 30 3 v1 (xs.length + 1) (flatE xs ++ [.int .i64 x.f0, .int .i64 x.f1, .int .i64 x.f2])) (hg : wr.grownBy w' v.ownBlock) (hat : v1.ownBlock = v.ownBlock \/ ∃ b,v1.ownBlock = some b /\ wr.heap.size <= b) :
  BelI w0 w w' A c l G bU n S V V' U e us v1 (xs ++ [x]):=by
 have hlt : ∀ k,v.ownBlock = some k -> w.heap.size <= k:=fun k hk => (World.ownsRow.lt h.row k hk).1
 have hw : ¬ v.ownBlock = some w.heap.size:=h.ne
 have hfr : Fr wr w' (fun k => v.ownBlock = some k):=Fr.of_grown hg
 have hww:=h.fr.size
 have hlw : w.heap.size < wr.heap.size:=World.block_lt_of_cell? wr _ h.e0
 have hft : ∀ x k,Foot S V' x k -> ¬ v.ownBlock = some k:=fun x k hk hk2 => by
  have h1:=(hG.forest.rows x k (h.feet x k hk)).2.1
  have h2:=hlt k hk2
  omega
 have hG0 : w0.heap.size <= w.heap.size:=hG.below.size
 have hGl : G < w.heap.size:=World.block_lt_of_cell? w _ hG.c0
 have hbl : bU < w.heap.size:=hG.forest.map.lt
 refine ⟨?_,h.fr.trans hfr (fun k hk hlt2 => ?_),h.feet,RowE.snoc hrow,hfr.cell hw h.e0,hfr.cell hw h.e1,hfr.cell hw h.e2, ?_⟩
 ·refine h.gs.with (h.gs.forest.fr hfr (fun hk => ?_) hft) hfr (fun k hk => ?_) (fun _ _ hk => .inl hk)
  ·have:=hlt _ hk; omega
  ·have:=hlt _ hk; exact ⟨by omega,by omega⟩
 ·have:=hlt k hk; omega
 ·rcases hat with hat | ⟨b,hb,hle⟩
  ·rw [hat]; exact h.ne
  ·rw [hb]; intro e; have:=Zo e; omega
end
theorem below_calls (w0 w : World) (A : Option Addr) (c : Nat) (l : List SOp) (G bU n : Nat) (S : K3 -> Option Nat) (V : K3 -> Value) (U : K3 -> List Int) (e : SElem) (hG : Gs w0 w A c l G bU n S V U) (hr : Kd.C kOp w0 A l.length l) (hc : l.length <= c) (hok : okRow l = true) (hfa : Falls l (U (key3 e)))
  (hk : ∃ kl,keyOf Try.prog 30 (encE (key3 e)) = some kl) (hul : (U (key3 e)).length < 800000) :
  Calls Try.prog 69 #[.pointer (some ⟨G,0,none⟩),elV e] w fun r w' => ∃ v V',r = .returned v /\ RowE w' w.heap.size v (belowL l (U (key3 e)) e) /\ Gs w0 w' A c l G bU n S V' (updU U (key3 e) []) /\ Fr w w' (fun k => Foot S V (key3 e) k) /\ ∀ x k,Foot S V' x k -> Foot S V x k:=by
 have HR:=Zz.k hr
 have HOK:=Zz.k hok
 have HFA:=Zz.k hfa
 have HC:=Zz.k hc
 have HUL:=Zz.k hul
 obtain ⟨kl,hkl⟩:=hk
 have hL0:=fun (X : World) (hX : Gs w0 X A c l G bU n S V U) => hX.forest.map.look lawE Try.underlying90 zeroH (key3 e) hkl
 simp only [encE,key3] at hL0
 have HL0:=Zz.k hL0
 have HG:=Zz.k hG
 clear hr hok hfa hul hL0 hkl hG
 unfold elV
 go_enter Try.func69,Try.ntmps69
 go_wp2_with fail
 refine one_box (Q:=Code.wp _ _ _ _) w _ _ (fun w2 g2 gB gS => ?_)
 have o0:=g2 0; have o1:=g2 1; have o2:=g2 2
 simp only [List.getElem?_toArray,List.getElem?_cons_zero,List.getElem?_cons_succ] at o0 o1 o2
 have hG2:=HG.out.down gB
 have d1:=hG2.c1
 have hL:=HL0.out _ (hG2.down (Qae (Below.refl _ _)))
 have HG2:=Zz.k hG2
 have HB2:=Zz.k gB
 clear g2 gB hG2
 generalize hpv : ptrV (S (e.f0,e.f1,e.f2)) = h5 at hL
 refine stR (S:=fun w' => w'.cell? ⟨G,1,none⟩ = some (.map (some bU)) /\ w'.cell? ⟨w.heap.size,0,none⟩ = some (.int .i64 e.f0) /\ w'.cell? ⟨w.heap.size,1,none⟩ = some (.int .i64 e.f1) /\ w'.cell? ⟨w.heap.size,2,none⟩ = some (.int .i64 e.f2) /\ (Instr.lookup 90 (.map (some bU)) (.agg #[.int .i64 e.f0, .int .i64 e.f1, .int .i64 e.f2]) false).run Try.prog w' = .ok h5 w')
  7 t_tree_grower_below.bits1 t_tree_grower_below.tab1 (hS:=⟨d1,o0,o1,o2,hL⟩) (h:=fun hS HT HW => ?_)
 refine pu HT 0 7 1 (h := ?_)
 refine pu HT 1 8 3 (h := ?_)
 refine pu HT 2 9 7 (h := ?_)
 refine tk HT HW hS 3 10 15 (h := ?_)
 refine tk HT HW hS 4 11 31 (h := ?_)
 refine tk HT HW hS 5 12 63 (h := ?_)
 refine pu HT 6 5 127 (h := ?_)
 refine dn HT (h := ?_)
 clear HT HW hS hL
 go_upto_block 0 with (fail)
 go_cut [4] (fun v4 wc => ∃ V' xs,Zz (BelI w0 w wc A c l G bU n S V V' U e [] v4 xs) /\ Zz (xs = (U (key3 e)).map (atE l)))
 case first =>
  go_wp2_with fail
  go_loopg [4] ((U (key3 e)).length + 1) (fun gg s4 wr => ∃ (us : List Int) (V' : K3 -> Value) (xs : List SElem) (dd : List Int),us.length < gg /\ Zz (BelI w0 w wr A c l G bU n S V V' U e us s4 xs) /\ Zz (U (key3 e) = dd ++ us /\ xs = dd.map (atE l)))
  case atStart =>
   exact ⟨U (key3 e),V,[],[],Nat.lt_succ_self _,⟨⟨by rw [updU_same]; exact HG2.out.down (Qae (Below.refl _ _)),(Fr.of_below HB2.out _).trans (Fr.of_below (Qae (Below.refl _ _)) (fun _ => False)) (fun _ h _ => h.elim),fun _ _ h => h,RowE.nil _ _,o0,o1,o2,by simp [Value.ownBlock]⟩⟩,⟨rfl,rfl⟩⟩
  case round =>
   obtain ⟨us,V',xs,dd,hlt,HI,HD⟩:=hrel
   clear d1 o0 o1 o2
   replace hpv : ptrV (S (key3 e)) = h5:=hpv
   cases hS : S (key3 e) with
   | none =>
    rw [hS] at hpv
    simp only [ptrV] at hpv
    subst hpv
    have hus : us = []:=by
     have h1:=HG.out.forest.none_ (key3 e) hS
     have h2:=HD.out.1
     rw [h1] at h2
     exact (List.append_eq_nil_iff.1 h2.symm).2
    subst hus
    go_wp2
    go_meet
    case rel =>
     refine ⟨V',xs,HI,⟨?_⟩⟩
     rw [HD.out.2,HD.out.1,List.append_nil]
   | some p =>
    rw [hS] at hpv
    simp only [ptrV] at hpv
    subst hpv
    have hUx : updU U (key3 e) us (key3 e) = us:=by simp [updU]
    cases us with
    | nil =>
     obtain ⟨⟨A1,c1,hv⟩,hcp⟩:=HI.out.gs.forest.empty hS hUx
     rw [hv] at hcp
     have hln:=hung_Len A1 0 c1 wr
     go_wp2_with fail
     with_reducible refine hln.mono ?_
     rintro r w' ⟨rfl,rfl⟩
     go_wp2
     go_meet
     case rel =>
      refine ⟨V',xs,HI,⟨?_⟩⟩
      rw [HD.out.2,HD.out.1,List.append_nil]
    | cons m us =>
     have hfl:=HFA.out
     rw [HD.out.1] at hfl
     have hmr:=hfl.2 m (by simp)
     obtain ⟨j,rfl⟩ : ∃ j : Nat,m = (j : Int):=⟨m.toNat,by omega⟩
     have hjl : j < l.length:=by omega
     have hjz : (j : Int) < (l.length : Int):=hmr.2
     have hj0 : (0 : Int) <= (j : Int):=hmr.1
     have hsrt : ((j : Int) :: us).Pairwise (fun a b => b <= a):=(List.pairwise_append.1 hfl.1).2.1
     have husl : us.length < 800000:=by have h1:=HUL.out; rw [HD.out.1] at h1; simp at h1; omega
     have hpq:=HI.out.gs.drew.forest.pop hS hUx hsrt husl (by have:=HI.out.gs.below.size; exact this)
     obtain ⟨⟨A1,c1,hv⟩,hcp,hpop⟩:=hpq
     replace hcp : wr.cell? ⟨p,0,none⟩ = some (V' (key3 e)):=hcp
     rw [hv] at hcp
     have hln:=hung_Len A1 (us.length + 1) c1 wr
     obtain ⟨ad,A7,c7,rfl,x0,x1,x2,x3,x4,x5,x6,x7,x8,x9,x10,l7,g7⟩:=at_Op HR.out (j : Int) hj0 hjz
     simp only [Int.toNat_natCast] at x0 x1 x2 x3 x4 x5 x6 x7 x8 x9 x10
     have HPOP:=Zz.k hpop
     have HL7:=Zz.k l7
     have HG7:=Zz.k g7
     have hg0:=HI.out.gs.c0
     generalize ho : Qar l (j : Int) = o at x0 x1 x2 x3 x4 x5 x6 x7 x8 x9 x10 HL7 HG7
     have HO:=Zz.k ho
     have HY:=Zz.k (fun (X : World) (hb : Below w0.heap.size w0 X) => (⟨Qaa hb x0,Qaa hb x1,Qaa hb x2,Qaa hb x3,Qaa hb x4,Qaa hb x5,Qaa hb x6,Qaa hb x7,Qaa hb x8,Qaa hb x9,Qaa hb x10⟩ : X.cell? (ad.add (j * 11)) = some (.int .i64 o.f0) /\ X.cell? ⟨(ad.add (j * 11)).block,(ad.add (j * 11)).off + 1,none⟩ = some (.int .i64 o.f1) /\ X.cell? ⟨(ad.add (j * 11)).block,(ad.add (j * 11)).off + 2,none⟩ = some (.int .i64 o.f2) /\ X.cell? ⟨(ad.add (j * 11)).block,(ad.add (j * 11)).off + 3,none⟩ = some (.int .i64 o.f3.f0) /\ X.cell? ⟨(ad.add (j * 11)).block,(ad.add (j * 11)).off + 4,none⟩ = some (.int .i64 o.f3.f1) /\ X.cell? ⟨(ad.add (j * 11)).block,(ad.add (j * 11)).off + 5,none⟩ = some (.int .i64 o.f3.f2) /\ X.cell? ⟨(ad.add (j * 11)).block,(ad.add (j * 11)).off + 6,none⟩ = some (.string o.f4) /\ X.cell? ⟨(ad.add (j * 11)).block,(ad.add (j * 11)).off + 7,none⟩ = some (.slice A7 o.f5.length c7) /\ X.cell? ⟨(ad.add (j * 11)).block,(ad.add (j * 11)).off + 8,none⟩ = some (.int .i64 o.f6) /\ X.cell? ⟨(ad.add (j * 11)).block,(ad.add (j * 11)).off + 9,none⟩ = some (.int .i64 o.f7) /\ X.cell? ⟨(ad.add (j * 11)).block,(ad.add (j * 11)).off + 10,none⟩ = some (.int .i64 o.f8)))
     clear hpop l7 g7 ho hfl hmr x0 x1 x2 x3 x4 x5 x6 x7 x8 x9 x10
     go_wp2_with fail
     with_reducible refine hln.mono ?_
     rintro r w' ⟨rfl,rfl⟩
     clear hln hcp
     go_wp2
     refine stL (S:=fun w' => w'.cell? ⟨G,0,none⟩ = some (.slice (some ad) l.length c) /\ w'.cell? (ad.add (j * 11)) = some (.int .i64 o.f0) /\ w'.cell? ⟨(ad.add (j * 11)).block,(ad.add (j * 11)).off + 1,none⟩ = some (.int .i64 o.f1) /\ w'.cell? ⟨(ad.add (j * 11)).block,(ad.add (j * 11)).off + 2,none⟩ = some (.int .i64 o.f2) /\ w'.cell? ⟨(ad.add (j * 11)).block,(ad.add (j * 11)).off + 3,none⟩ = some (.int .i64 o.f3.f0) /\ w'.cell? ⟨(ad.add (j * 11)).block,(ad.add (j * 11)).off + 4,none⟩ = some (.int .i64 o.f3.f1) /\ w'.cell? ⟨(ad.add (j * 11)).block,(ad.add (j * 11)).off + 5,none⟩ = some (.int .i64 o.f3.f2) /\ w'.cell? ⟨(ad.add (j * 11)).block,(ad.add (j * 11)).off + 6,none⟩ = some (.string o.f4) /\ w'.cell? ⟨(ad.add (j * 11)).block,(ad.add (j * 11)).off + 7,none⟩ = some (.slice A7 o.f5.length c7) /\ w'.cell? ⟨(ad.add (j * 11)).block,(ad.add (j * 11)).off + 8,none⟩ = some (.int .i64 o.f6) /\ w'.cell? ⟨(ad.add (j * 11)).block,(ad.add (j * 11)).off + 9,none⟩ = some (.int .i64 o.f7) /\ w'.cell? ⟨(ad.add (j * 11)).block,(ad.add (j * 11)).off + 10,none⟩ = some (.int .i64 o.f8))
      [13] 15 t_tree_grower_below.bits3 t_tree_grower_below.tab3 (hS:=⟨hg0,HY.out _ HI.out.gs.drew.below⟩) (h:=fun hS' HT HW => ?_)
     clear hg0
     refine pu HT 0 22 1 (h := ?_)
     refine pu HT 1 23 3 (h := ?_)
     refine pu HT 2 24 7 (h := ?_)
     refine pu HT 3 25 15 (h := ?_)
     refine tk HT HW hS' 4 26 31 (h := ?_)
     refine pu HT 5 27 63 (h := ?_)
     refine pu HT 6 28 127 (h := ?_)
     refine ca HT 7 (some 29) 255 #[hungP p] Try.func81 (h:=fun K hK => ?_)
     refine HPOP.out.mono ?_
     rintro r w8 ⟨rfl,v8,hF8,hf8,hv8⟩
     have hI8:=HI.out.popped HG.out hS hF8 hf8 hv8
     refine ⟨_,rfl, ?_⟩
     refine hK.out _ _ ⟨hI8.gs.c0,HY.out _ hI8.gs.below⟩ (fun hS' => ?_)
     have HI8:=Zz.k hI8
     clear hK hF8 hf8 hv8 hI8
     refine nm (h := ?_)
     refine pu HT 8 30 511 (h := ?_)
     refine pu HT 9 31 1023 (h := ?_)
     refine tk HT HW hS' 10 32 2047 (h := ?_)
     refine ca HT 11 (some 33) 4095 #[.agg #[.int .i64 o.f0, .int .i64 o.f1, .int .i64 o.f2, .int .i64 o.f3.f0, .int .i64 o.f3.f1, .int .i64 o.f3.f2, .string o.f4, .slice A7 o.f5.length c7, .int .i64 o.f6, .int .i64 o.f7, .int .i64 o.f8], .int .i64 0] Try.func46 (h:=fun K hK => ?_)
     refine (op_At.calls o.f0 o.f1 o.f2 o.f3.f0 o.f3.f1 o.f3.f2 o.f4 A7 c7 o.f5 o.f6 o.f7 o.f8 0 o.f0 o.f1 0 w8 (Kd.C_below HG7.out HI8.out.gs.below) HL7.out rfl).mono ?_
     rintro r w9 ⟨rfl,hb9⟩
     have hI9:=HI8.out.down hb9
     refine ⟨_,rfl, ?_⟩
     refine hK.out _ _ ⟨hI9.gs.c0,HY.out _ hI9.gs.below⟩ (fun hS' => ?_)
     have HI9:=Zz.k hI9
     clear hK hI9 hb9
     refine nm (h := ?_)
     refine exS HT 12 (some 34) 8191 (.slice (some ⟨w9.heap.size,0,none⟩) 1 1) (w9.alloc (.cells [.int .i64 o.f0, .int .i64 o.f1, .int .i64 0].toArray 30)) (hrun := ?_) (hS := ?_) (h:=fun hS' => ?_)
     ·clear HT HW hS'
      go_simp
     ·have hb:=Qad (Below.refl _ w9) (.cells [.int .i64 o.f0, .int .i64 o.f1, .int .i64 0].toArray 30)
      exact ⟨(HI9.out.gs.down hb).c0,HY.out _ (HI9.out.gs.down hb).below⟩
     refine nm (h := ?_)
     have hxl : xs.length < 900000:=by
      rw [HD.out.2,List.length_map]
      have:=HUL.out
      rw [HD.out.1,List.length_append] at this
      omega
     refine apL HT 13 35 16383 w.heap.size w9 info30 Try.underlying23 _ xs.length (flatE xs) [.int .i64 o.f0, .int .i64 o.f1, .int .i64 0] HI9.out.row HI9.out.fr.size (by omega) rfl (by simp [Value.oneCell']) (h:=fun v1 w10 hown hg hat => ?_)
     have HI10:=Zz.k (HI9.out.app (x:=⟨o.f0,o.f1,0⟩) HG.out hown hg hat)
     clear hown hg hat hS'
     refine nm (h := ?_)
     refine pu HT 14 4 32767 (h := ?_)
     refine dn HT (h := ?_)
     clear HT HW
     go_wp2
     obtain ⟨g',rfl⟩ : ∃ g',gk = g' + 1:=⟨gk - 1,by omega⟩
     go_roundg g'
     case measure => simp only [List.length_cons] at hlt; omega
     case rel =>
      refine ⟨us,_,_,dd ++ [(j : Int)],by simp only [List.length_cons] at hlt; omega,HI10,⟨by rw [HD.out.1]; simp, ?_⟩⟩
      rw [HD.out.2,List.map_append]
      simp only [List.map_cons,List.map_nil,atE,HO.out]
 case rest =>
  obtain ⟨V',xs,HB,HXS⟩:=hcut
  have hfd:=fun (X : World) (hX : Below w0.heap.size w0 X) => tree_Find.calls A c l e.f0 e.f1 (Qay l e.f0 e.f1) X (Kd.C_below HR.out hX) HC.out (by unfold tree_Find.f; rw [if_pos (by have:=okRow_len HOK.out; omega)])
  have hnx : belowL l (U (key3 e)) e = xs ++ nextL l e:=by rw [HXS.out]; rfl
  unfold nextL at hnx
  have hfb:=findOp_range l e.f0 e.f1
  generalize Qay l e.f0 e.f1 = fi at hfd hfb hnx
  have HNX:=Zz.k hnx
  have HFD:=Zz.k hfd
  have HFB:=Zz.k hfb
  clear hfd hfb hnx d1 o0 o1 o2 hpv
  go_wp2_with fail
  refine stR (S:=fun w' => w'.cell? ⟨G,0,none⟩ = some (.slice A l.length c) /\ w'.cell? ⟨w.heap.size,0,none⟩ = some (.int .i64 e.f0) /\ w'.cell? ⟨w.heap.size,1,none⟩ = some (.int .i64 e.f1) /\ w'.cell? ⟨w.heap.size,2,none⟩ = some (.int .i64 e.f2))
   10 t_tree_grower_below.bits4 t_tree_grower_below.tab4 (hS:=⟨HB.out.gs.drew.c0,HB.out.e0,HB.out.e1,HB.out.e2⟩) (h:=fun hS' HT HW => ?_)
  refine pu HT 0 36 1 (h := ?_)
  refine pu HT 1 37 3 (h := ?_)
  refine pu HT 2 38 7 (h := ?_)
  refine tk HT HW hS' 3 39 15 (h := ?_)
  refine pu HT 4 40 31 (h := ?_)
  refine tk HT HW hS' 5 41 63 (h := ?_)
  refine pu HT 6 42 127 (h := ?_)
  refine tk HT HW hS' 7 43 255 (h := ?_)
  refine ca HT 8 (some 44) 511 #[.slice A l.length c, .int .i64 e.f0, .int .i64 e.f1] Try.func62 (h:=fun K hK => ?_)
  refine (HFD.out _ HB.out.gs.drew.below).mono ?_
  rintro r w5 ⟨rfl,hb5⟩
  have hI5:=(HB.out.down (Qae (Below.refl _ _))).down hb5
  refine ⟨_,rfl, ?_⟩
  refine hK.out _ _ ⟨hI5.gs.c0,hI5.e0,hI5.e1,hI5.e2⟩ (fun hS' => ?_)
  have HI5:=Zz.k hI5
  clear hK hI5 hb5
  refine nm (h := ?_)
  refine pu HT 9 6 1023 (h := ?_)
  refine dn HT (h := ?_)
  clear HT HW hS'
  by_cases hf0 : 0 <= fi
  ·obtain ⟨j,rfl⟩ : ∃ j : Nat,fi = (j : Int):=⟨fi.toNat,by omega⟩
   have hjl : j < l.length:=by have:=HFB.out hf0; omega
   have hjz : (j : Int) < (l.length : Int):=by omega
   obtain ⟨ad,A7,c7,rfl,x0,x1,x2,x3,x4,x5,x6,x7,x8,x9,x10,l7,g7⟩:=at_Op HR.out (j : Int) hf0 hjz
   simp only [Int.toNat_natCast] at x0 x1 x2 x3 x4 x5 x6 x7 x8 x9 x10
   have HL7:=Zz.k l7
   have HG7:=Zz.k g7
   have HSM:=Zz.k (okRow_at HOK.out hjl).1
   have HSZ:=Zz.k (opOk_size (okRow_at HOK.out hjl).2)
   generalize ho : Qar l (j : Int) = o at x0 x1 x2 x3 x4 x5 x6 x7 x8 x9 x10 HL7 HG7 HSM HSZ HNX
   have HY:=Zz.k (fun (X : World) (hb : Below w0.heap.size w0 X) => (⟨Qaa hb x0,Qaa hb x1,Qaa hb x2,Qaa hb x3,Qaa hb x4,Qaa hb x5,Qaa hb x6,Qaa hb x7,Qaa hb x8,Qaa hb x9,Qaa hb x10⟩ : X.cell? (ad.add (j * 11)) = some (.int .i64 o.f0) /\ X.cell? ⟨(ad.add (j * 11)).block,(ad.add (j * 11)).off + 1,none⟩ = some (.int .i64 o.f1) /\ X.cell? ⟨(ad.add (j * 11)).block,(ad.add (j * 11)).off + 2,none⟩ = some (.int .i64 o.f2) /\ X.cell? ⟨(ad.add (j * 11)).block,(ad.add (j * 11)).off + 3,none⟩ = some (.int .i64 o.f3.f0) /\ X.cell? ⟨(ad.add (j * 11)).block,(ad.add (j * 11)).off + 4,none⟩ = some (.int .i64 o.f3.f1) /\ X.cell? ⟨(ad.add (j * 11)).block,(ad.add (j * 11)).off + 5,none⟩ = some (.int .i64 o.f3.f2) /\ X.cell? ⟨(ad.add (j * 11)).block,(ad.add (j * 11)).off + 6,none⟩ = some (.string o.f4) /\ X.cell? ⟨(ad.add (j * 11)).block,(ad.add (j * 11)).off + 7,none⟩ = some (.slice A7 o.f5.length c7) /\ X.cell? ⟨(ad.add (j * 11)).block,(ad.add (j * 11)).off + 8,none⟩ = some (.int .i64 o.f6) /\ X.cell? ⟨(ad.add (j * 11)).block,(ad.add (j * 11)).off + 9,none⟩ = some (.int .i64 o.f7) /\ X.cell? ⟨(ad.add (j * 11)).block,(ad.add (j * 11)).off + 10,none⟩ = some (.int .i64 o.f8)))
   clear l7 g7 x0 x1 x2 x3 x4 x5 x6 x7 x8 x9 x10 ho
   by_cases hsz : wrap64 (e.f2 + 1) < (Qaj o : Int)
   ·have hnx:=HNX.out
    rw [if_pos ⟨hf0,hsz⟩] at hnx
    have HNY:=Zz.k hnx
    clear HNX hnx
    have hszd : decide (wrap64 (e.f2 + 1) < (Qaj o : Int)) = true:=Zd hsz
    go_wp2
    refine stR (S:=fun w' => w'.cell? ⟨G,0,none⟩ = some (.slice (some ad) l.length c) /\ w'.cell? ⟨w.heap.size,0,none⟩ = some (.int .i64 e.f0) /\ w'.cell? ⟨w.heap.size,1,none⟩ = some (.int .i64 e.f1) /\ w'.cell? ⟨w.heap.size,2,none⟩ = some (.int .i64 e.f2) /\ w'.cell? (ad.add (j * 11)) = some (.int .i64 o.f0) /\ w'.cell? ⟨(ad.add (j * 11)).block,(ad.add (j * 11)).off + 1,none⟩ = some (.int .i64 o.f1) /\ w'.cell? ⟨(ad.add (j * 11)).block,(ad.add (j * 11)).off + 2,none⟩ = some (.int .i64 o.f2) /\ w'.cell? ⟨(ad.add (j * 11)).block,(ad.add (j * 11)).off + 3,none⟩ = some (.int .i64 o.f3.f0) /\ w'.cell? ⟨(ad.add (j * 11)).block,(ad.add (j * 11)).off + 4,none⟩ = some (.int .i64 o.f3.f1) /\ w'.cell? ⟨(ad.add (j * 11)).block,(ad.add (j * 11)).off + 5,none⟩ = some (.int .i64 o.f3.f2) /\ w'.cell? ⟨(ad.add (j * 11)).block,(ad.add (j * 11)).off + 6,none⟩ = some (.string o.f4) /\ w'.cell? ⟨(ad.add (j * 11)).block,(ad.add (j * 11)).off + 7,none⟩ = some (.slice A7 o.f5.length c7) /\ w'.cell? ⟨(ad.add (j * 11)).block,(ad.add (j * 11)).off + 8,none⟩ = some (.int .i64 o.f6) /\ w'.cell? ⟨(ad.add (j * 11)).block,(ad.add (j * 11)).off + 9,none⟩ = some (.int .i64 o.f7) /\ w'.cell? ⟨(ad.add (j * 11)).block,(ad.add (j * 11)).off + 10,none⟩ = some (.int .i64 o.f8))
     16 t_tree_grower_below.bits5 t_tree_grower_below.tab5 (hS:=⟨HI5.out.gs.drew.c0,HI5.out.e0,HI5.out.e1,HI5.out.e2,HY.out _ HI5.out.gs.drew.below⟩) (h:=fun hS' HT HW => ?_)
    refine pu HT 0 45 1 (h := ?_)
    refine pu HT 1 46 3 (h := ?_)
    refine pu HT 2 47 7 (h := ?_)
    refine pu HT 3 48 15 (h := ?_)
    refine tk HT HW hS' 4 49 31 (h := ?_)
    refine pu HT 5 50 63 (h := ?_)
    refine pu HT 6 51 127 (h := ?_)
    refine pu HT 7 52 255 (h := ?_)
    refine pu HT 8 53 511 (h := ?_)
    refine tk HT HW hS' 9 54 1023 (h := ?_)
    refine pu HT 10 55 2047 (h := ?_)
    refine pu HT 11 56 4095 (h := ?_)
    refine tk HT HW hS' 12 57 8191 (h := ?_)
    refine ca HT 13 (some 58) 16383 #[.agg #[.int .i64 o.f0, .int .i64 o.f1, .int .i64 o.f2, .int .i64 o.f3.f0, .int .i64 o.f3.f1, .int .i64 o.f3.f2, .string o.f4, .slice A7 o.f5.length c7, .int .i64 o.f6, .int .i64 o.f7, .int .i64 o.f8]] Try.func42 (h:=fun K hK => ?_)
    refine (op_Size.calls o.f0 o.f1 o.f2 o.f3.f0 o.f3.f1 o.f3.f2 o.f4 A7 c7 o.f5 o.f6 o.f7 o.f8 (Qaj o : Int) _ (Kd.C_below HG7.out HI5.out.gs.drew.below) HL7.out (op_Size_f o HSM.out)).mono ?_
    rintro r w6 ⟨rfl,hb6⟩
    have hI6:=(HI5.out.down (Qae (Below.refl _ _))).down hb6
    refine ⟨_,rfl, ?_⟩
    refine hK.out _ _ ⟨hI6.gs.c0,hI6.e0,hI6.e1,hI6.e2,HY.out _ hI6.gs.below⟩ (fun hS' => ?_)
    have HI6:=Zz.k hI6
    clear hK hI6 hb6
    refine nm (h := ?_)
    refine pu HT 14 59 32767 (h := ?_)
    refine pu HT 15 60 65535 (h := ?_)
    refine dn HT (h := ?_)
    clear HT HW hS'
    go_wp2
    refine stL (S:=fun w' => w'.cell? ⟨G,0,none⟩ = some (.slice (some ad) l.length c) /\ w'.cell? ⟨w.heap.size,0,none⟩ = some (.int .i64 e.f0) /\ w'.cell? ⟨w.heap.size,1,none⟩ = some (.int .i64 e.f1) /\ w'.cell? ⟨w.heap.size,2,none⟩ = some (.int .i64 e.f2) /\ w'.cell? (ad.add (j * 11)) = some (.int .i64 o.f0) /\ w'.cell? ⟨(ad.add (j * 11)).block,(ad.add (j * 11)).off + 1,none⟩ = some (.int .i64 o.f1) /\ w'.cell? ⟨(ad.add (j * 11)).block,(ad.add (j * 11)).off + 2,none⟩ = some (.int .i64 o.f2) /\ w'.cell? ⟨(ad.add (j * 11)).block,(ad.add (j * 11)).off + 3,none⟩ = some (.int .i64 o.f3.f0) /\ w'.cell? ⟨(ad.add (j * 11)).block,(ad.add (j * 11)).off + 4,none⟩ = some (.int .i64 o.f3.f1) /\ w'.cell? ⟨(ad.add (j * 11)).block,(ad.add (j * 11)).off + 5,none⟩ = some (.int .i64 o.f3.f2) /\ w'.cell? ⟨(ad.add (j * 11)).block,(ad.add (j * 11)).off + 6,none⟩ = some (.string o.f4) /\ w'.cell? ⟨(ad.add (j * 11)).block,(ad.add (j * 11)).off + 7,none⟩ = some (.slice A7 o.f5.length c7) /\ w'.cell? ⟨(ad.add (j * 11)).block,(ad.add (j * 11)).off + 8,none⟩ = some (.int .i64 o.f6) /\ w'.cell? ⟨(ad.add (j * 11)).block,(ad.add (j * 11)).off + 9,none⟩ = some (.int .i64 o.f7) /\ w'.cell? ⟨(ad.add (j * 11)).block,(ad.add (j * 11)).off + 10,none⟩ = some (.int .i64 o.f8))
     [13] 15 t_tree_grower_below.bits6 t_tree_grower_below.tab6 (hS:=⟨HI6.out.gs.drew.c0,HI6.out.e0,HI6.out.e1,HI6.out.e2,HY.out _ HI6.out.gs.drew.below⟩) (h:=fun hS' HT HW => ?_)
    refine pu HT 0 61 1 (h := ?_)
    refine pu HT 1 62 3 (h := ?_)
    refine pu HT 2 63 7 (h := ?_)
    refine pu HT 3 64 15 (h := ?_)
    refine tk HT HW hS' 4 65 31 (h := ?_)
    refine pu HT 5 66 63 (h := ?_)
    refine pu HT 6 67 127 (h := ?_)
    refine tk HT HW hS' 7 68 255 (h := ?_)
    refine pu HT 8 69 511 (h := ?_)
    refine tk HT HW hS' 9 70 1023 (h := ?_)
    refine pu HT 10 71 2047 (h := ?_)
    refine ca HT 11 (some 72) 4095 #[.agg #[.int .i64 o.f0, .int .i64 o.f1, .int .i64 o.f2, .int .i64 o.f3.f0, .int .i64 o.f3.f1, .int .i64 o.f3.f2, .string o.f4, .slice A7 o.f5.length c7, .int .i64 o.f6, .int .i64 o.f7, .int .i64 o.f8], .int .i64 (wrap64 (e.f2 + 1))] Try.func46 (h:=fun K hK => ?_)
    refine (op_At.calls o.f0 o.f1 o.f2 o.f3.f0 o.f3.f1 o.f3.f2 o.f4 A7 c7 o.f5 o.f6 o.f7 o.f8 (wrap64 (e.f2 + 1)) o.f0 o.f1 (wrap64 (e.f2 + 1)) _ (Kd.C_below HG7.out HI6.out.gs.drew.below) HL7.out rfl).mono ?_
    rintro r w9 ⟨rfl,hb9⟩
    have hI9:=(HI6.out.down (Qae (Below.refl _ _))).down hb9
    refine ⟨_,rfl, ?_⟩
    refine hK.out _ _ ⟨hI9.gs.c0,hI9.e0,hI9.e1,hI9.e2,HY.out _ hI9.gs.below⟩ (fun hS' => ?_)
    have HI9:=Zz.k hI9
    clear hK hI9 hb9
    refine nm (h := ?_)
    refine exS HT 12 (some 73) 8191 (.slice (some ⟨w9.heap.size,0,none⟩) 1 1) (w9.alloc (.cells [.int .i64 o.f0, .int .i64 o.f1, .int .i64 (wrap64 (e.f2 + 1))].toArray 30)) (hrun := ?_) (hS := ?_) (h:=fun hS' => ?_)
    ·clear HT HW hS'
     go_simp
    ·have hb:=Qad (Below.refl _ w9) (.cells [.int .i64 o.f0, .int .i64 o.f1, .int .i64 (wrap64 (e.f2 + 1))].toArray 30)
     have hJ:=HI9.out.down hb
     exact ⟨hJ.gs.c0,hJ.e0,hJ.e1,hJ.e2,HY.out _ hJ.gs.below⟩
    refine nm (h := ?_)
    have hxl : xs.length < 900000:=by
     rw [HXS.out,List.length_map]
     have:=HUL.out
     omega
    refine apL HT 13 74 16383 w.heap.size w9 info30 Try.underlying23 _ xs.length (flatE xs) [.int .i64 o.f0, .int .i64 o.f1, .int .i64 (wrap64 (e.f2 + 1))] HI9.out.row HI9.out.fr.size (by omega) rfl (by simp [Value.oneCell']) (h:=fun v1 w10 hown hg hat => ?_)
    have HI10:=Zz.k (HI9.out.app (x:=⟨o.f0,o.f1,wrap64 (e.f2 + 1)⟩) HG.out hown hg hat)
    clear hown hg hat hS'
    refine nm (h := ?_)
    refine pu HT 14 4 32767 (h := ?_)
    refine dn HT (h := ?_)
    clear HT HW
    go_wp2
    go_ret
    rw [HNY.out]
    exact ⟨_,V',rfl,HI10.out.row,HI10.out.gs,HI10.out.fr,HI10.out.feet⟩
   ·have hnx:=HNX.out
    rw [if_neg (fun h => hsz h.2),List.append_nil] at hnx
    have HNY:=Zz.k hnx
    clear HNX hnx
    have hszd : decide (wrap64 (e.f2 + 1) < (Qaj o : Int)) = false:=Ze hsz
    go_wp2
    refine stR (S:=fun w' => w'.cell? ⟨G,0,none⟩ = some (.slice (some ad) l.length c) /\ w'.cell? ⟨w.heap.size,0,none⟩ = some (.int .i64 e.f0) /\ w'.cell? ⟨w.heap.size,1,none⟩ = some (.int .i64 e.f1) /\ w'.cell? ⟨w.heap.size,2,none⟩ = some (.int .i64 e.f2) /\ w'.cell? (ad.add (j * 11)) = some (.int .i64 o.f0) /\ w'.cell? ⟨(ad.add (j * 11)).block,(ad.add (j * 11)).off + 1,none⟩ = some (.int .i64 o.f1) /\ w'.cell? ⟨(ad.add (j * 11)).block,(ad.add (j * 11)).off + 2,none⟩ = some (.int .i64 o.f2) /\ w'.cell? ⟨(ad.add (j * 11)).block,(ad.add (j * 11)).off + 3,none⟩ = some (.int .i64 o.f3.f0) /\ w'.cell? ⟨(ad.add (j * 11)).block,(ad.add (j * 11)).off + 4,none⟩ = some (.int .i64 o.f3.f1) /\ w'.cell? ⟨(ad.add (j * 11)).block,(ad.add (j * 11)).off + 5,none⟩ = some (.int .i64 o.f3.f2) /\ w'.cell? ⟨(ad.add (j * 11)).block,(ad.add (j * 11)).off + 6,none⟩ = some (.string o.f4) /\ w'.cell? ⟨(ad.add (j * 11)).block,(ad.add (j * 11)).off + 7,none⟩ = some (.slice A7 o.f5.length c7) /\ w'.cell? ⟨(ad.add (j * 11)).block,(ad.add (j * 11)).off + 8,none⟩ = some (.int .i64 o.f6) /\ w'.cell? ⟨(ad.add (j * 11)).block,(ad.add (j * 11)).off + 9,none⟩ = some (.int .i64 o.f7) /\ w'.cell? ⟨(ad.add (j * 11)).block,(ad.add (j * 11)).off + 10,none⟩ = some (.int .i64 o.f8))
     16 t_tree_grower_below.bits5 t_tree_grower_below.tab5 (hS:=⟨HI5.out.gs.drew.c0,HI5.out.e0,HI5.out.e1,HI5.out.e2,HY.out _ HI5.out.gs.drew.below⟩) (h:=fun hS' HT HW => ?_)
    refine pu HT 0 45 1 (h := ?_)
    refine pu HT 1 46 3 (h := ?_)
    refine pu HT 2 47 7 (h := ?_)
    refine pu HT 3 48 15 (h := ?_)
    refine tk HT HW hS' 4 49 31 (h := ?_)
    refine pu HT 5 50 63 (h := ?_)
    refine pu HT 6 51 127 (h := ?_)
    refine pu HT 7 52 255 (h := ?_)
    refine pu HT 8 53 511 (h := ?_)
    refine tk HT HW hS' 9 54 1023 (h := ?_)
    refine pu HT 10 55 2047 (h := ?_)
    refine pu HT 11 56 4095 (h := ?_)
    refine tk HT HW hS' 12 57 8191 (h := ?_)
    refine ca HT 13 (some 58) 16383 #[.agg #[.int .i64 o.f0, .int .i64 o.f1, .int .i64 o.f2, .int .i64 o.f3.f0, .int .i64 o.f3.f1, .int .i64 o.f3.f2, .string o.f4, .slice A7 o.f5.length c7, .int .i64 o.f6, .int .i64 o.f7, .int .i64 o.f8]] Try.func42 (h:=fun K hK => ?_)
    refine (op_Size.calls o.f0 o.f1 o.f2 o.f3.f0 o.f3.f1 o.f3.f2 o.f4 A7 c7 o.f5 o.f6 o.f7 o.f8 (Qaj o : Int) _ (Kd.C_below HG7.out HI5.out.gs.drew.below) HL7.out (op_Size_f o HSM.out)).mono ?_
    rintro r w6 ⟨rfl,hb6⟩
    have hI6:=(HI5.out.down (Qae (Below.refl _ _))).down hb6
    refine ⟨_,rfl, ?_⟩
    refine hK.out _ _ ⟨hI6.gs.c0,hI6.e0,hI6.e1,hI6.e2,HY.out _ hI6.gs.below⟩ (fun hS' => ?_)
    have HI6:=Zz.k hI6
    clear hK hI6 hb6
    refine nm (h := ?_)
    refine pu HT 14 59 32767 (h := ?_)
    refine pu HT 15 60 65535 (h := ?_)
    refine dn HT (h := ?_)
    clear HT HW hS'
    go_wp2
    go_ret
    rw [HNY.out]
    exact ⟨_,V',rfl,HI6.out.row,HI6.out.gs,HI6.out.fr,HI6.out.feet⟩
  ·have hnx:=HNX.out
   rw [if_neg (fun h => hf0 h.1),List.append_nil] at hnx
   have HNY:=Zz.k hnx
   clear HNX hnx
   have hfd0 : decide (0 <= fi) = false:=Ze hf0
   go_wp2
   refine stR (S:=fun w' => True) 16 t_tree_grower_below.bits5 t_tree_grower_below.tab5 (hS:=trivial) (h:=fun hS' HT HW => ?_)
   refine pu HT 0 45 1 (h := ?_)
   refine pu HT 1 46 3 (h := ?_)
   refine pu HT 2 47 7 (h := ?_)
   refine off HT 3 48 15 (h := ?_)
   refine off HT 4 49 31 (h := ?_)
   refine off HT 5 50 63 (h := ?_)
   refine off HT 6 51 127 (h := ?_)
   refine off HT 7 52 255 (h := ?_)
   refine off HT 8 53 511 (h := ?_)
   refine off HT 9 54 1023 (h := ?_)
   refine off HT 10 55 2047 (h := ?_)
   refine off HT 11 56 4095 (h := ?_)
   refine off HT 12 57 8191 (h := ?_)
   refine off HT 13 58 16383 (h := ?_)
   refine off HT 14 59 32767 (h := ?_)
   refine pu HT 15 60 65535 (h := ?_)
   refine dn HT (h := ?_)
   clear HT HW hS'
   go_wp2
   go_ret
   rw [HNY.out]
   have hJ:=HI5.out.down (Qae (Below.refl _ w5))
   exact ⟨_,V',rfl,hJ.row,hJ.gs,hJ.fr,hJ.feet⟩
end
section
theorem flatE_at : ∀ (xs : List SElem) (i : Nat) (h : i < xs.length),(flatE xs)[i * 3]? = some (.int .i64 xs[i].f0) /\ (flatE xs)[i * 3 + 1]? = some (.int .i64 xs[i].f1) /\ (flatE xs)[i * 3 + 2]? = some (.int .i64 xs[i].f2)
 | x :: xs,0,_ => by simp [flatE]
 | x :: xs,i + 1,h => by
  have:=flatE_at xs i (by simpa using h)
  have e : flatE (x :: xs) = [.int .i64 x.f0, .int .i64 x.f1, .int .i64 x.f2] ++ flatE xs:=by simp [flatE]
  rw [e]
  refine ⟨?_, ?_, ?_⟩
  ·rw [List.getElem?_append_right (by simp; omega)]
   simp only [List.length_cons,List.length_nil]
   rw [show (i + 1) * 3 - (0 + 1 + 1 + 1) = i * 3 by omega]; simpa using this.1
  ·rw [List.getElem?_append_right (by simp; omega)]
   simp only [List.length_cons,List.length_nil]
   rw [show (i + 1) * 3 + 1 - (0 + 1 + 1 + 1) = i * 3 + 1 by omega]; simpa using this.2.1
  ·rw [List.getElem?_append_right (by simp; omega)]
   simp only [List.length_cons,List.length_nil]
   rw [show (i + 1) * 3 + 2 - (0 + 1 + 1 + 1) = i * 3 + 2 by omega]; simpa using this.2.2
theorem RowE.form {w : World} {base : Nat} {v : Value} {xs : List SElem} (h : RowE w base v xs) : ∃ A c,v = .slice A xs.length c /\ xs.length <= c:=by
 rcases h.2 with ⟨h1,h2⟩ | ⟨g,c,cur,h1,_,_,h3,_⟩
 ·exact ⟨none,0,by rw [h2]; exact h1,by omega⟩
 ·exact ⟨_,c,h1,h3⟩
theorem RowE.at {w : World} {base : Nat} {A : Option Addr} {n c : Nat} {xs : List SElem} (h : RowE w base (.slice A n c) xs) (i : Nat) (hi : i < xs.length) : ∃ g,A = some ⟨g,0,none⟩ /\ w.cell? ⟨g,i * 3,none⟩ = some (.int .i64 xs[i].f0) /\ w.cell? ⟨g,i * 3 + 1,none⟩ = some (.int .i64 xs[i].f1) /\ w.cell? ⟨g,i * 3 + 2,none⟩ = some (.int .i64 xs[i].f2):=by
 rcases h.2 with ⟨h1,h2⟩ | ⟨g,c',cur,h1,_⟩
 ·omega
 ·injection h1 with e1 e2 e3
  subst e1
  have hc:=h.cells (g:=g) rfl
  obtain ⟨a0,a1,a2⟩:=flatE_at xs i hi
  have h0:=hc _ _ a0; have h1:=hc _ _ a1; have h2:=hc _ _ a2
  rw [Qbu] at h0 h1 h2
  exact ⟨g,rfl,h0,h1,h2⟩
def walkF (l : List SOp) : Nat -> (K3 -> List Int) -> List SElem -> SElem -> Option ((K3 -> List Int) × List SElem)
 | 0 => fun _ _ _ => none
 | k + 1 => fun U all e => (belowL l (U (key3 e)) e).foldlM (fun s x => if s.2.length < 900000 then walkF l k s.1 (s.2 ++ [x]) x else none) (updU U (key3 e) [],all)
def stepF (l : List SOp) (k : Nat) (s : (K3 -> List Int) × List SElem) (x : SElem) : Option ((K3 -> List Int) × List SElem):=if s.2.length < 900000 then walkF l k s.1 (s.2 ++ [x]) x else none
theorem walkF_succ (l : List SOp) (k : Nat) (U : K3 -> List Int) (all : List SElem) (e : SElem) : walkF l (k + 1) U all e = (belowL l (U (key3 e)) e).foldlM (stepF l k) (updU U (key3 e) [],all):=rfl
def Falling (l : List SOp) (U : K3 -> List Int) : Prop:=∀ x,Falls l (U x) /\ (U x).length <= 40
theorem Falling.upd {l : List SOp} {U : K3 -> List Int} (h : Falling l U) (x : K3) : Falling l (updU U x []):=by
 intro y
 unfold updU
 split
 ·exact ⟨⟨List.Pairwise.nil,fun k hk => by simp at hk⟩,by simp⟩
 ·exact h y
def inE (e : SElem) : Prop:=inI e.f0 /\ inI e.f1 /\ inI e.f2
theorem wrap_in (a : Int) : inI (wrap64 a):=by unfold inI wrap64; omega
theorem foldlM_inv {σ α : Type} (f : σ -> α -> Option σ) (P : σ -> Prop) (hf : ∀ s x s',P s -> f s x = some s' -> P s') : ∀ (xs : List α) (s s' : σ),P s -> xs.foldlM f s = some s' -> P s'
 | [],s,s',h,e => by simp at e; subst e; exact h
 | x :: xs,s,s',h,e => by
  rw [List.foldlM_cons] at e
  obtain ⟨s1,h1,h2⟩:=Option.bind_eq_some_iff.1 e
  exact foldlM_inv f P hf xs s1 s' (hf s x s1 h h1) h2
theorem walkF_falling (l : List SOp) : ∀ (k : Nat) (U : K3 -> List Int) (all : List SElem) (e : SElem) (r : (K3 -> List Int) × List SElem),Falling l U -> walkF l k U all e = some r -> Falling l r.1
 | 0,U,all,e,r,h,hw => by cases hw
 | k + 1,U,all,e,r,h,hw => by
  rw [walkF_succ] at hw
  refine foldlM_inv (stepF l k) (fun s => Falling l s.1) (fun s x s' hs hx => ?_) _ _ _ (h.upd (key3 e)) hw
  unfold stepF at hx
  split at hx
  ·exact walkF_falling l k _ _ _ _ hs hx
  ·cases hx
theorem belowL_in {l : List SOp} {us : List Int} {e : SElem} (hok : okRow l = true) (hf : Falls l us) : ∀ x ∈ belowL l us e,inE x:=by
 intro x hx
 unfold belowL at hx
 rcases List.mem_append.1 hx with hx | hx
 ·obtain ⟨i,hi,rfl⟩:=List.mem_map.1 hx
  obtain ⟨h0,h1⟩:=hf.2 i hi
  have h2:=opOk_name (okRow_at hok (i:=i.toNat) (by omega)).2
  rw [show ((i.toNat : Nat) : Int) = i by omega] at h2
  exact ⟨h2.1,h2.2,by unfold inI; simp [atE]⟩
 ·unfold nextL at hx
  split at hx
  ·rename_i hc
   have h1:=findOp_range l e.f0 e.f1 hc.1
   have h2:=opOk_name (okRow_at hok (i:=(Qay l e.f0 e.f1).toNat) (by omega)).2
   rw [show (((Qay l e.f0 e.f1).toNat : Nat) : Int) = Qay l e.f0 e.f1 by omega] at h2
   simp only [List.mem_singleton] at hx
   subst hx
   exact ⟨h2.1,h2.2,wrap_in _⟩
  ·simp at hx
theorem belowL_len (l : List SOp) (us : List Int) (e : SElem) : (belowL l us e).length <= us.length + 1:=by
 unfold belowL nextL
 rw [List.length_append,List.length_map]
 split <;> simp
structure AllAt (w0 w : World) (G bU : Nat) (S : K3 -> Option Nat) (V : K3 -> Value) (vA : Value) (all : List SElem) : Prop where
 cell : w.cell? ⟨G,2,none⟩ = some vA
 fz : w.frozen? ⟨G,2,none⟩ = false
 row : RowE w w0.heap.size vA all
 ne : ∀ k,vA.ownBlock = some k -> k ≠ G /\ k ≠ bU /\ ∀ x,¬ Foot S V x k
section
variable {w0 w wr w' : World} {A : Option Addr} {c : Nat} {l : List SOp} {G bU n : Nat} {S : K3 -> Option Nat} {V V' : K3 -> Value} {U U' : K3 -> List Int} {vA : Value} {all : List SElem}
theorem AllAt.fr {T : Nat -> Prop} (h : AllAt w0 w G bU S V vA all) (hf : Fr w w' T) (hG : ¬ T G) (hT : ∀ k,vA.ownBlock = some k -> ¬ T k) (hfe : ∀ x k,Foot S V' x k -> Foot S V x k) : AllAt w0 w' G bU S V' vA all :=
 ⟨hf.cell hG h.cell,(hf.frozen (World.block_lt_of_cell? w _ h.cell) hG).trans h.fz,hf.row h.row hT,fun k hk => ⟨(h.ne k hk).1,(h.ne k hk).2.1,fun x hx => (h.ne k hk).2.2 x (hfe x k hx)⟩⟩
theorem AllAt.down (h : AllAt w0 w G bU S V vA all) (hb : Below w.heap.size w w') : AllAt w0 w' G bU S V vA all:=h.fr (Fr.of_below hb (fun _ => False)) (fun h => h) (fun _ _ h => h) (fun _ _ h => h)
theorem AllAt.app {x : SElem} {v1 : Value} {w2 : World} (hA : AllAt w0 w G bU S V vA all) (hG : Gs w0 w A c l G bU n S V U) (hrow : w2.ownsRow w0.heap.size 30 3 v1 (all.length + 1) (flatE all ++ [.int .i64 x.f0, .int .i64 x.f1, .int .i64 x.f2])) (hg : w.grownBy w2 vA.ownBlock) (hat : v1.ownBlock = vA.ownBlock \/ ∃ b,v1.ownBlock = some b /\ w.heap.size <= b) :
  Gs w0 (w2.setCell ⟨G,2,none⟩ v1) A c l G bU n S V U /\ AllAt w0 (w2.setCell ⟨G,2,none⟩ v1) G bU S V v1 (all ++ [x]) /\ Fr w (w2.setCell ⟨G,2,none⟩ v1) (fun k => k = G \/ vA.ownBlock = some k):=by
 have hGl : G < w.heap.size:=World.block_lt_of_cell? w _ hA.cell
 have hbl : bU < w.heap.size:=hG.forest.map.lt
 have f1 : Fr w w2 (fun k => vA.ownBlock = some k):=Fr.of_grown hg
 have hnG : ¬ vA.ownBlock = some G:=fun e => (hA.ne G e).1 rfl
 have c2:=f1.cell hnG hA.cell
 have z2:=(f1.frozen (a:=⟨G,2,none⟩) hGl hnG).trans hA.fz
 have f2 : Fr w2 (w2.setCell ⟨G,2,none⟩ v1) (fun k => k = G):=(Fr.of_grown (Qbk w2 G 2 v1)).mono (fun k hk _ => (Zo hk).symm)
 have f3 : Fr w (w2.setCell ⟨G,2,none⟩ v1) (fun k => k = G \/ vA.ownBlock = some k):=(f1.mono (fun k hk _ => .inr hk)).trans f2 (fun k hk _ => .inl hk)
 have hlt:=fun k hk => World.ownsRow.lt hA.row k hk
 have hT : ∀ k,(k = G \/ vA.ownBlock = some k) -> w0.heap.size <= k /\ k ≠ bU /\ ∀ x,¬ Foot S V x k:=by
  rintro k (rfl | hk)
  ·exact ⟨hG.G_,hG.GbU,fun x hx => hG.far x _ hx rfl⟩
  ·exact ⟨(hlt k hk).1,(hA.ne k hk).2.1,(hA.ne k hk).2.2⟩
 have hne1 : ∀ k,v1.ownBlock = some k -> k ≠ G /\ k ≠ bU /\ ∀ x,¬ Foot S V x k:=by
  intro k hk
  rcases hat with hat | ⟨b,hb,hle⟩
  ·rw [hat] at hk; exact hA.ne k hk
  ·rw [hb] at hk; cases hk
   exact ⟨by omega,by omega,fun x hx => by have:=(hG.forest.rows x _ hx).2.1; omega⟩
 have hc0 : ∀ (j : Nat) (u : Value),j ≠ 2 -> w.cell? ⟨G,j,none⟩ = some u -> (w2.setCell ⟨G,2,none⟩ v1).cell? ⟨G,j,none⟩ = some u:=fun j u hj hc =>
  (World.cell?_setCell_other w2 ⟨G,2,none⟩ ⟨G,j,none⟩ v1 (fun e => by injection e with _ e2; exact hj e2.symm)).trans (f1.cell hnG hc)
 refine ⟨⟨hG.forest.fr f3 (fun hk => (hT _ hk).2.1 rfl) (fun x k hx hk => (hT k hk).2.2 x hx),hG.below.trans (f3.below (fun k hk => (hT k hk).1) hG.below.size),hG.G_,hG.GbU,hG.far,hc0 0 _ (by omega) hG.c0,hc0 1 _ (by omega) hG.c1⟩,⟨World.cell?_setCell_same w2 _ _ c2,by rw [World.frozen?_setCell]; exact z2, ?_,hne1⟩,f3⟩
 exact f2.row (RowE.snoc hrow) (fun k hk e => (hne1 k hk).1 e)
end
def AnyF (S : K3 -> Option Nat) (V : K3 -> Value) (k : Nat) : Prop:=∃ x,Foot S V x k
def SubF (S : K3 -> Option Nat) (V' V : K3 -> Value) : Prop:=∀ x k,Foot S V' x k -> Foot S V x k
theorem walk_calls (w0 : World) (A : Option Addr) (c : Nat) (l : List SOp) (G bU n : Nat) (S : K3 -> Option Nat) (hr : Kd.C kOp w0 A l.length l) (hc : l.length <= c) (hok : okRow l = true) :
  ∀ (k : Nat) (U : K3 -> List Int) (all : List SElem) (e : SElem) (U2 : K3 -> List Int) (all2 : List SElem) (w : World) (V : K3 -> Value) (vA : Value),walkF l k U all e = some (U2,all2) -> Gs w0 w A c l G bU n S V U -> AllAt w0 w G bU S V vA all -> Falling l U -> inE e ->
  Calls Try.prog 49 #[.pointer (some ⟨G,0,none⟩),elV e] w fun r w' => r = .returned (.tuple #[]) /\ ∃ V2 vA2,Gs w0 w' A c l G bU n S V2 U2 /\ AllAt w0 w' G bU S V2 vA2 all2 /\ Fr w w' (fun k => k = G \/ AnyF S V k \/ vA.ownBlock = some k) /\ (vA2.ownBlock = vA.ownBlock \/ ∃ b,vA2.ownBlock = some b /\ w.heap.size <= b) /\ SubF S V2 V:=by
 intro k
 induction k with
 | zero => intro U all e U2 all2 w V vA hw; cases hw
 | succ k ih =>
  intro U all e U2 all2 w V vA hw hG hA hF hE
  rw [walkF_succ] at hw
  have HW:=Zz.k hw
  have HIH:=Zz.k ih
  have HG:=Zz.k hG
  have HA:=Zz.k hA
  have HF:=Zz.k hF
  have hbw:=fun (X : World) (hX : Below w.heap.size w X) => below_calls w0 X A c l G bU n S V U e (hG.down hX) hr hc hok (hF (key3 e)).1 (keyE hE.1 hE.2.1 hE.2.2) (by have:=(hF (key3 e)).2; omega)
  have HBW:=Zz.k hbw
  have HIN:=Zz.k (belowL_in (e:=e) hok (hF (key3 e)).1)
  have hbl:=Nat.le_trans (belowL_len l (U (key3 e)) e) (Nat.succ_le_succ (hF (key3 e)).2)
  clear hw ih hG hA hF hbw hE hr hc hok
  generalize hbs : belowL l (U (key3 e)) e = bs at HW HBW HIN hbl
  clear hbs
  unfold elV at HBW ⊢
  go_enter Try.func49,Try.ntmps49
  go_wp2_with fail
  have hbb:=HBW.out _ (Qad (Below.refl w.heap.size w) (.cells #[.int .i64 e.f0, .int .i64 e.f1, .int .i64 e.f2] 30))
  refine hbb.mono ?_
  rintro r w1 ⟨v,V1,rfl,hrow,hG1,hf1,hfe1⟩
  obtain ⟨A1,c1,rfl,hlc⟩:=hrow.form
  have hA1 : AllAt w0 w1 G bU S V1 vA all:=(HA.out.down (Qad (Below.refl w.heap.size w) _)).fr hf1 (fun hk => HG.out.far _ _ hk rfl) (fun k hk hk2 => (HA.out.ne k hk).2.2 _ hk2) hfe1
  have hlb : w.heap.size < (w.alloc (.cells #[.int .i64 e.f0, .int .i64 e.f1, .int .i64 e.f2] 30)).heap.size:=by simp
  have hf1' : Fr w w1 (fun k => k = G \/ AnyF S V k \/ vA.ownBlock = some k):=(Fr.of_below (Qad (Below.refl w.heap.size w) _) _).trans hf1 (fun k hk _ => .inr (.inl ⟨_,hk⟩))
  have hrb : ∀ k,(Value.slice A1 bs.length c1).ownBlock = some k -> w.heap.size <= k /\ k < w1.heap.size:=fun k hk => by
   have:=World.ownsRow.lt hrow k hk
   omega
  have HRB:=Zz.k hrb
  have HF1:=Zz.k hf1'
  have HR1:=Zz.k hrow
  have HG1:=Zz.k hG1
  have HA1:=Zz.k hA1
  have HFE:=Zz.k hfe1
  have hcl:=World.block_lt_of_cell? w _ HA.out.cell
  clear hrow hG1 hf1 hfe1 hA1 hlb hf1' hrb hbb HBW
  go_wp2
  go_loopg [10] (bs.length + 1) (fun gg s10 wr => ∃ (i : Nat) (Ui : K3 -> List Int) (al : List SElem) (Vi : K3 -> Value) (vi : Value),s10 = .int .i64 i /\ i <= bs.length /\ bs.length < gg + i /\ Zz ((bs.drop i).foldlM (stepF l k) (Ui,al) = some (U2,all2)) /\ Zz (Gs w0 wr A c l G bU n S Vi Ui) /\ Zz (AllAt w0 wr G bU S Vi vi al) /\ Zz (Falling l Ui) /\ Zz (Fr w wr (fun k => k = G \/ AnyF S V k \/ vA.ownBlock = some k)) /\ Zz (vi.ownBlock = vA.ownBlock \/ ∃ b,vi.ownBlock = some b /\ w.heap.size <= b) /\ Zz (SubF S Vi V) /\ Zz (RowE wr w.heap.size (.slice A1 bs.length c1) bs /\ ∀ k,(Value.slice A1 bs.length c1).ownBlock = some k -> vi.ownBlock ≠ some k))
  case atStart =>
   refine ⟨0,updU U (key3 e) [],all,V1,vA,rfl,Nat.zero_le _,by omega,HW,HG1,HA1,⟨HF.out.upd _⟩,HF1,⟨.inl rfl⟩,HFE,⟨?_,fun k hk hk2 => ?_⟩⟩
   ·refine ⟨HR1.out.1,HR1.out.2.imp id (fun ⟨g,c',cur,h1,h2,h3⟩ => ⟨g,c',cur,h1,(HRB.out g (by rw [h1]; rfl)).1,h3⟩)⟩
   ·have h1:=(HRB.out k hk).1
    have h2:=(World.ownsRow.lt HA.out.row k hk2).2
    omega
  case round =>
   obtain ⟨i,Ui,al,Vi,vi,rfl,hi,hgg,HFO,HGi,HAi,HFi,HFr,HVi,HFei,HRi⟩:=hrel
   by_cases hlt : i < bs.length
   ·have hltz : (i : Int) < (bs.length : Int):=by omega
    have h0z : (0 : Int) <= (i : Int):=by omega
    obtain ⟨g1,rfl,x0,x1,x2⟩:=HRi.out.1.at i hlt
    have hfo:=HFO.out
    rw [List.drop_eq_getElem_cons hlt,List.foldlM_cons] at hfo
    have hinx:=HIN.out _ (List.getElem_mem hlt)
    generalize hx : bs[i] = x at x0 x1 x2 hfo hinx
    clear hx
    obtain ⟨⟨U3,al3⟩,hst,hfo⟩:=Option.bind_eq_some_iff.1 hfo
    unfold stepF at hst
    have hal : al.length < 900000:=by
     by_cases h : al.length < 900000
     ·exact h
     ·rw [if_neg h] at hst; cases hst
    rw [if_pos hal] at hst
    have HST:=Zz.k hst
    have HFO2:=Zz.k hfo
    have HINX:=Zz.k hinx
    clear hfo hst hinx
    go_upto_region 4 with (fail)
    refine one_box (Q:=Code.wp _ _ _ _) wr _ _ (fun w2 g2 gB gS => ?_)
    have o0:=g2 0; have o1:=g2 1; have o2:=g2 2
    simp only [List.getElem?_toArray,List.getElem?_cons_zero,List.getElem?_cons_succ] at o0 o1 o2
    have hG2:=HGi.out.down gB
    have hA2:=HAi.out.down gB
    have d2:=hA2.cell
    have HG2:=Zz.k hG2
    have HA2:=Zz.k hA2
    have HB2:=Zz.k gB
    have lwr : w.heap.size <= wr.heap.size:=HFr.out.size
    clear g2 gB hG2 hA2 x0 x1 x2
    refine stL (S:=fun w' => w'.cell? ⟨G,2,none⟩ = some vi /\ w'.cell? ⟨wr.heap.size,0,none⟩ = some (.int .i64 x.f0) /\ w'.cell? ⟨wr.heap.size,1,none⟩ = some (.int .i64 x.f1) /\ w'.cell? ⟨wr.heap.size,2,none⟩ = some (.int .i64 x.f2))
     [7,10] 11 t_tree_grower_walk.bits4 t_tree_grower_walk.tab4 (hS:=⟨d2,o0,o1,o2⟩) (h:=fun hS' HT HW => ?_)
    refine pu HT 0 14 1 (h := ?_)
    refine pu HT 1 15 3 (h := ?_)
    refine pu HT 2 16 7 (h := ?_)
    refine pu HT 3 17 15 (h := ?_)
    refine tk HT HW hS' 4 18 31 (h := ?_)
    refine tk HT HW hS' 5 19 63 (h := ?_)
    refine exS HT 6 (some 20) 127 (.slice (some ⟨w2.drew.heap.size,0,none⟩) 1 1) (w2.drew.alloc (.cells [.int .i64 x.f0, .int .i64 x.f1, .int .i64 x.f2].toArray 30)) (hrun := ?_) (hS := ?_) (h:=fun hS' => ?_)
    ·clear HT HW hS'
     go_simp
    ·have hb:=Qad (Below.refl _ w2.drew) (.cells [.int .i64 x.f0, .int .i64 x.f1, .int .i64 x.f2].toArray 30)
     exact ⟨Qaa hb hS'.1,Qaa hb hS'.2.1,Qaa hb hS'.2.2.1,Qaa hb hS'.2.2.2⟩
    refine nm (h := ?_)
    have hbse : w0.heap.size <= w2.drew.heap.size:=HG2.out.below.size
    refine apL HT 7 21 255 w0.heap.size w2.drew info30 Try.underlying23 vi al.length (flatE al) [.int .i64 x.f0, .int .i64 x.f1, .int .i64 x.f2] (show w2.drew.ownsRow _ _ _ _ _ _ from HA2.out.row) hbse (by omega) rfl (by simp [Value.oneCell']) (h:=fun v1 w4 hown hg hat => ?_)
    have hd2 : Below w2.heap.size w2 w2.drew:=Qae (Below.refl _ w2)
    have happ:=(HA2.out.down hd2).app (HG2.out.down hd2) hown hg hat
    obtain ⟨A4,c4,hv1⟩ : ∃ g c,v1 = .slice (some ⟨g,0,none⟩) (al.length + 1) c:=by
     rcases hown.2 with ⟨_,h0⟩ | ⟨g,c,_,h0,_⟩
     ·omega
     ·exact ⟨g,c,h0⟩
    subst hv1
    have hnG : ¬ vi.ownBlock = some G:=fun e => (HA2.out.ne G e).1 rfl
    have hc4:=(Fr.of_grown hg).cell (a:=⟨G,2,none⟩) hnG (show w2.drew.cell? ⟨G,2,none⟩ = some vi from d2)
    have hz4 : w4.frozen? ⟨G,2,none⟩ = false:=((Fr.of_grown hg).frozen (a:=⟨G,2,none⟩) (World.block_lt_of_cell? w2 _ d2) hnG).trans HA2.out.fz
    have hwb : ¬ vi.ownBlock = some wr.heap.size:=fun e => by have:=(World.ownsRow.lt HAi.out.row _ e).2; omega
    have q0:=(Fr.of_grown hg).cell (a:=⟨wr.heap.size,0,none⟩) hwb (show w2.drew.cell? _ = _ from o0)
    have q1:=(Fr.of_grown hg).cell (a:=⟨wr.heap.size,1,none⟩) hwb (show w2.drew.cell? _ = _ from o1)
    have q2:=(Fr.of_grown hg).cell (a:=⟨wr.heap.size,2,none⟩) hwb (show w2.drew.cell? _ = _ from o2)
    have HAPP:=Zz.k happ
    have HAT:=Zz.k hat
    clear hown hg hat hS' happ o0 o1 o2 d2
    refine nm (h := ?_)
    refine pu HT 8 22 511 (h := ?_)
    refine pu HT 9 23 1023 (h := ?_)
    refine skL HT 10 2047 (w4.setCell ⟨G,2,none⟩ (.slice (some ⟨A4,0,none⟩) (al.length + 1) c4)) (hrun := ?_) (h := ?_)
    ·clear HT HW
     go_simp
    refine dn HT (h := ?_)
    clear HT HW
    have hGwr : (⟨G,2,none⟩ : Addr).block ≠ wr.heap.size:=by
     have:=World.block_lt_of_cell? wr _ HAi.out.cell
     simp only at this ⊢
     omega
    have p0:=(World.cell?_setCell_other w4 ⟨G,2,none⟩ ⟨wr.heap.size,0,none⟩ (.slice (some ⟨A4,0,none⟩) (al.length + 1) c4) (fun e => hGwr (by rw [e]))).trans q0
    have p1:=(World.cell?_setCell_other w4 ⟨G,2,none⟩ ⟨wr.heap.size,1,none⟩ (.slice (some ⟨A4,0,none⟩) (al.length + 1) c4) (fun e => hGwr (by rw [e]))).trans q1
    have p2:=(World.cell?_setCell_other w4 ⟨G,2,none⟩ ⟨wr.heap.size,2,none⟩ (.slice (some ⟨A4,0,none⟩) (al.length + 1) c4) (fun e => hGwr (by rw [e]))).trans q2
    clear q0 q1 q2 hc4 hz4
    have hih:=HIH.out Ui (al ++ [x]) x U3 al3 _ Vi _ HST.out HAPP.out.1 HAPP.out.2.1 HFi.out HINX.out
    simp only [elV] at hih
    generalize w4.setCell ⟨G,2,none⟩ (.slice (some ⟨A4,0,none⟩) (al.length + 1) c4) = w5 at *
    go_wp2_with fail
    refine hih.mono ?_
    rintro r w6 ⟨rfl,V6,v6,hG6,hA6,hf6,hv6,hfe6⟩
    have HG6:=Zz.k hG6
    have HA6:=Zz.k hA6
    have Hf6:=Zz.k hf6
    have HV6:=Zz.k hv6
    have HFE6:=Zz.k hfe6
    clear hG6 hA6 hf6 hv6 hfe6 hih p0 p1 p2
    go_wp2
    obtain ⟨g',rfl⟩ : ∃ g',gk = g' + 1:=⟨gk - 1,by omega⟩
    go_roundg g'
    case measure => omega
    case rel =>
     have hvo : ∀ k,vi.ownBlock = some k -> k < w.heap.size -> vA.ownBlock = some k:=fun k hk hlt => by
      rcases HVi.out with h | ⟨b,hb,hle⟩
      ·rw [<- h]; exact hk
      ·rw [hb] at hk; cases hk; omega
     have hv1 : ∀ k,(Value.slice (some ⟨A4,0,none⟩) (al.length + 1) c4).ownBlock = some k -> vi.ownBlock = some k \/ wr.heap.size <= k:=fun k hk => by
      rcases HAT.out with h | ⟨b,hb,hle⟩
      ·rw [h] at hk; exact .inl hk
      ·rw [hb] at hk; cases hk; exact .inr (Nat.le_trans HB2.out.size hle)
     have f5 : Fr wr w5 (fun k => k = G \/ vi.ownBlock = some k):=(Fr.of_below (Qae HB2.out) _).trans HAPP.out.2.2 (fun k hk _ => hk)
     have f6 : Fr wr w6 (fun k => k = G \/ vi.ownBlock = some k \/ AnyF S Vi k):=(f5.mono (fun k hk _ => hk.elim .inl (fun h => .inr (.inl h)))).trans Hf6.out (fun k hk hlt => by
      rcases hk with hk | hk | hk
      ·exact .inl hk
      ·exact .inr (.inr hk)
      ·rcases hv1 k hk with h | h
       ·exact .inr (.inl h)
       ·exact absurd hlt (Nat.not_lt.2 h))
     have hGlt : G < w.heap.size:=hcl
     have hftl : ∀ k,AnyF S Vi k -> k < w.heap.size:=fun k ⟨x,hx⟩ => (HG.out.forest.rows x k (HFei.out x k hx)).2.1
     have h5w : wr.heap.size <= w5.heap.size:=f5.size
     have hv6 : ∀ k,v6.ownBlock = some k -> vi.ownBlock = some k \/ wr.heap.size <= k:=fun k hk => by
      rcases HV6.out with h | ⟨b,hb,hle⟩
      ·rw [h] at hk; exact hv1 k hk
      ·rw [hb] at hk; cases hk; exact .inr (by omega)
     refine ⟨i + 1,U3,al3,V6,v6,by go_num,by omega,by omega,HFO2,HG6,HA6,⟨walkF_falling l k _ _ _ _ HFi.out HST.out⟩,⟨HFr.out.trans f6 (fun k hk hlt => ?_)⟩,⟨?_⟩,⟨fun x k hk => HFei.out x k (HFE6.out x k hk)⟩,⟨f6.row HRi.out.1 (fun k hk hk2 => ?_),fun k hk hk2 => ?_⟩⟩
     ·rcases hk with hk | hk | ⟨x,hx⟩
      ·exact .inl hk
      ·exact .inr (.inr (hvo k hk hlt))
      ·exact .inr (.inl ⟨x,HFei.out x k hx⟩)
     ·cases hq : v6.ownBlock with
      | none =>
       left
       cases hq2 : vA.ownBlock with
       | none => rfl
       | some b =>
        exfalso
        have h6 : v6.ownBlock = (Value.slice (some ⟨A4,0,none⟩) (al.length + 1) c4).ownBlock:=by
         rcases HV6.out with h | ⟨b,hb,_⟩
         ·exact h
         ·rw [hb] at hq; cases hq
        rw [hq] at h6; cases h6
      | some b =>
       rcases hv6 b hq with h | h
       ·rcases HVi.out with h2 | ⟨b2,hb2,hle⟩
        ·exact .inl (by rw [<- h2,h])
        ·rw [hb2] at h; cases h; exact .inr ⟨_,rfl,hle⟩
       ·exact .inr ⟨b,rfl,by omega⟩
     ·have h1:=(World.ownsRow.lt HRi.out.1 k hk).1
      rcases hk2 with hk2 | hk2 | hk2
      ·omega
      ·exact HRi.out.2 k hk hk2
      ·have:=hftl k hk2; omega
     ·rcases hv6 k hk2 with h | h
      ·exact HRi.out.2 k hk h
      ·have:=(World.ownsRow.lt HRi.out.1 k hk).2; omega
   ·obtain rfl : i = bs.length:=by omega
    have hfo:=HFO.out
    rw [List.drop_length] at hfo
    simp only [List.foldlM_nil] at hfo
    cases hfo
    have hltz : ¬ (bs.length : Int) < (bs.length : Int):=by omega
    go_wp2
    go_end0
    exact ⟨rfl,Vi,HGi.out,vi,HAi.out,HFr.out,HVi.out,HFei.out⟩
end
section
theorem Reps_flatE {R : SElem -> List Value -> Prop} (hR : ∀ x : SElem,R x [.int .i64 x.f0, .int .i64 x.f1, .int .i64 x.f2]) (xs : List SElem) : Reps R 3 xs (flatE xs):=by
 have h : ∀ (ys zs : List SElem),Reps R 3 ys (flatE ys) -> Reps R 3 (ys ++ zs) (flatE (ys ++ zs)):=by
  intro ys zs
  induction zs generalizing ys with
  | nil => intro h; simpa using h
  | cons z zs ih =>
   intro h
   have h1:=ih (ys ++ [z]) (by rw [flatE_snoc]; exact h.snoc (hR z) rfl)
   simpa using h1
 simpa using h [] xs (Reps.none _ _)
theorem RowE.R {w : World} {base : Nat} {v : Value} {xs : List SElem} (h : RowE w base v xs) : Kd.R Qaw 30 w base (fun _ => True) v xs :=
 ⟨fun _ _ => trivial,flatE xs,h,Reps_flatE (fun x => kElem_mkM _ _ _ x) xs⟩
theorem gU_falls (l : List SOp) : ∀ i,i <= l.length -> ∀ x,Falls l (gU l i x)
 | 0,_,x => ⟨List.Pairwise.nil,fun k hk => by simp [gU] at hk⟩
 | i + 1,hi,x => by
  have ih:=gU_falls l i (by omega)
  unfold gU
  split
  ·exact ih x
  ·unfold updU
   split
   ·have h:=ih (key3 (Qar l i).f3)
    refine ⟨List.Pairwise.cons (fun k hk => ?_) h.1,fun k hk => ?_⟩
    ·have:=gU_lt l i _ k hk; omega
    ·rcases List.mem_cons.1 hk with rfl | hk
     ·omega
     ·exact h.2 k hk
   ·exact ih x
theorem gU_falling {l : List SOp} (hok : okRow l = true) : Falling l (gU l l.length):=fun x => ⟨gU_falls l _ (Nat.le_refl _) x,Nat.le_trans (gU_len l _ x) (okRow_len hok)⟩
def zE : SElem:=⟨0,0,0⟩
def tree_All.f (l : List SOp) : Option (List SElem):=if okRow l = true then (walkF l 1000 (gU l l.length) [] zE).map (·.2) else none
theorem tree_All.calls (A0 : Option Addr) (c0 : Nat) (l0 : List (SOp)) (r : List (SElem)) (w : World) (hr0 : Kd.C kOp w A0 l0.length l0) (hc0 : l0.length <= c0) (h : tree_All.f l0 = some r) :
  Calls Try.prog 29 #[.slice A0 l0.length c0] w fun e w' => ∃ v0_ : Value,e = .returned (v0_) /\ Kd.R Qaw 30 w' w.heap.size (fun _ => True) v0_ r /\ Below w.heap.size w w':=by
 unfold tree_All.f at h
 split at h
 case isFalse => cases h
 rename_i hok
 obtain ⟨⟨U2,all2⟩,hw,rfl⟩:=Option.map_eq_some_iff.1 h
 clear h
 have hgr:=grown_calls A0 c0 l0 w hr0 hc0 hok
 have HW:=Zz.k hw
 have HOK:=Zz.k hok
 have HR:=Zz.k hr0
 have HC:=Zz.k hc0
 clear hw hok hr0 hc0
 go_enter Try.func29,Try.ntmps29
 go_wp2_with fail
 refine hgr.mono ?_
 rintro e w1 ⟨G,bU,n,S,V,rfl,hG⟩
 have hA : AllAt w w1 G bU S V (.slice none 0 0) []:=⟨hG.c2,hG.fz,RowE.nil _ _,fun k hk => by cases hk⟩
 have hwk:=walk_calls w A0 c0 l0 G bU n S HR.out HC.out HOK.out 1000 _ [] zE U2 all2 w1 V (.slice none 0 0) HW.out hG.gs hA (gU_falling HOK.out) ⟨by unfold inI zE; simp,by unfold inI zE; simp,by unfold inI zE; simp⟩
 simp only [elV,zE] at hwk
 clear hgr hG hA
 go_wp2_with fail
 refine hwk.mono ?_
 rintro e w2 ⟨rfl,V2,vA2,hG2,hA2,_⟩
 obtain ⟨A2,c2,rfl,_⟩:=hA2.row.form
 have hc:=hA2.cell
 have HA2:=Zz.k hA2
 have HG2:=Zz.k hG2
 clear hA2 hG2 hwk
 go_wp2
 go_ret
 exact ⟨_,rfl,HA2.out.row.R,HG2.out.below⟩
end
end Go.Proofs.Ytlllghajjamdpaa.L
end
