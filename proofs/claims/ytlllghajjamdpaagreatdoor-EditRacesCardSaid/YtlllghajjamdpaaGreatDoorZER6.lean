/- Part 6 of the proof that for every argument the law EditRaces answers true: edits that two sites make of the same row, ordered one behind the other either way, leave what each wrote whole, side by side, and take away what each took -/
import Derived.Test.YtlllghajjamdpaaGreatDoorZER5
import Derived.Deep.DeepCutAuto
import Derived.Deep.CutBlock
import Derived.Shelf.Unicode.DecodeAny
import Derived.Test.YtlllghajjamdpaaGreatDoorRows
import Derived.Test.YtlllghajjamdpaaGreatDoorTie
import Derived.Test.YtlllghajjamdpaaGreatDoorCards
import Derived.Lib.LaidIn
import Derived.Lib.LaidU8
import Derived.Deep.DeepHandedRow
import Derived.Deep.DeepWitnessRowRef
import Derived.SevenTiedAt
import Derived.WalkKit
import Derived.ProofKit
import Derived.OpenShut
import Derived.ChangeOld
import Derived.Below
import Derived.SizedLaws
import Derived.JoinedCond
section
namespace Go.Proofs.YtlllghajjamdpaaGreatDoor.L
open Go.RowKit Go.Proofs.YtlllghajjamdpaaGreatDoorW.PrintWords Go.Proofs.YtlllghajjamdpaaGreatDoorW.PrintLast Go.Proofs.YtlllghajjamdpaaGreatDoorW.PrintMore
set_option linter.unusedVariables false
set_option linter.unusedSimpArgs false
set_option maxHeartbeats 40000000
set_option maxRecDepth 1000000
section
attribute [local go_sem] ta_int
structure Gs (w0 w : World) (A : Option Addr) (c : Nat) (l : List SOp) (G bU n : Nat) (S : K3 -> Option Nat) (V : K3 -> Value) (U : K3 -> List Int) : Prop where
 forest : Forest w w0.heap.size bU n S V U
 below : Below w0.heap.size w0 w
 G_ : w0.heap.size <= G
 GbU : G ≠ bU
 far : ∀ x k,Foot S V x k -> k ≠ G
 c0 : w.cell? ⟨G,0,none⟩ = some (.slice A l.length c)
 c1 : w.cell? ⟨G,1,none⟩ = some (.map (some bU))
theorem GrowI.gs {w0 w : World} {A : Option Addr} {c : Nat} {l : List SOp} {G bU i n : Nat} {S : K3 -> Option Nat} {V : K3 -> Value} (h : GrowI w0 w A c l G bU i S V n) : Gs w0 w A c l G bU n S V (gU l i):=⟨h.forest,h.below,h.G_,h.GbU,h.far,h.c0,h.c1⟩
section
variable {w0 w w' : World} {A : Option Addr} {c : Nat} {l : List SOp} {G bU n : Nat} {S : K3 -> Option Nat} {V V' : K3 -> Value} {U U' : K3 -> List Int}
theorem Gs.with {T : Nat -> Prop} (h : Gs w0 w A c l G bU n S V U) (hF : Forest w' w0.heap.size bU n S V' U') (hf : Fr w w' T) (hT : ∀ k,T k -> w0.heap.size <= k /\ k ≠ G) (hfar : ∀ x k,Foot S V' x k -> Foot S V x k \/ w.heap.size <= k) : Gs w0 w' A c l G bU n S V' U' :=
 have hG : G < w.heap.size:=World.block_lt_of_cell? w _ h.c0
 have hTG : ¬ T G:=fun e => (hT G e).2 rfl
 ⟨hF,h.below.trans (hf.below (fun k hk => (hT k hk).1) h.below.size),h.G_,h.GbU,fun x k hk => (hfar x k hk).elim (fun e => h.far x k e) (fun e => by omega),hf.cell hTG h.c0,hf.cell hTG h.c1⟩
theorem Gs.down (h : Gs w0 w A c l G bU n S V U) (hb : Below w.heap.size w w') : Gs w0 w' A c l G bU n S V U:=h.with (h.forest.below hb) (Fr.of_below hb (fun _ => False)) (fun _ h => h.elim) (fun _ _ h => .inl h)
theorem Gs.drew (h : Gs w0 w A c l G bU n S V U) : Gs w0 w.drew A c l G bU n S V U:=h.down (Qae (Below.refl _ _))
end
def atE (l : List SOp) (i : Int) : SElem:=⟨(Qad l i).f0,(Qad l i).f1,0⟩
def nextL (l : List SOp) (e : SElem) : List SElem :=
 if 0 <= Qbf l e.f0 e.f1 /\ wrap64 (e.f2 + 1) < (Qaj (Qad l (Qbf l e.f0 e.f1)) : Int) then [⟨(Qad l (Qbf l e.f0 e.f1)).f0,(Qad l (Qbf l e.f0 e.f1)).f1,wrap64 (e.f2 + 1)⟩] else []
def belowL (l : List SOp) (us : List Int) (e : SElem) : List SElem:=us.map (atE l) ++ nextL l e
def Falls (l : List SOp) (us : List Int) : Prop:=us.Pairwise (fun a b => b <= a) /\ ∀ k ∈ us,0 <= k /\ k < (l.length : Int)
structure BelI (w0 w wr : World) (A : Option Addr) (c : Nat) (l : List SOp) (G bU n : Nat) (S : K3 -> Option Nat) (V V' : K3 -> Value) (U : K3 -> List Int) (e : SElem) (us : List Int) (v : Value) (xs : List SElem) : Prop where
 gs : Gs w0 wr A c l G bU n S V' (updU U (key3 e) us)
 fr : Fr w wr (fun k => Foot S V (key3 e) k)
 feet : ∀ x k,Foot S V' x k -> Foot S V x k
 row : RowE wr w.heap.size v xs
 e0 : wr.cell? ⟨w.heap.size,0,none⟩ = some (.int .i64 e.f0)
 e1 : wr.cell? ⟨w.heap.size,1,none⟩ = some (.int .i64 e.f1)
 e2 : wr.cell? ⟨w.heap.size,2,none⟩ = some (.int .i64 e.f2)
 ne : v.ownBlock ≠ some w.heap.size
theorem firstAt_range (p : Nat -> Bool) (n : Nat) : ∀ d k,0 <= Qbg p n d k -> Qbg p n d k < (n : Int)
 | 0,k,h => by simp [Qbg] at h
 | d + 1,k,h => by
  unfold Qbg at h ⊢
  split
  ·split
   ·omega
   ·rename_i h1 h2
    rw [if_pos h1,if_neg h2] at h
    exact firstAt_range p n d _ h
  ·rename_i h1
   rw [if_neg h1] at h
   omega
theorem findOp_range (l : List SOp) (a b : Int) : 0 <= Qbf l a b -> Qbf l a b < (l.length : Int):=firstAt_range _ _ _ _
theorem updU_same (U : K3 -> List Int) (x : K3) : updU U x (U x) = U:=by
 funext y; unfold updU; split
 ·rename_i h; rw [h]
 ·rfl
theorem updU_two (U : K3 -> List Int) (x : K3) (a b : List Int) : updU (updU U x a) x b = updU U x b:=by
 funext y; unfold updU; split <;> rfl
section
variable {w0 w wr w' : World} {A : Option Addr} {c : Nat} {l : List SOp} {G bU n : Nat} {S : K3 -> Option Nat} {V V' : K3 -> Value} {U : K3 -> List Int} {e : SElem} {us us' : List Int} {v : Value} {xs : List SElem}
theorem BelI.popped {p : Nat} {v' : Value} (h : BelI w0 w wr A c l G bU n S V V' U e us v xs) (hG : Gs w0 w A c l G bU n S V U) (hS : S (key3 e) = some p)
  (hF : Forest w' w0.heap.size bU n S (updV V' (key3 e) v') (updU (updU U (key3 e) us) (key3 e) us')) (hf : Fr wr.drew w' (fun k => k = p \/ (V' (key3 e)).ownBlock = some k)) (hv : v'.ownBlock = (V' (key3 e)).ownBlock) :
  BelI w0 w w' A c l G bU n S V (updV V' (key3 e) v') U e us' v xs:=by
 have hft : ∀ k,(k = p \/ (V' (key3 e)).ownBlock = some k) -> Foot S V (key3 e) k:=fun k hk => h.feet _ k ⟨p,hS,hk⟩
 have hlt : ∀ k,(k = p \/ (V' (key3 e)).ownBlock = some k) -> k < w.heap.size:=fun k hk => (hG.forest.rows _ k (hft k hk)).2.1
 have hw : ¬ (w.heap.size = p \/ (V' (key3 e)).ownBlock = some w.heap.size):=fun hk => by have:=hlt _ hk; omega
 have hfeet : ∀ x k,Foot S (updV V' (key3 e) v') x k -> Foot S V' x k:=by
  rintro x k ⟨q,hq,hk⟩
  refine ⟨q,hq,hk.imp id (fun hk => ?_)⟩
  by_cases ex : x = key3 e
  ·subst ex; simp only [updV,if_true] at hk; rw [<- hv]; exact hk
  ·simp only [updV,ex,if_false] at hk; exact hk
 have hrow : RowE w' w.heap.size v xs:=Fr.row hf (show wr.drew.ownsRow _ _ _ _ _ _ from h.row) (fun k hk hk2 => by
  have h1:=hlt k hk2
  have h2:=(World.ownsRow.lt h.row k hk).1
  omega)
 refine ⟨?_, ?_,fun x k hk => h.feet x k (hfeet x k hk),hrow,hf.cell hw h.e0,hf.cell hw h.e1,hf.cell hw h.e2,h.ne⟩
 ·rw [<- updU_two U (key3 e) us us']
  exact h.gs.drew.with hF hf (fun k hk => ⟨(hG.forest.rows _ k (hft k hk)).1,hG.far _ k (hft k hk)⟩) (fun x k hk => .inl (hfeet x k hk))
 ·exact (h.fr.trans (Fr.of_below (Qae (Below.refl _ wr)) (fun _ => False)) (fun _ h _ => h.elim)).trans hf (fun k hk _ => hft k hk)
theorem BelI.down (h : BelI w0 w wr A c l G bU n S V V' U e us v xs) (hb : Below wr.heap.size wr w') : BelI w0 w w' A c l G bU n S V V' U e us v xs :=
 ⟨h.gs.down hb,h.fr.trans (Fr.of_below hb (fun _ => False)) (fun _ h _ => h.elim),h.feet,(Fr.of_below hb (fun _ => False)).row h.row (fun _ _ h => h),Qab hb h.e0,Qab hb h.e1,Qab hb h.e2,h.ne⟩
theorem BelI.app {x : SElem} {v1 : Value} (h : BelI w0 w wr A c l G bU n S V V' U e us v xs) (hG : Gs w0 w A c l G bU n S V U) (hrow : w'.ownsRow w.heap.size 32 3 v1 (xs.length + 1) (flatE xs ++ [.int .i64 x.f0, .int .i64 x.f1, .int .i64 x.f2])) (hg : wr.grownBy w' v.ownBlock) (hat : v1.ownBlock = v.ownBlock \/ ∃ b,v1.ownBlock = some b /\ wr.heap.size <= b) :
  BelI w0 w w' A c l G bU n S V V' U e us v1 (xs ++ [x]):=by
 have hlt : ∀ k,v.ownBlock = some k -> w.heap.size <= k:=fun k hk => (World.ownsRow.lt h.row k hk).1
 have hw : ¬ v.ownBlock = some w.heap.size:=h.ne
 have hfr : Fr wr w' (fun k => v.ownBlock = some k):=Fr.of_grown hg
 have hww:=h.fr.size
 have hlw : w.heap.size < wr.heap.size:=World.block_lt_of_cell? wr _ h.e0
 have hft : ∀ x k,Foot S V' x k -> ¬ v.ownBlock = some k:=fun x k hk hk2 => by
  have h1:=(hG.forest.rows x k (h.feet x k hk)).2.1
  have h2:=hlt k hk2
  omega
 have hG0 : w0.heap.size <= w.heap.size:=hG.below.size
 have hGl : G < w.heap.size:=World.block_lt_of_cell? w _ hG.c0
 have hbl : bU < w.heap.size:=hG.forest.map.lt
 refine ⟨?_,h.fr.trans hfr (fun k hk hlt2 => ?_),h.feet,RowE.snoc hrow,hfr.cell hw h.e0,hfr.cell hw h.e1,hfr.cell hw h.e2, ?_⟩
 ·refine h.gs.with (h.gs.forest.fr hfr (fun hk => ?_) hft) hfr (fun k hk => ?_) (fun _ _ hk => .inl hk)
  ·have:=hlt _ hk; omega
  ·have:=hlt _ hk; exact ⟨by omega,by omega⟩
 ·have:=hlt k hk; omega
 ·rcases hat with hat | ⟨b,hb,hle⟩
  ·rw [hat]; exact h.ne
  ·rw [hb]; intro e; have:=Zo e; omega
end
theorem below_calls (w0 w : World) (A : Option Addr) (c : Nat) (l : List SOp) (G bU n : Nat) (S : K3 -> Option Nat) (V : K3 -> Value) (U : K3 -> List Int) (e : SElem) (hG : Gs w0 w A c l G bU n S V U) (hr : Kd.C kOp w0 A l.length l) (hc : l.length <= c) (hok : okRow l = true) (hfa : Falls l (U (key3 e)))
  (hk : ∃ kl,keyOf Tryz.prog 32 (encE (key3 e)) = some kl) (hul : (U (key3 e)).length < 800000) :
  Calls Tryz.prog 132 #[.pointer (some ⟨G,0,none⟩),elV e] w fun r w' => ∃ v V',r = .returned v /\ RowE w' w.heap.size v (belowL l (U (key3 e)) e) /\ Gs w0 w' A c l G bU n S V' (updU U (key3 e) []) /\ Fr w w' (fun k => Foot S V (key3 e) k) /\ ∀ x k,Foot S V' x k -> Foot S V x k:=by
 have HR:=Zz.k hr
 have HOK:=Zz.k hok
 have HFA:=Zz.k hfa
 have HC:=Zz.k hc
 have HUL:=Zz.k hul
 obtain ⟨kl,hkl⟩:=hk
 have hL0:=fun (X : World) (hX : Gs w0 X A c l G bU n S V U) => hX.forest.map.look lawE Tryz.underlying129 zeroH (key3 e) hkl
 simp only [encE,key3] at hL0
 have HL0:=Zz.k hL0
 have HG:=Zz.k hG
 clear hr hok hfa hul hL0 hkl hG
 unfold elV
 go_enter Tryz.func132,Tryz.ntmps132
 go_wp2_with fail
 refine one_box (Q:=Code.wp _ _ _ _) w _ _ (fun w2 g2 gB gS => ?_)
 have o0:=g2 0; have o1:=g2 1; have o2:=g2 2
 simp only [List.getElem?_toArray,List.getElem?_cons_zero,List.getElem?_cons_succ] at o0 o1 o2
 have hG2:=HG.out.down gB
 have d1:=hG2.c1
 have hL:=HL0.out _ (hG2.down (Qae (Below.refl _ _)))
 have HG2:=Zz.k hG2
 have HB2:=Zz.k gB
 clear g2 gB hG2
 generalize hpv : ptrV (S (e.f0,e.f1,e.f2)) = h5 at hL
 refine stR (S:=fun w' => w'.cell? ⟨G,1,none⟩ = some (.map (some bU)) /\ w'.cell? ⟨w.heap.size,0,none⟩ = some (.int .i64 e.f0) /\ w'.cell? ⟨w.heap.size,1,none⟩ = some (.int .i64 e.f1) /\ w'.cell? ⟨w.heap.size,2,none⟩ = some (.int .i64 e.f2) /\ (Instr.lookup 129 (.map (some bU)) (.agg #[.int .i64 e.f0, .int .i64 e.f1, .int .i64 e.f2]) false).run Tryz.prog w' = .ok h5 w')
  7 t_tree_grower_below.bits1 t_tree_grower_below.tab1 (hS:=⟨d1,o0,o1,o2,hL⟩) (h:=fun hS HT HW => ?_)
 refine pu HT 0 7 1 (h := ?_)
 refine pu HT 1 8 3 (h := ?_)
 refine pu HT 2 9 7 (h := ?_)
 refine tk HT HW hS 3 10 15 (h := ?_)
 refine tk HT HW hS 4 11 31 (h := ?_)
 refine tk HT HW hS 5 12 63 (h := ?_)
 refine pu HT 6 5 127 (h := ?_)
 refine dn HT (h := ?_)
 clear HT HW hS hL
 go_upto_block 0 with (fail)
 go_cut [4] (fun v4 wc => ∃ V' xs,Zz (BelI w0 w wc A c l G bU n S V V' U e [] v4 xs) /\ Zz (xs = (U (key3 e)).map (atE l)))
 case first =>
  go_wp2_with fail
  go_loopg [4] ((U (key3 e)).length + 1) (fun gg s4 wr => ∃ (us : List Int) (V' : K3 -> Value) (xs : List SElem) (dd : List Int),us.length < gg /\ Zz (BelI w0 w wr A c l G bU n S V V' U e us s4 xs) /\ Zz (U (key3 e) = dd ++ us /\ xs = dd.map (atE l)))
  case atStart =>
   exact ⟨U (key3 e),V,[],[],Nat.lt_succ_self _,⟨⟨by rw [updU_same]; exact HG2.out.down (Qae (Below.refl _ _)),(Fr.of_below HB2.out _).trans (Fr.of_below (Qae (Below.refl _ _)) (fun _ => False)) (fun _ h _ => h.elim),fun _ _ h => h,RowE.nil _ _,o0,o1,o2,by simp [Value.ownBlock]⟩⟩,⟨rfl,rfl⟩⟩
  case round =>
   obtain ⟨us,V',xs,dd,hlt,HI,HD⟩:=hrel
   clear d1 o0 o1 o2
   replace hpv : ptrV (S (key3 e)) = h5:=hpv
   cases hS : S (key3 e) with
   | none =>
    rw [hS] at hpv
    simp only [ptrV] at hpv
    subst hpv
    have hus : us = []:=by
     have h1:=HG.out.forest.none_ (key3 e) hS
     have h2:=HD.out.1
     rw [h1] at h2
     exact (List.append_eq_nil_iff.1 h2.symm).2
    subst hus
    go_wp2
    go_meet
    case rel =>
     refine ⟨V',xs,HI,⟨?_⟩⟩
     rw [HD.out.2,HD.out.1,List.append_nil]
   | some p =>
    rw [hS] at hpv
    simp only [ptrV] at hpv
    subst hpv
    have hUx : updU U (key3 e) us (key3 e) = us:=by simp [updU]
    cases us with
    | nil =>
     obtain ⟨⟨A1,c1,hv⟩,hcp⟩:=HI.out.gs.forest.empty hS hUx
     rw [hv] at hcp
     have hln:=hung_Len A1 0 c1 wr
     go_wp2_with fail
     with_reducible refine hln.mono ?_
     rintro r w' ⟨rfl,rfl⟩
     go_wp2
     go_meet
     case rel =>
      refine ⟨V',xs,HI,⟨?_⟩⟩
      rw [HD.out.2,HD.out.1,List.append_nil]
    | cons m us =>
     have hfl:=HFA.out
     rw [HD.out.1] at hfl
     have hmr:=hfl.2 m (by simp)
     obtain ⟨j,rfl⟩ : ∃ j : Nat,m = (j : Int):=⟨m.toNat,by omega⟩
     have hjl : j < l.length:=by omega
     have hjz : (j : Int) < (l.length : Int):=hmr.2
     have hj0 : (0 : Int) <= (j : Int):=hmr.1
     have hsrt : ((j : Int) :: us).Pairwise (fun a b => b <= a):=(List.pairwise_append.1 hfl.1).2.1
     have husl : us.length < 800000:=by have h1:=HUL.out; rw [HD.out.1] at h1; simp at h1; omega
     have hpq:=HI.out.gs.drew.forest.pop hS hUx hsrt husl (by have:=HI.out.gs.below.size; exact this)
     obtain ⟨⟨A1,c1,hv⟩,hcp,hpop⟩:=hpq
     replace hcp : wr.cell? ⟨p,0,none⟩ = some (V' (key3 e)):=hcp
     rw [hv] at hcp
     have hln:=hung_Len A1 (us.length + 1) c1 wr
     obtain ⟨ad,A7,c7,rfl,x0,x1,x2,x3,x4,x5,x6,x7,x8,x9,x10,l7,g7⟩:=Qcg HR.out (j : Int) hj0 hjz
     simp only [Int.toNat_natCast] at x0 x1 x2 x3 x4 x5 x6 x7 x8 x9 x10
     have HPOP:=Zz.k hpop
     have HL7:=Zz.k l7
     have HG7:=Zz.k g7
     have hg0:=HI.out.gs.c0
     generalize ho : Qad l (j : Int) = o at x0 x1 x2 x3 x4 x5 x6 x7 x8 x9 x10 HL7 HG7
     have HO:=Zz.k ho
     have HY:=Zz.k (fun (X : World) (hb : Below w0.heap.size w0 X) => (⟨Qab hb x0,Qab hb x1,Qab hb x2,Qab hb x3,Qab hb x4,Qab hb x5,Qab hb x6,Qab hb x7,Qab hb x8,Qab hb x9,Qab hb x10⟩ : X.cell? (ad.add (j * 11)) = some (.int .i64 o.f0) /\ X.cell? ⟨(ad.add (j * 11)).block,(ad.add (j * 11)).off + 1,none⟩ = some (.int .i64 o.f1) /\ X.cell? ⟨(ad.add (j * 11)).block,(ad.add (j * 11)).off + 2,none⟩ = some (.int .i64 o.f2) /\ X.cell? ⟨(ad.add (j * 11)).block,(ad.add (j * 11)).off + 3,none⟩ = some (.int .i64 o.f3.f0) /\ X.cell? ⟨(ad.add (j * 11)).block,(ad.add (j * 11)).off + 4,none⟩ = some (.int .i64 o.f3.f1) /\ X.cell? ⟨(ad.add (j * 11)).block,(ad.add (j * 11)).off + 5,none⟩ = some (.int .i64 o.f3.f2) /\ X.cell? ⟨(ad.add (j * 11)).block,(ad.add (j * 11)).off + 6,none⟩ = some (.string o.f4) /\ X.cell? ⟨(ad.add (j * 11)).block,(ad.add (j * 11)).off + 7,none⟩ = some (.slice A7 o.f5.length c7) /\ X.cell? ⟨(ad.add (j * 11)).block,(ad.add (j * 11)).off + 8,none⟩ = some (.int .i64 o.f6) /\ X.cell? ⟨(ad.add (j * 11)).block,(ad.add (j * 11)).off + 9,none⟩ = some (.int .i64 o.f7) /\ X.cell? ⟨(ad.add (j * 11)).block,(ad.add (j * 11)).off + 10,none⟩ = some (.int .i64 o.f8)))
     clear hpop l7 g7 ho hfl hmr x0 x1 x2 x3 x4 x5 x6 x7 x8 x9 x10
     go_wp2_with fail
     with_reducible refine hln.mono ?_
     rintro r w' ⟨rfl,rfl⟩
     clear hln hcp
     go_wp2
     refine stL (S:=fun w' => w'.cell? ⟨G,0,none⟩ = some (.slice (some ad) l.length c) /\ w'.cell? (ad.add (j * 11)) = some (.int .i64 o.f0) /\ w'.cell? ⟨(ad.add (j * 11)).block,(ad.add (j * 11)).off + 1,none⟩ = some (.int .i64 o.f1) /\ w'.cell? ⟨(ad.add (j * 11)).block,(ad.add (j * 11)).off + 2,none⟩ = some (.int .i64 o.f2) /\ w'.cell? ⟨(ad.add (j * 11)).block,(ad.add (j * 11)).off + 3,none⟩ = some (.int .i64 o.f3.f0) /\ w'.cell? ⟨(ad.add (j * 11)).block,(ad.add (j * 11)).off + 4,none⟩ = some (.int .i64 o.f3.f1) /\ w'.cell? ⟨(ad.add (j * 11)).block,(ad.add (j * 11)).off + 5,none⟩ = some (.int .i64 o.f3.f2) /\ w'.cell? ⟨(ad.add (j * 11)).block,(ad.add (j * 11)).off + 6,none⟩ = some (.string o.f4) /\ w'.cell? ⟨(ad.add (j * 11)).block,(ad.add (j * 11)).off + 7,none⟩ = some (.slice A7 o.f5.length c7) /\ w'.cell? ⟨(ad.add (j * 11)).block,(ad.add (j * 11)).off + 8,none⟩ = some (.int .i64 o.f6) /\ w'.cell? ⟨(ad.add (j * 11)).block,(ad.add (j * 11)).off + 9,none⟩ = some (.int .i64 o.f7) /\ w'.cell? ⟨(ad.add (j * 11)).block,(ad.add (j * 11)).off + 10,none⟩ = some (.int .i64 o.f8))
      [13] 15 t_tree_grower_below.bits3 t_tree_grower_below.tab3 (hS:=⟨hg0,HY.out _ HI.out.gs.drew.below⟩) (h:=fun hS' HT HW => ?_)
     clear hg0
     refine pu HT 0 22 1 (h := ?_)
     refine pu HT 1 23 3 (h := ?_)
     refine pu HT 2 24 7 (h := ?_)
     refine pu HT 3 25 15 (h := ?_)
     refine tk HT HW hS' 4 26 31 (h := ?_)
     refine pu HT 5 27 63 (h := ?_)
     refine pu HT 6 28 127 (h := ?_)
     refine ca HT 7 (some 29) 255 #[hungP p] Tryz.func144 (h:=fun K hK => ?_)
     refine HPOP.out.mono ?_
     rintro r w8 ⟨rfl,v8,hF8,hf8,hv8⟩
     have hI8:=HI.out.popped HG.out hS hF8 hf8 hv8
     refine ⟨_,rfl, ?_⟩
     refine hK.out _ _ ⟨hI8.gs.c0,HY.out _ hI8.gs.below⟩ (fun hS' => ?_)
     have HI8:=Zz.k hI8
     clear hK hF8 hf8 hv8 hI8
     refine nm (h := ?_)
     refine pu HT 8 30 511 (h := ?_)
     refine pu HT 9 31 1023 (h := ?_)
     refine tk HT HW hS' 10 32 2047 (h := ?_)
     refine ca HT 11 (some 33) 4095 #[.agg #[.int .i64 o.f0, .int .i64 o.f1, .int .i64 o.f2, .int .i64 o.f3.f0, .int .i64 o.f3.f1, .int .i64 o.f3.f2, .string o.f4, .slice A7 o.f5.length c7, .int .i64 o.f6, .int .i64 o.f7, .int .i64 o.f8], .int .i64 0] Tryz.func109 (h:=fun K hK => ?_)
     refine (op_At.calls o.f0 o.f1 o.f2 o.f3.f0 o.f3.f1 o.f3.f2 o.f4 A7 c7 o.f5 o.f6 o.f7 o.f8 0 o.f0 o.f1 0 w8 (Kd.C_below HG7.out HI8.out.gs.below) HL7.out rfl).mono ?_
     rintro r w9 ⟨rfl,hb9⟩
     have hI9:=HI8.out.down hb9
     refine ⟨_,rfl, ?_⟩
     refine hK.out _ _ ⟨hI9.gs.c0,HY.out _ hI9.gs.below⟩ (fun hS' => ?_)
     have HI9:=Zz.k hI9
     clear hK hI9 hb9
     refine nm (h := ?_)
     refine exS HT 12 (some 34) 8191 (.slice (some ⟨w9.heap.size,0,none⟩) 1 1) (w9.alloc (.cells [.int .i64 o.f0, .int .i64 o.f1, .int .i64 0].toArray 32)) (hrun := ?_) (hS := ?_) (h:=fun hS' => ?_)
     ·clear HT HW hS'
      go_simp
     ·have hb:=Qag (Below.refl _ w9) (.cells [.int .i64 o.f0, .int .i64 o.f1, .int .i64 0].toArray 32)
      exact ⟨(HI9.out.gs.down hb).c0,HY.out _ (HI9.out.gs.down hb).below⟩
     refine nm (h := ?_)
     have hxl : xs.length < 900000:=by
      rw [HD.out.2,List.length_map]
      have:=HUL.out
      rw [HD.out.1,List.length_append] at this
      omega
     refine apL HT 13 35 16383 w.heap.size w9 info32 Tryz.underlying23 _ xs.length (flatE xs) [.int .i64 o.f0, .int .i64 o.f1, .int .i64 0] HI9.out.row HI9.out.fr.size (by omega) rfl (by simp [Value.oneCell']) (h:=fun v1 w10 hown hg hat => ?_)
     have HI10:=Zz.k (HI9.out.app (x:=⟨o.f0,o.f1,0⟩) HG.out hown hg hat)
     clear hown hg hat hS'
     refine nm (h := ?_)
     refine pu HT 14 4 32767 (h := ?_)
     refine dn HT (h := ?_)
     clear HT HW
     go_wp2
     obtain ⟨g',rfl⟩ : ∃ g',gk = g' + 1:=⟨gk - 1,by omega⟩
     go_roundg g'
     case measure => simp only [List.length_cons] at hlt; omega
     case rel =>
      refine ⟨us,_,_,dd ++ [(j : Int)],by simp only [List.length_cons] at hlt; omega,HI10,⟨by rw [HD.out.1]; simp, ?_⟩⟩
      rw [HD.out.2,List.map_append]
      simp only [List.map_cons,List.map_nil,atE,HO.out]
 case rest =>
  obtain ⟨V',xs,HB,HXS⟩:=hcut
  have hfd:=fun (X : World) (hX : Below w0.heap.size w0 X) => tree_Find.calls A c l e.f0 e.f1 (Qbf l e.f0 e.f1) X (Kd.C_below HR.out hX) HC.out (by unfold tree_Find.f; rw [if_pos (by have:=okRow_len HOK.out; omega)])
  have hnx : belowL l (U (key3 e)) e = xs ++ nextL l e:=by rw [HXS.out]; rfl
  unfold nextL at hnx
  have hfb:=findOp_range l e.f0 e.f1
  generalize Qbf l e.f0 e.f1 = fi at hfd hfb hnx
  have HNX:=Zz.k hnx
  have HFD:=Zz.k hfd
  have HFB:=Zz.k hfb
  clear hfd hfb hnx d1 o0 o1 o2 hpv
  go_wp2_with fail
  refine stR (S:=fun w' => w'.cell? ⟨G,0,none⟩ = some (.slice A l.length c) /\ w'.cell? ⟨w.heap.size,0,none⟩ = some (.int .i64 e.f0) /\ w'.cell? ⟨w.heap.size,1,none⟩ = some (.int .i64 e.f1) /\ w'.cell? ⟨w.heap.size,2,none⟩ = some (.int .i64 e.f2))
   10 t_tree_grower_below.bits4 t_tree_grower_below.tab4 (hS:=⟨HB.out.gs.drew.c0,HB.out.e0,HB.out.e1,HB.out.e2⟩) (h:=fun hS' HT HW => ?_)
  refine pu HT 0 36 1 (h := ?_)
  refine pu HT 1 37 3 (h := ?_)
  refine pu HT 2 38 7 (h := ?_)
  refine tk HT HW hS' 3 39 15 (h := ?_)
  refine pu HT 4 40 31 (h := ?_)
  refine tk HT HW hS' 5 41 63 (h := ?_)
  refine pu HT 6 42 127 (h := ?_)
  refine tk HT HW hS' 7 43 255 (h := ?_)
  refine ca HT 8 (some 44) 511 #[.slice A l.length c, .int .i64 e.f0, .int .i64 e.f1] Tryz.func125 (h:=fun K hK => ?_)
  refine (HFD.out _ HB.out.gs.drew.below).mono ?_
  rintro r w5 ⟨rfl,hb5⟩
  have hI5:=(HB.out.down (Qae (Below.refl _ _))).down hb5
  refine ⟨_,rfl, ?_⟩
  refine hK.out _ _ ⟨hI5.gs.c0,hI5.e0,hI5.e1,hI5.e2⟩ (fun hS' => ?_)
  have HI5:=Zz.k hI5
  clear hK hI5 hb5
  refine nm (h := ?_)
  refine pu HT 9 6 1023 (h := ?_)
  refine dn HT (h := ?_)
  clear HT HW hS'
  by_cases hf0 : 0 <= fi
  ·obtain ⟨j,rfl⟩ : ∃ j : Nat,fi = (j : Int):=⟨fi.toNat,by omega⟩
   have hjl : j < l.length:=by have:=HFB.out hf0; omega
   have hjz : (j : Int) < (l.length : Int):=by omega
   obtain ⟨ad,A7,c7,rfl,x0,x1,x2,x3,x4,x5,x6,x7,x8,x9,x10,l7,g7⟩:=Qcg HR.out (j : Int) hf0 hjz
   simp only [Int.toNat_natCast] at x0 x1 x2 x3 x4 x5 x6 x7 x8 x9 x10
   have HL7:=Zz.k l7
   have HG7:=Zz.k g7
   have HSM:=Zz.k (okRow_at HOK.out hjl).1
   have HSZ:=Zz.k (opOk_size (okRow_at HOK.out hjl).2)
   generalize ho : Qad l (j : Int) = o at x0 x1 x2 x3 x4 x5 x6 x7 x8 x9 x10 HL7 HG7 HSM HSZ HNX
   have HY:=Zz.k (fun (X : World) (hb : Below w0.heap.size w0 X) => (⟨Qab hb x0,Qab hb x1,Qab hb x2,Qab hb x3,Qab hb x4,Qab hb x5,Qab hb x6,Qab hb x7,Qab hb x8,Qab hb x9,Qab hb x10⟩ : X.cell? (ad.add (j * 11)) = some (.int .i64 o.f0) /\ X.cell? ⟨(ad.add (j * 11)).block,(ad.add (j * 11)).off + 1,none⟩ = some (.int .i64 o.f1) /\ X.cell? ⟨(ad.add (j * 11)).block,(ad.add (j * 11)).off + 2,none⟩ = some (.int .i64 o.f2) /\ X.cell? ⟨(ad.add (j * 11)).block,(ad.add (j * 11)).off + 3,none⟩ = some (.int .i64 o.f3.f0) /\ X.cell? ⟨(ad.add (j * 11)).block,(ad.add (j * 11)).off + 4,none⟩ = some (.int .i64 o.f3.f1) /\ X.cell? ⟨(ad.add (j * 11)).block,(ad.add (j * 11)).off + 5,none⟩ = some (.int .i64 o.f3.f2) /\ X.cell? ⟨(ad.add (j * 11)).block,(ad.add (j * 11)).off + 6,none⟩ = some (.string o.f4) /\ X.cell? ⟨(ad.add (j * 11)).block,(ad.add (j * 11)).off + 7,none⟩ = some (.slice A7 o.f5.length c7) /\ X.cell? ⟨(ad.add (j * 11)).block,(ad.add (j * 11)).off + 8,none⟩ = some (.int .i64 o.f6) /\ X.cell? ⟨(ad.add (j * 11)).block,(ad.add (j * 11)).off + 9,none⟩ = some (.int .i64 o.f7) /\ X.cell? ⟨(ad.add (j * 11)).block,(ad.add (j * 11)).off + 10,none⟩ = some (.int .i64 o.f8)))
   clear l7 g7 x0 x1 x2 x3 x4 x5 x6 x7 x8 x9 x10 ho
   by_cases hsz : wrap64 (e.f2 + 1) < (Qaj o : Int)
   ·have hnx:=HNX.out
    rw [if_pos ⟨hf0,hsz⟩] at hnx
    have HNY:=Zz.k hnx
    clear HNX hnx
    have hszd : decide (wrap64 (e.f2 + 1) < (Qaj o : Int)) = true:=Zd hsz
    go_wp2
    refine stR (S:=fun w' => w'.cell? ⟨G,0,none⟩ = some (.slice (some ad) l.length c) /\ w'.cell? ⟨w.heap.size,0,none⟩ = some (.int .i64 e.f0) /\ w'.cell? ⟨w.heap.size,1,none⟩ = some (.int .i64 e.f1) /\ w'.cell? ⟨w.heap.size,2,none⟩ = some (.int .i64 e.f2) /\ w'.cell? (ad.add (j * 11)) = some (.int .i64 o.f0) /\ w'.cell? ⟨(ad.add (j * 11)).block,(ad.add (j * 11)).off + 1,none⟩ = some (.int .i64 o.f1) /\ w'.cell? ⟨(ad.add (j * 11)).block,(ad.add (j * 11)).off + 2,none⟩ = some (.int .i64 o.f2) /\ w'.cell? ⟨(ad.add (j * 11)).block,(ad.add (j * 11)).off + 3,none⟩ = some (.int .i64 o.f3.f0) /\ w'.cell? ⟨(ad.add (j * 11)).block,(ad.add (j * 11)).off + 4,none⟩ = some (.int .i64 o.f3.f1) /\ w'.cell? ⟨(ad.add (j * 11)).block,(ad.add (j * 11)).off + 5,none⟩ = some (.int .i64 o.f3.f2) /\ w'.cell? ⟨(ad.add (j * 11)).block,(ad.add (j * 11)).off + 6,none⟩ = some (.string o.f4) /\ w'.cell? ⟨(ad.add (j * 11)).block,(ad.add (j * 11)).off + 7,none⟩ = some (.slice A7 o.f5.length c7) /\ w'.cell? ⟨(ad.add (j * 11)).block,(ad.add (j * 11)).off + 8,none⟩ = some (.int .i64 o.f6) /\ w'.cell? ⟨(ad.add (j * 11)).block,(ad.add (j * 11)).off + 9,none⟩ = some (.int .i64 o.f7) /\ w'.cell? ⟨(ad.add (j * 11)).block,(ad.add (j * 11)).off + 10,none⟩ = some (.int .i64 o.f8))
     16 t_tree_grower_below.bits5 t_tree_grower_below.tab5 (hS:=⟨HI5.out.gs.drew.c0,HI5.out.e0,HI5.out.e1,HI5.out.e2,HY.out _ HI5.out.gs.drew.below⟩) (h:=fun hS' HT HW => ?_)
    refine pu HT 0 45 1 (h := ?_)
    refine pu HT 1 46 3 (h := ?_)
    refine pu HT 2 47 7 (h := ?_)
    refine pu HT 3 48 15 (h := ?_)
    refine tk HT HW hS' 4 49 31 (h := ?_)
    refine pu HT 5 50 63 (h := ?_)
    refine pu HT 6 51 127 (h := ?_)
    refine pu HT 7 52 255 (h := ?_)
    refine pu HT 8 53 511 (h := ?_)
    refine tk HT HW hS' 9 54 1023 (h := ?_)
    refine pu HT 10 55 2047 (h := ?_)
    refine pu HT 11 56 4095 (h := ?_)
    refine tk HT HW hS' 12 57 8191 (h := ?_)
    refine ca HT 13 (some 58) 16383 #[.agg #[.int .i64 o.f0, .int .i64 o.f1, .int .i64 o.f2, .int .i64 o.f3.f0, .int .i64 o.f3.f1, .int .i64 o.f3.f2, .string o.f4, .slice A7 o.f5.length c7, .int .i64 o.f6, .int .i64 o.f7, .int .i64 o.f8]] Tryz.func106 (h:=fun K hK => ?_)
    refine (op_Size.calls o.f0 o.f1 o.f2 o.f3.f0 o.f3.f1 o.f3.f2 o.f4 A7 c7 o.f5 o.f6 o.f7 o.f8 (Qaj o : Int) _ (Kd.C_below HG7.out HI5.out.gs.drew.below) HL7.out (op_Size_f o HSM.out)).mono ?_
    rintro r w6 ⟨rfl,hb6⟩
    have hI6:=(HI5.out.down (Qae (Below.refl _ _))).down hb6
    refine ⟨_,rfl, ?_⟩
    refine hK.out _ _ ⟨hI6.gs.c0,hI6.e0,hI6.e1,hI6.e2,HY.out _ hI6.gs.below⟩ (fun hS' => ?_)
    have HI6:=Zz.k hI6
    clear hK hI6 hb6
    refine nm (h := ?_)
    refine pu HT 14 59 32767 (h := ?_)
    refine pu HT 15 60 65535 (h := ?_)
    refine dn HT (h := ?_)
    clear HT HW hS'
    go_wp2
    refine stL (S:=fun w' => w'.cell? ⟨G,0,none⟩ = some (.slice (some ad) l.length c) /\ w'.cell? ⟨w.heap.size,0,none⟩ = some (.int .i64 e.f0) /\ w'.cell? ⟨w.heap.size,1,none⟩ = some (.int .i64 e.f1) /\ w'.cell? ⟨w.heap.size,2,none⟩ = some (.int .i64 e.f2) /\ w'.cell? (ad.add (j * 11)) = some (.int .i64 o.f0) /\ w'.cell? ⟨(ad.add (j * 11)).block,(ad.add (j * 11)).off + 1,none⟩ = some (.int .i64 o.f1) /\ w'.cell? ⟨(ad.add (j * 11)).block,(ad.add (j * 11)).off + 2,none⟩ = some (.int .i64 o.f2) /\ w'.cell? ⟨(ad.add (j * 11)).block,(ad.add (j * 11)).off + 3,none⟩ = some (.int .i64 o.f3.f0) /\ w'.cell? ⟨(ad.add (j * 11)).block,(ad.add (j * 11)).off + 4,none⟩ = some (.int .i64 o.f3.f1) /\ w'.cell? ⟨(ad.add (j * 11)).block,(ad.add (j * 11)).off + 5,none⟩ = some (.int .i64 o.f3.f2) /\ w'.cell? ⟨(ad.add (j * 11)).block,(ad.add (j * 11)).off + 6,none⟩ = some (.string o.f4) /\ w'.cell? ⟨(ad.add (j * 11)).block,(ad.add (j * 11)).off + 7,none⟩ = some (.slice A7 o.f5.length c7) /\ w'.cell? ⟨(ad.add (j * 11)).block,(ad.add (j * 11)).off + 8,none⟩ = some (.int .i64 o.f6) /\ w'.cell? ⟨(ad.add (j * 11)).block,(ad.add (j * 11)).off + 9,none⟩ = some (.int .i64 o.f7) /\ w'.cell? ⟨(ad.add (j * 11)).block,(ad.add (j * 11)).off + 10,none⟩ = some (.int .i64 o.f8))
     [13] 15 t_tree_grower_below.bits6 t_tree_grower_below.tab6 (hS:=⟨HI6.out.gs.drew.c0,HI6.out.e0,HI6.out.e1,HI6.out.e2,HY.out _ HI6.out.gs.drew.below⟩) (h:=fun hS' HT HW => ?_)
    refine pu HT 0 61 1 (h := ?_)
    refine pu HT 1 62 3 (h := ?_)
    refine pu HT 2 63 7 (h := ?_)
    refine pu HT 3 64 15 (h := ?_)
    refine tk HT HW hS' 4 65 31 (h := ?_)
    refine pu HT 5 66 63 (h := ?_)
    refine pu HT 6 67 127 (h := ?_)
    refine tk HT HW hS' 7 68 255 (h := ?_)
    refine pu HT 8 69 511 (h := ?_)
    refine tk HT HW hS' 9 70 1023 (h := ?_)
    refine pu HT 10 71 2047 (h := ?_)
    refine ca HT 11 (some 72) 4095 #[.agg #[.int .i64 o.f0, .int .i64 o.f1, .int .i64 o.f2, .int .i64 o.f3.f0, .int .i64 o.f3.f1, .int .i64 o.f3.f2, .string o.f4, .slice A7 o.f5.length c7, .int .i64 o.f6, .int .i64 o.f7, .int .i64 o.f8], .int .i64 (wrap64 (e.f2 + 1))] Tryz.func109 (h:=fun K hK => ?_)
    refine (op_At.calls o.f0 o.f1 o.f2 o.f3.f0 o.f3.f1 o.f3.f2 o.f4 A7 c7 o.f5 o.f6 o.f7 o.f8 (wrap64 (e.f2 + 1)) o.f0 o.f1 (wrap64 (e.f2 + 1)) _ (Kd.C_below HG7.out HI6.out.gs.drew.below) HL7.out rfl).mono ?_
    rintro r w9 ⟨rfl,hb9⟩
    have hI9:=(HI6.out.down (Qae (Below.refl _ _))).down hb9
    refine ⟨_,rfl, ?_⟩
    refine hK.out _ _ ⟨hI9.gs.c0,hI9.e0,hI9.e1,hI9.e2,HY.out _ hI9.gs.below⟩ (fun hS' => ?_)
    have HI9:=Zz.k hI9
    clear hK hI9 hb9
    refine nm (h := ?_)
    refine exS HT 12 (some 73) 8191 (.slice (some ⟨w9.heap.size,0,none⟩) 1 1) (w9.alloc (.cells [.int .i64 o.f0, .int .i64 o.f1, .int .i64 (wrap64 (e.f2 + 1))].toArray 32)) (hrun := ?_) (hS := ?_) (h:=fun hS' => ?_)
    ·clear HT HW hS'
     go_simp
    ·have hb:=Qag (Below.refl _ w9) (.cells [.int .i64 o.f0, .int .i64 o.f1, .int .i64 (wrap64 (e.f2 + 1))].toArray 32)
     have hJ:=HI9.out.down hb
     exact ⟨hJ.gs.c0,hJ.e0,hJ.e1,hJ.e2,HY.out _ hJ.gs.below⟩
    refine nm (h := ?_)
    have hxl : xs.length < 900000:=by
     rw [HXS.out,List.length_map]
     have:=HUL.out
     omega
    refine apL HT 13 74 16383 w.heap.size w9 info32 Tryz.underlying23 _ xs.length (flatE xs) [.int .i64 o.f0, .int .i64 o.f1, .int .i64 (wrap64 (e.f2 + 1))] HI9.out.row HI9.out.fr.size (by omega) rfl (by simp [Value.oneCell']) (h:=fun v1 w10 hown hg hat => ?_)
    have HI10:=Zz.k (HI9.out.app (x:=⟨o.f0,o.f1,wrap64 (e.f2 + 1)⟩) HG.out hown hg hat)
    clear hown hg hat hS'
    refine nm (h := ?_)
    refine pu HT 14 4 32767 (h := ?_)
    refine dn HT (h := ?_)
    clear HT HW
    go_wp2
    go_ret
    rw [HNY.out]
    exact ⟨_,V',rfl,HI10.out.row,HI10.out.gs,HI10.out.fr,HI10.out.feet⟩
   ·have hnx:=HNX.out
    rw [if_neg (fun h => hsz h.2),List.append_nil] at hnx
    have HNY:=Zz.k hnx
    clear HNX hnx
    have hszd : decide (wrap64 (e.f2 + 1) < (Qaj o : Int)) = false:=Ze hsz
    go_wp2
    refine stR (S:=fun w' => w'.cell? ⟨G,0,none⟩ = some (.slice (some ad) l.length c) /\ w'.cell? ⟨w.heap.size,0,none⟩ = some (.int .i64 e.f0) /\ w'.cell? ⟨w.heap.size,1,none⟩ = some (.int .i64 e.f1) /\ w'.cell? ⟨w.heap.size,2,none⟩ = some (.int .i64 e.f2) /\ w'.cell? (ad.add (j * 11)) = some (.int .i64 o.f0) /\ w'.cell? ⟨(ad.add (j * 11)).block,(ad.add (j * 11)).off + 1,none⟩ = some (.int .i64 o.f1) /\ w'.cell? ⟨(ad.add (j * 11)).block,(ad.add (j * 11)).off + 2,none⟩ = some (.int .i64 o.f2) /\ w'.cell? ⟨(ad.add (j * 11)).block,(ad.add (j * 11)).off + 3,none⟩ = some (.int .i64 o.f3.f0) /\ w'.cell? ⟨(ad.add (j * 11)).block,(ad.add (j * 11)).off + 4,none⟩ = some (.int .i64 o.f3.f1) /\ w'.cell? ⟨(ad.add (j * 11)).block,(ad.add (j * 11)).off + 5,none⟩ = some (.int .i64 o.f3.f2) /\ w'.cell? ⟨(ad.add (j * 11)).block,(ad.add (j * 11)).off + 6,none⟩ = some (.string o.f4) /\ w'.cell? ⟨(ad.add (j * 11)).block,(ad.add (j * 11)).off + 7,none⟩ = some (.slice A7 o.f5.length c7) /\ w'.cell? ⟨(ad.add (j * 11)).block,(ad.add (j * 11)).off + 8,none⟩ = some (.int .i64 o.f6) /\ w'.cell? ⟨(ad.add (j * 11)).block,(ad.add (j * 11)).off + 9,none⟩ = some (.int .i64 o.f7) /\ w'.cell? ⟨(ad.add (j * 11)).block,(ad.add (j * 11)).off + 10,none⟩ = some (.int .i64 o.f8))
     16 t_tree_grower_below.bits5 t_tree_grower_below.tab5 (hS:=⟨HI5.out.gs.drew.c0,HI5.out.e0,HI5.out.e1,HI5.out.e2,HY.out _ HI5.out.gs.drew.below⟩) (h:=fun hS' HT HW => ?_)
    refine pu HT 0 45 1 (h := ?_)
    refine pu HT 1 46 3 (h := ?_)
    refine pu HT 2 47 7 (h := ?_)
    refine pu HT 3 48 15 (h := ?_)
    refine tk HT HW hS' 4 49 31 (h := ?_)
    refine pu HT 5 50 63 (h := ?_)
    refine pu HT 6 51 127 (h := ?_)
    refine pu HT 7 52 255 (h := ?_)
    refine pu HT 8 53 511 (h := ?_)
    refine tk HT HW hS' 9 54 1023 (h := ?_)
    refine pu HT 10 55 2047 (h := ?_)
    refine pu HT 11 56 4095 (h := ?_)
    refine tk HT HW hS' 12 57 8191 (h := ?_)
    refine ca HT 13 (some 58) 16383 #[.agg #[.int .i64 o.f0, .int .i64 o.f1, .int .i64 o.f2, .int .i64 o.f3.f0, .int .i64 o.f3.f1, .int .i64 o.f3.f2, .string o.f4, .slice A7 o.f5.length c7, .int .i64 o.f6, .int .i64 o.f7, .int .i64 o.f8]] Tryz.func106 (h:=fun K hK => ?_)
    refine (op_Size.calls o.f0 o.f1 o.f2 o.f3.f0 o.f3.f1 o.f3.f2 o.f4 A7 c7 o.f5 o.f6 o.f7 o.f8 (Qaj o : Int) _ (Kd.C_below HG7.out HI5.out.gs.drew.below) HL7.out (op_Size_f o HSM.out)).mono ?_
    rintro r w6 ⟨rfl,hb6⟩
    have hI6:=(HI5.out.down (Qae (Below.refl _ _))).down hb6
    refine ⟨_,rfl, ?_⟩
    refine hK.out _ _ ⟨hI6.gs.c0,hI6.e0,hI6.e1,hI6.e2,HY.out _ hI6.gs.below⟩ (fun hS' => ?_)
    have HI6:=Zz.k hI6
    clear hK hI6 hb6
    refine nm (h := ?_)
    refine pu HT 14 59 32767 (h := ?_)
    refine pu HT 15 60 65535 (h := ?_)
    refine dn HT (h := ?_)
    clear HT HW hS'
    go_wp2
    go_ret
    rw [HNY.out]
    exact ⟨_,V',rfl,HI6.out.row,HI6.out.gs,HI6.out.fr,HI6.out.feet⟩
  ·have hnx:=HNX.out
   rw [if_neg (fun h => hf0 h.1),List.append_nil] at hnx
   have HNY:=Zz.k hnx
   clear HNX hnx
   have hfd0 : decide (0 <= fi) = false:=Ze hf0
   go_wp2
   refine stR (S:=fun w' => True) 16 t_tree_grower_below.bits5 t_tree_grower_below.tab5 (hS:=trivial) (h:=fun hS' HT HW => ?_)
   refine pu HT 0 45 1 (h := ?_)
   refine pu HT 1 46 3 (h := ?_)
   refine pu HT 2 47 7 (h := ?_)
   refine off HT 3 48 15 (h := ?_)
   refine off HT 4 49 31 (h := ?_)
   refine off HT 5 50 63 (h := ?_)
   refine off HT 6 51 127 (h := ?_)
   refine off HT 7 52 255 (h := ?_)
   refine off HT 8 53 511 (h := ?_)
   refine off HT 9 54 1023 (h := ?_)
   refine off HT 10 55 2047 (h := ?_)
   refine off HT 11 56 4095 (h := ?_)
   refine off HT 12 57 8191 (h := ?_)
   refine off HT 13 58 16383 (h := ?_)
   refine off HT 14 59 32767 (h := ?_)
   refine pu HT 15 60 65535 (h := ?_)
   refine dn HT (h := ?_)
   clear HT HW hS'
   go_wp2
   go_ret
   rw [HNY.out]
   have hJ:=HI5.out.down (Qae (Below.refl _ w5))
   exact ⟨_,V',rfl,hJ.row,hJ.gs,hJ.fr,hJ.feet⟩
end
section
theorem flatE_at : ∀ (xs : List SElem) (i : Nat) (h : i < xs.length),(flatE xs)[i * 3]? = some (.int .i64 xs[i].f0) /\ (flatE xs)[i * 3 + 1]? = some (.int .i64 xs[i].f1) /\ (flatE xs)[i * 3 + 2]? = some (.int .i64 xs[i].f2)
 | x :: xs,0,_ => by simp [flatE]
 | x :: xs,i + 1,h => by
  have:=flatE_at xs i (by simpa using h)
  have e : flatE (x :: xs) = [.int .i64 x.f0, .int .i64 x.f1, .int .i64 x.f2] ++ flatE xs:=by simp [flatE]
  rw [e]
  refine ⟨?_, ?_, ?_⟩
  ·rw [List.getElem?_append_right (by simp; omega)]
   simp only [List.length_cons,List.length_nil]
   rw [show (i + 1) * 3 - (0 + 1 + 1 + 1) = i * 3 by omega]; simpa using this.1
  ·rw [List.getElem?_append_right (by simp; omega)]
   simp only [List.length_cons,List.length_nil]
   rw [show (i + 1) * 3 + 1 - (0 + 1 + 1 + 1) = i * 3 + 1 by omega]; simpa using this.2.1
  ·rw [List.getElem?_append_right (by simp; omega)]
   simp only [List.length_cons,List.length_nil]
   rw [show (i + 1) * 3 + 2 - (0 + 1 + 1 + 1) = i * 3 + 2 by omega]; simpa using this.2.2
theorem RowE.form {w : World} {base : Nat} {v : Value} {xs : List SElem} (h : RowE w base v xs) : ∃ A c,v = .slice A xs.length c /\ xs.length <= c:=by
 rcases h.2 with ⟨h1,h2⟩ | ⟨g,c,cur,h1,_,_,h3,_⟩
 ·exact ⟨none,0,by rw [h2]; exact h1,by omega⟩
 ·exact ⟨_,c,h1,h3⟩
theorem RowE.at {w : World} {base : Nat} {A : Option Addr} {n c : Nat} {xs : List SElem} (h : RowE w base (.slice A n c) xs) (i : Nat) (hi : i < xs.length) : ∃ g,A = some ⟨g,0,none⟩ /\ w.cell? ⟨g,i * 3,none⟩ = some (.int .i64 xs[i].f0) /\ w.cell? ⟨g,i * 3 + 1,none⟩ = some (.int .i64 xs[i].f1) /\ w.cell? ⟨g,i * 3 + 2,none⟩ = some (.int .i64 xs[i].f2):=by
 rcases h.2 with ⟨h1,h2⟩ | ⟨g,c',cur,h1,_⟩
 ·omega
 ·injection h1 with e1 e2 e3
  subst e1
  have hc:=h.cells (g:=g) rfl
  obtain ⟨a0,a1,a2⟩:=flatE_at xs i hi
  have h0:=hc _ _ a0; have h1:=hc _ _ a1; have h2:=hc _ _ a2
  rw [Qcy] at h0 h1 h2
  exact ⟨g,rfl,h0,h1,h2⟩
def walkF (l : List SOp) : Nat -> (K3 -> List Int) -> List SElem -> SElem -> Option ((K3 -> List Int) × List SElem)
 | 0 => fun _ _ _ => none
 | k + 1 => fun U all e => (belowL l (U (key3 e)) e).foldlM (fun s x => if s.2.length < 900000 then walkF l k s.1 (s.2 ++ [x]) x else none) (updU U (key3 e) [],all)
def stepF (l : List SOp) (k : Nat) (s : (K3 -> List Int) × List SElem) (x : SElem) : Option ((K3 -> List Int) × List SElem):=if s.2.length < 900000 then walkF l k s.1 (s.2 ++ [x]) x else none
theorem walkF_succ (l : List SOp) (k : Nat) (U : K3 -> List Int) (all : List SElem) (e : SElem) : walkF l (k + 1) U all e = (belowL l (U (key3 e)) e).foldlM (stepF l k) (updU U (key3 e) [],all):=rfl
def Falling (l : List SOp) (U : K3 -> List Int) : Prop:=∀ x,Falls l (U x) /\ (U x).length <= 40
theorem Falling.upd {l : List SOp} {U : K3 -> List Int} (h : Falling l U) (x : K3) : Falling l (updU U x []):=by
 intro y
 unfold updU
 split
 ·exact ⟨⟨List.Pairwise.nil,fun k hk => by simp at hk⟩,by simp⟩
 ·exact h y
def inE (e : SElem) : Prop:=inI e.f0 /\ inI e.f1 /\ inI e.f2
theorem wrap_in (a : Int) : inI (wrap64 a):=by unfold inI wrap64; omega
theorem foldlM_inv {σ α : Type} (f : σ -> α -> Option σ) (P : σ -> Prop) (hf : ∀ s x s',P s -> f s x = some s' -> P s') : ∀ (xs : List α) (s s' : σ),P s -> xs.foldlM f s = some s' -> P s'
 | [],s,s',h,e => by simp at e; subst e; exact h
 | x :: xs,s,s',h,e => by
  rw [List.foldlM_cons] at e
  obtain ⟨s1,h1,h2⟩:=Option.bind_eq_some_iff.1 e
  exact foldlM_inv f P hf xs s1 s' (hf s x s1 h h1) h2
theorem walkF_falling (l : List SOp) : ∀ (k : Nat) (U : K3 -> List Int) (all : List SElem) (e : SElem) (r : (K3 -> List Int) × List SElem),Falling l U -> walkF l k U all e = some r -> Falling l r.1
 | 0,U,all,e,r,h,hw => by cases hw
 | k + 1,U,all,e,r,h,hw => by
  rw [walkF_succ] at hw
  refine foldlM_inv (stepF l k) (fun s => Falling l s.1) (fun s x s' hs hx => ?_) _ _ _ (h.upd (key3 e)) hw
  unfold stepF at hx
  split at hx
  ·exact walkF_falling l k _ _ _ _ hs hx
  ·cases hx
theorem belowL_in {l : List SOp} {us : List Int} {e : SElem} (hok : okRow l = true) (hf : Falls l us) : ∀ x ∈ belowL l us e,inE x:=by
 intro x hx
 unfold belowL at hx
 rcases List.mem_append.1 hx with hx | hx
 ·obtain ⟨i,hi,rfl⟩:=List.mem_map.1 hx
  obtain ⟨h0,h1⟩:=hf.2 i hi
  have h2:=opOk_name (okRow_at hok (i:=i.toNat) (by omega)).2
  rw [show ((i.toNat : Nat) : Int) = i by omega] at h2
  exact ⟨h2.1,h2.2,by unfold inI; simp [atE]⟩
 ·unfold nextL at hx
  split at hx
  ·rename_i hc
   have h1:=findOp_range l e.f0 e.f1 hc.1
   have h2:=opOk_name (okRow_at hok (i:=(Qbf l e.f0 e.f1).toNat) (by omega)).2
   rw [show (((Qbf l e.f0 e.f1).toNat : Nat) : Int) = Qbf l e.f0 e.f1 by omega] at h2
   simp only [List.mem_singleton] at hx
   subst hx
   exact ⟨h2.1,h2.2,wrap_in _⟩
  ·simp at hx
theorem belowL_len (l : List SOp) (us : List Int) (e : SElem) : (belowL l us e).length <= us.length + 1:=by
 unfold belowL nextL
 rw [List.length_append,List.length_map]
 split <;> simp
structure AllAt (w0 w : World) (G bU : Nat) (S : K3 -> Option Nat) (V : K3 -> Value) (vA : Value) (all : List SElem) : Prop where
 cell : w.cell? ⟨G,2,none⟩ = some vA
 fz : w.frozen? ⟨G,2,none⟩ = false
 row : RowE w w0.heap.size vA all
 ne : ∀ k,vA.ownBlock = some k -> k ≠ G /\ k ≠ bU /\ ∀ x,¬ Foot S V x k
section
variable {w0 w wr w' : World} {A : Option Addr} {c : Nat} {l : List SOp} {G bU n : Nat} {S : K3 -> Option Nat} {V V' : K3 -> Value} {U U' : K3 -> List Int} {vA : Value} {all : List SElem}
theorem AllAt.fr {T : Nat -> Prop} (h : AllAt w0 w G bU S V vA all) (hf : Fr w w' T) (hG : ¬ T G) (hT : ∀ k,vA.ownBlock = some k -> ¬ T k) (hfe : ∀ x k,Foot S V' x k -> Foot S V x k) : AllAt w0 w' G bU S V' vA all :=
 ⟨hf.cell hG h.cell,(hf.frozen (World.block_lt_of_cell? w _ h.cell) hG).trans h.fz,hf.row h.row hT,fun k hk => ⟨(h.ne k hk).1,(h.ne k hk).2.1,fun x hx => (h.ne k hk).2.2 x (hfe x k hx)⟩⟩
theorem AllAt.down (h : AllAt w0 w G bU S V vA all) (hb : Below w.heap.size w w') : AllAt w0 w' G bU S V vA all:=h.fr (Fr.of_below hb (fun _ => False)) (fun h => h) (fun _ _ h => h) (fun _ _ h => h)
theorem AllAt.app {x : SElem} {v1 : Value} {w2 : World} (hA : AllAt w0 w G bU S V vA all) (hG : Gs w0 w A c l G bU n S V U) (hrow : w2.ownsRow w0.heap.size 32 3 v1 (all.length + 1) (flatE all ++ [.int .i64 x.f0, .int .i64 x.f1, .int .i64 x.f2])) (hg : w.grownBy w2 vA.ownBlock) (hat : v1.ownBlock = vA.ownBlock \/ ∃ b,v1.ownBlock = some b /\ w.heap.size <= b) :
  Gs w0 (w2.setCell ⟨G,2,none⟩ v1) A c l G bU n S V U /\ AllAt w0 (w2.setCell ⟨G,2,none⟩ v1) G bU S V v1 (all ++ [x]) /\ Fr w (w2.setCell ⟨G,2,none⟩ v1) (fun k => k = G \/ vA.ownBlock = some k):=by
 have hGl : G < w.heap.size:=World.block_lt_of_cell? w _ hA.cell
 have hbl : bU < w.heap.size:=hG.forest.map.lt
 have f1 : Fr w w2 (fun k => vA.ownBlock = some k):=Fr.of_grown hg
 have hnG : ¬ vA.ownBlock = some G:=fun e => (hA.ne G e).1 rfl
 have c2:=f1.cell hnG hA.cell
 have z2:=(f1.frozen (a:=⟨G,2,none⟩) hGl hnG).trans hA.fz
 have f2 : Fr w2 (w2.setCell ⟨G,2,none⟩ v1) (fun k => k = G):=(Fr.of_grown (Qcl w2 G 2 v1)).mono (fun k hk _ => (Zo hk).symm)
 have f3 : Fr w (w2.setCell ⟨G,2,none⟩ v1) (fun k => k = G \/ vA.ownBlock = some k):=(f1.mono (fun k hk _ => .inr hk)).trans f2 (fun k hk _ => .inl hk)
 have hlt:=fun k hk => World.ownsRow.lt hA.row k hk
 have hT : ∀ k,(k = G \/ vA.ownBlock = some k) -> w0.heap.size <= k /\ k ≠ bU /\ ∀ x,¬ Foot S V x k:=by
  rintro k (rfl | hk)
  ·exact ⟨hG.G_,hG.GbU,fun x hx => hG.far x _ hx rfl⟩
  ·exact ⟨(hlt k hk).1,(hA.ne k hk).2.1,(hA.ne k hk).2.2⟩
 have hne1 : ∀ k,v1.ownBlock = some k -> k ≠ G /\ k ≠ bU /\ ∀ x,¬ Foot S V x k:=by
  intro k hk
  rcases hat with hat | ⟨b,hb,hle⟩
  ·rw [hat] at hk; exact hA.ne k hk
  ·rw [hb] at hk; cases hk
   exact ⟨by omega,by omega,fun x hx => by have:=(hG.forest.rows x _ hx).2.1; omega⟩
 have hc0 : ∀ (j : Nat) (u : Value),j ≠ 2 -> w.cell? ⟨G,j,none⟩ = some u -> (w2.setCell ⟨G,2,none⟩ v1).cell? ⟨G,j,none⟩ = some u:=fun j u hj hc =>
  (World.cell?_setCell_other w2 ⟨G,2,none⟩ ⟨G,j,none⟩ v1 (fun e => by injection e with _ e2; exact hj e2.symm)).trans (f1.cell hnG hc)
 refine ⟨⟨hG.forest.fr f3 (fun hk => (hT _ hk).2.1 rfl) (fun x k hx hk => (hT k hk).2.2 x hx),hG.below.trans (f3.below (fun k hk => (hT k hk).1) hG.below.size),hG.G_,hG.GbU,hG.far,hc0 0 _ (by omega) hG.c0,hc0 1 _ (by omega) hG.c1⟩,⟨World.cell?_setCell_same w2 _ _ c2,by rw [World.frozen?_setCell]; exact z2, ?_,hne1⟩,f3⟩
 exact f2.row (RowE.snoc hrow) (fun k hk e => (hne1 k hk).1 e)
end
def AnyF (S : K3 -> Option Nat) (V : K3 -> Value) (k : Nat) : Prop:=∃ x,Foot S V x k
def SubF (S : K3 -> Option Nat) (V' V : K3 -> Value) : Prop:=∀ x k,Foot S V' x k -> Foot S V x k
theorem walk_calls (w0 : World) (A : Option Addr) (c : Nat) (l : List SOp) (G bU n : Nat) (S : K3 -> Option Nat) (hr : Kd.C kOp w0 A l.length l) (hc : l.length <= c) (hok : okRow l = true) :
  ∀ (k : Nat) (U : K3 -> List Int) (all : List SElem) (e : SElem) (U2 : K3 -> List Int) (all2 : List SElem) (w : World) (V : K3 -> Value) (vA : Value),walkF l k U all e = some (U2,all2) -> Gs w0 w A c l G bU n S V U -> AllAt w0 w G bU S V vA all -> Falling l U -> inE e ->
  Calls Tryz.prog 112 #[.pointer (some ⟨G,0,none⟩),elV e] w fun r w' => r = .returned (.tuple #[]) /\ ∃ V2 vA2,Gs w0 w' A c l G bU n S V2 U2 /\ AllAt w0 w' G bU S V2 vA2 all2 /\ Fr w w' (fun k => k = G \/ AnyF S V k \/ vA.ownBlock = some k) /\ (vA2.ownBlock = vA.ownBlock \/ ∃ b,vA2.ownBlock = some b /\ w.heap.size <= b) /\ SubF S V2 V:=by
 intro k
 induction k with
 | zero => intro U all e U2 all2 w V vA hw; cases hw
 | succ k ih =>
  intro U all e U2 all2 w V vA hw hG hA hF hE
  rw [walkF_succ] at hw
  have HW:=Zz.k hw
  have HIH:=Zz.k ih
  have HG:=Zz.k hG
  have HA:=Zz.k hA
  have HF:=Zz.k hF
  have hbw:=fun (X : World) (hX : Below w.heap.size w X) => below_calls w0 X A c l G bU n S V U e (hG.down hX) hr hc hok (hF (key3 e)).1 (keyE hE.1 hE.2.1 hE.2.2) (by have:=(hF (key3 e)).2; omega)
  have HBW:=Zz.k hbw
  have HIN:=Zz.k (belowL_in (e:=e) hok (hF (key3 e)).1)
  have hbl:=Nat.le_trans (belowL_len l (U (key3 e)) e) (Nat.succ_le_succ (hF (key3 e)).2)
  clear hw ih hG hA hF hbw hE hr hc hok
  generalize hbs : belowL l (U (key3 e)) e = bs at HW HBW HIN hbl
  clear hbs
  unfold elV at HBW ⊢
  go_enter Tryz.func112,Tryz.ntmps112
  go_wp2_with fail
  have hbb:=HBW.out _ (Qag (Below.refl w.heap.size w) (.cells #[.int .i64 e.f0, .int .i64 e.f1, .int .i64 e.f2] 32))
  refine hbb.mono ?_
  rintro r w1 ⟨v,V1,rfl,hrow,hG1,hf1,hfe1⟩
  obtain ⟨A1,c1,rfl,hlc⟩:=hrow.form
  have hA1 : AllAt w0 w1 G bU S V1 vA all:=(HA.out.down (Qag (Below.refl w.heap.size w) _)).fr hf1 (fun hk => HG.out.far _ _ hk rfl) (fun k hk hk2 => (HA.out.ne k hk).2.2 _ hk2) hfe1
  have hlb : w.heap.size < (w.alloc (.cells #[.int .i64 e.f0, .int .i64 e.f1, .int .i64 e.f2] 32)).heap.size:=by simp
  have hf1' : Fr w w1 (fun k => k = G \/ AnyF S V k \/ vA.ownBlock = some k):=(Fr.of_below (Qag (Below.refl w.heap.size w) _) _).trans hf1 (fun k hk _ => .inr (.inl ⟨_,hk⟩))
  have hrb : ∀ k,(Value.slice A1 bs.length c1).ownBlock = some k -> w.heap.size <= k /\ k < w1.heap.size:=fun k hk => by
   have:=World.ownsRow.lt hrow k hk
   omega
  have HRB:=Zz.k hrb
  have HF1:=Zz.k hf1'
  have HR1:=Zz.k hrow
  have HG1:=Zz.k hG1
  have HA1:=Zz.k hA1
  have HFE:=Zz.k hfe1
  have hcl:=World.block_lt_of_cell? w _ HA.out.cell
  clear hrow hG1 hf1 hfe1 hA1 hlb hf1' hrb hbb HBW
  go_wp2
  go_loopg [10] (bs.length + 1) (fun gg s10 wr => ∃ (i : Nat) (Ui : K3 -> List Int) (al : List SElem) (Vi : K3 -> Value) (vi : Value),s10 = .int .i64 i /\ i <= bs.length /\ bs.length < gg + i /\ Zz ((bs.drop i).foldlM (stepF l k) (Ui,al) = some (U2,all2)) /\ Zz (Gs w0 wr A c l G bU n S Vi Ui) /\ Zz (AllAt w0 wr G bU S Vi vi al) /\ Zz (Falling l Ui) /\ Zz (Fr w wr (fun k => k = G \/ AnyF S V k \/ vA.ownBlock = some k)) /\ Zz (vi.ownBlock = vA.ownBlock \/ ∃ b,vi.ownBlock = some b /\ w.heap.size <= b) /\ Zz (SubF S Vi V) /\ Zz (RowE wr w.heap.size (.slice A1 bs.length c1) bs /\ ∀ k,(Value.slice A1 bs.length c1).ownBlock = some k -> vi.ownBlock ≠ some k))
  case atStart =>
   refine ⟨0,updU U (key3 e) [],all,V1,vA,rfl,Nat.zero_le _,by omega,HW,HG1,HA1,⟨HF.out.upd _⟩,HF1,⟨.inl rfl⟩,HFE,⟨?_,fun k hk hk2 => ?_⟩⟩
   ·refine ⟨HR1.out.1,HR1.out.2.imp id (fun ⟨g,c',cur,h1,h2,h3⟩ => ⟨g,c',cur,h1,(HRB.out g (by rw [h1]; rfl)).1,h3⟩)⟩
   ·have h1:=(HRB.out k hk).1
    have h2:=(World.ownsRow.lt HA.out.row k hk2).2
    omega
  case round =>
   obtain ⟨i,Ui,al,Vi,vi,rfl,hi,hgg,HFO,HGi,HAi,HFi,HFr,HVi,HFei,HRi⟩:=hrel
   by_cases hlt : i < bs.length
   ·have hltz : (i : Int) < (bs.length : Int):=by omega
    have h0z : (0 : Int) <= (i : Int):=by omega
    obtain ⟨g1,rfl,x0,x1,x2⟩:=HRi.out.1.at i hlt
    have hfo:=HFO.out
    rw [List.drop_eq_getElem_cons hlt,List.foldlM_cons] at hfo
    have hinx:=HIN.out _ (List.getElem_mem hlt)
    generalize hx : bs[i] = x at x0 x1 x2 hfo hinx
    clear hx
    obtain ⟨⟨U3,al3⟩,hst,hfo⟩:=Option.bind_eq_some_iff.1 hfo
    unfold stepF at hst
    have hal : al.length < 900000:=by
     by_cases h : al.length < 900000
     ·exact h
     ·rw [if_neg h] at hst; cases hst
    rw [if_pos hal] at hst
    have HST:=Zz.k hst
    have HFO2:=Zz.k hfo
    have HINX:=Zz.k hinx
    clear hfo hst hinx
    go_upto_region 4 with (fail)
    refine one_box (Q:=Code.wp _ _ _ _) wr _ _ (fun w2 g2 gB gS => ?_)
    have o0:=g2 0; have o1:=g2 1; have o2:=g2 2
    simp only [List.getElem?_toArray,List.getElem?_cons_zero,List.getElem?_cons_succ] at o0 o1 o2
    have hG2:=HGi.out.down gB
    have hA2:=HAi.out.down gB
    have d2:=hA2.cell
    have HG2:=Zz.k hG2
    have HA2:=Zz.k hA2
    have HB2:=Zz.k gB
    have lwr : w.heap.size <= wr.heap.size:=HFr.out.size
    clear g2 gB hG2 hA2 x0 x1 x2
    refine stL (S:=fun w' => w'.cell? ⟨G,2,none⟩ = some vi /\ w'.cell? ⟨wr.heap.size,0,none⟩ = some (.int .i64 x.f0) /\ w'.cell? ⟨wr.heap.size,1,none⟩ = some (.int .i64 x.f1) /\ w'.cell? ⟨wr.heap.size,2,none⟩ = some (.int .i64 x.f2))
     [7,10] 11 t_tree_grower_walk.bits4 t_tree_grower_walk.tab4 (hS:=⟨d2,o0,o1,o2⟩) (h:=fun hS' HT HW => ?_)
    refine pu HT 0 14 1 (h := ?_)
    refine pu HT 1 15 3 (h := ?_)
    refine pu HT 2 16 7 (h := ?_)
    refine pu HT 3 17 15 (h := ?_)
    refine tk HT HW hS' 4 18 31 (h := ?_)
    refine tk HT HW hS' 5 19 63 (h := ?_)
    refine exS HT 6 (some 20) 127 (.slice (some ⟨w2.drew.heap.size,0,none⟩) 1 1) (w2.drew.alloc (.cells [.int .i64 x.f0, .int .i64 x.f1, .int .i64 x.f2].toArray 32)) (hrun := ?_) (hS := ?_) (h:=fun hS' => ?_)
    ·clear HT HW hS'
     go_simp
    ·have hb:=Qag (Below.refl _ w2.drew) (.cells [.int .i64 x.f0, .int .i64 x.f1, .int .i64 x.f2].toArray 32)
     exact ⟨Qab hb hS'.1,Qab hb hS'.2.1,Qab hb hS'.2.2.1,Qab hb hS'.2.2.2⟩
    refine nm (h := ?_)
    have hbse : w0.heap.size <= w2.drew.heap.size:=HG2.out.below.size
    refine apL HT 7 21 255 w0.heap.size w2.drew info32 Tryz.underlying23 vi al.length (flatE al) [.int .i64 x.f0, .int .i64 x.f1, .int .i64 x.f2] (show w2.drew.ownsRow _ _ _ _ _ _ from HA2.out.row) hbse (by omega) rfl (by simp [Value.oneCell']) (h:=fun v1 w4 hown hg hat => ?_)
    have hd2 : Below w2.heap.size w2 w2.drew:=Qae (Below.refl _ w2)
    have happ:=(HA2.out.down hd2).app (HG2.out.down hd2) hown hg hat
    obtain ⟨A4,c4,hv1⟩ : ∃ g c,v1 = .slice (some ⟨g,0,none⟩) (al.length + 1) c:=by
     rcases hown.2 with ⟨_,h0⟩ | ⟨g,c,_,h0,_⟩
     ·omega
     ·exact ⟨g,c,h0⟩
    subst hv1
    have hnG : ¬ vi.ownBlock = some G:=fun e => (HA2.out.ne G e).1 rfl
    have hc4:=(Fr.of_grown hg).cell (a:=⟨G,2,none⟩) hnG (show w2.drew.cell? ⟨G,2,none⟩ = some vi from d2)
    have hz4 : w4.frozen? ⟨G,2,none⟩ = false:=((Fr.of_grown hg).frozen (a:=⟨G,2,none⟩) (World.block_lt_of_cell? w2 _ d2) hnG).trans HA2.out.fz
    have hwb : ¬ vi.ownBlock = some wr.heap.size:=fun e => by have:=(World.ownsRow.lt HAi.out.row _ e).2; omega
    have q0:=(Fr.of_grown hg).cell (a:=⟨wr.heap.size,0,none⟩) hwb (show w2.drew.cell? _ = _ from o0)
    have q1:=(Fr.of_grown hg).cell (a:=⟨wr.heap.size,1,none⟩) hwb (show w2.drew.cell? _ = _ from o1)
    have q2:=(Fr.of_grown hg).cell (a:=⟨wr.heap.size,2,none⟩) hwb (show w2.drew.cell? _ = _ from o2)
    have HAPP:=Zz.k happ
    have HAT:=Zz.k hat
    clear hown hg hat hS' happ o0 o1 o2 d2
    refine nm (h := ?_)
    refine pu HT 8 22 511 (h := ?_)
    refine pu HT 9 23 1023 (h := ?_)
    refine skL HT 10 2047 (w4.setCell ⟨G,2,none⟩ (.slice (some ⟨A4,0,none⟩) (al.length + 1) c4)) (hrun := ?_) (h := ?_)
    ·clear HT HW
     go_simp
    refine dn HT (h := ?_)
    clear HT HW
    have hGwr : (⟨G,2,none⟩ : Addr).block ≠ wr.heap.size:=by
     have:=World.block_lt_of_cell? wr _ HAi.out.cell
     simp only at this ⊢
     omega
    have p0:=(World.cell?_setCell_other w4 ⟨G,2,none⟩ ⟨wr.heap.size,0,none⟩ (.slice (some ⟨A4,0,none⟩) (al.length + 1) c4) (fun e => hGwr (by rw [e]))).trans q0
    have p1:=(World.cell?_setCell_other w4 ⟨G,2,none⟩ ⟨wr.heap.size,1,none⟩ (.slice (some ⟨A4,0,none⟩) (al.length + 1) c4) (fun e => hGwr (by rw [e]))).trans q1
    have p2:=(World.cell?_setCell_other w4 ⟨G,2,none⟩ ⟨wr.heap.size,2,none⟩ (.slice (some ⟨A4,0,none⟩) (al.length + 1) c4) (fun e => hGwr (by rw [e]))).trans q2
    clear q0 q1 q2 hc4 hz4
    have hih:=HIH.out Ui (al ++ [x]) x U3 al3 _ Vi _ HST.out HAPP.out.1 HAPP.out.2.1 HFi.out HINX.out
    simp only [elV] at hih
    generalize w4.setCell ⟨G,2,none⟩ (.slice (some ⟨A4,0,none⟩) (al.length + 1) c4) = w5 at *
    go_wp2_with fail
    refine hih.mono ?_
    rintro r w6 ⟨rfl,V6,v6,hG6,hA6,hf6,hv6,hfe6⟩
    have HG6:=Zz.k hG6
    have HA6:=Zz.k hA6
    have Hf6:=Zz.k hf6
    have HV6:=Zz.k hv6
    have HFE6:=Zz.k hfe6
    clear hG6 hA6 hf6 hv6 hfe6 hih p0 p1 p2
    go_wp2
    obtain ⟨g',rfl⟩ : ∃ g',gk = g' + 1:=⟨gk - 1,by omega⟩
    go_roundg g'
    case measure => omega
    case rel =>
     have hvo : ∀ k,vi.ownBlock = some k -> k < w.heap.size -> vA.ownBlock = some k:=fun k hk hlt => by
      rcases HVi.out with h | ⟨b,hb,hle⟩
      ·rw [<- h]; exact hk
      ·rw [hb] at hk; cases hk; omega
     have hv1 : ∀ k,(Value.slice (some ⟨A4,0,none⟩) (al.length + 1) c4).ownBlock = some k -> vi.ownBlock = some k \/ wr.heap.size <= k:=fun k hk => by
      rcases HAT.out with h | ⟨b,hb,hle⟩
      ·rw [h] at hk; exact .inl hk
      ·rw [hb] at hk; cases hk; exact .inr (Nat.le_trans HB2.out.size hle)
     have f5 : Fr wr w5 (fun k => k = G \/ vi.ownBlock = some k):=(Fr.of_below (Qae HB2.out) _).trans HAPP.out.2.2 (fun k hk _ => hk)
     have f6 : Fr wr w6 (fun k => k = G \/ vi.ownBlock = some k \/ AnyF S Vi k):=(f5.mono (fun k hk _ => hk.elim .inl (fun h => .inr (.inl h)))).trans Hf6.out (fun k hk hlt => by
      rcases hk with hk | hk | hk
      ·exact .inl hk
      ·exact .inr (.inr hk)
      ·rcases hv1 k hk with h | h
       ·exact .inr (.inl h)
       ·exact absurd hlt (Nat.not_lt.2 h))
     have hGlt : G < w.heap.size:=hcl
     have hftl : ∀ k,AnyF S Vi k -> k < w.heap.size:=fun k ⟨x,hx⟩ => (HG.out.forest.rows x k (HFei.out x k hx)).2.1
     have h5w : wr.heap.size <= w5.heap.size:=f5.size
     have hv6 : ∀ k,v6.ownBlock = some k -> vi.ownBlock = some k \/ wr.heap.size <= k:=fun k hk => by
      rcases HV6.out with h | ⟨b,hb,hle⟩
      ·rw [h] at hk; exact hv1 k hk
      ·rw [hb] at hk; cases hk; exact .inr (by omega)
     refine ⟨i + 1,U3,al3,V6,v6,by go_num,by omega,by omega,HFO2,HG6,HA6,⟨walkF_falling l k _ _ _ _ HFi.out HST.out⟩,⟨HFr.out.trans f6 (fun k hk hlt => ?_)⟩,⟨?_⟩,⟨fun x k hk => HFei.out x k (HFE6.out x k hk)⟩,⟨f6.row HRi.out.1 (fun k hk hk2 => ?_),fun k hk hk2 => ?_⟩⟩
     ·rcases hk with hk | hk | ⟨x,hx⟩
      ·exact .inl hk
      ·exact .inr (.inr (hvo k hk hlt))
      ·exact .inr (.inl ⟨x,HFei.out x k hx⟩)
     ·cases hq : v6.ownBlock with
      | none =>
       left
       cases hq2 : vA.ownBlock with
       | none => rfl
       | some b =>
        exfalso
        have h6 : v6.ownBlock = (Value.slice (some ⟨A4,0,none⟩) (al.length + 1) c4).ownBlock:=by
         rcases HV6.out with h | ⟨b,hb,_⟩
         ·exact h
         ·rw [hb] at hq; cases hq
        rw [hq] at h6; cases h6
      | some b =>
       rcases hv6 b hq with h | h
       ·rcases HVi.out with h2 | ⟨b2,hb2,hle⟩
        ·exact .inl (by rw [<- h2,h])
        ·rw [hb2] at h; cases h; exact .inr ⟨_,rfl,hle⟩
       ·exact .inr ⟨b,rfl,by omega⟩
     ·have h1:=(World.ownsRow.lt HRi.out.1 k hk).1
      rcases hk2 with hk2 | hk2 | hk2
      ·omega
      ·exact HRi.out.2 k hk hk2
      ·have:=hftl k hk2; omega
     ·rcases hv6 k hk2 with h | h
      ·exact HRi.out.2 k hk h
      ·have:=(World.ownsRow.lt HRi.out.1 k hk).2; omega
   ·obtain rfl : i = bs.length:=by omega
    have hfo:=HFO.out
    rw [List.drop_length] at hfo
    simp only [List.foldlM_nil] at hfo
    cases hfo
    have hltz : ¬ (bs.length : Int) < (bs.length : Int):=by omega
    go_wp2
    go_end0
    exact ⟨rfl,Vi,HGi.out,vi,HAi.out,HFr.out,HVi.out,HFei.out⟩
end
section
theorem Reps_flatE {R : SElem -> List Value -> Prop} (hR : ∀ x : SElem,R x [.int .i64 x.f0, .int .i64 x.f1, .int .i64 x.f2]) (xs : List SElem) : Reps R 3 xs (flatE xs):=by
 have h : ∀ (ys zs : List SElem),Reps R 3 ys (flatE ys) -> Reps R 3 (ys ++ zs) (flatE (ys ++ zs)):=by
  intro ys zs
  induction zs generalizing ys with
  | nil => intro h; simpa using h
  | cons z zs ih =>
   intro h
   have h1:=ih (ys ++ [z]) (by rw [flatE_snoc]; exact h.snoc (hR z) rfl)
   simpa using h1
 simpa using h [] xs (Reps.none _ _)
theorem RowE.R {w : World} {base : Nat} {v : Value} {xs : List SElem} (h : RowE w base v xs) : Kd.R Qap 32 w base (fun _ => True) v xs :=
 ⟨fun _ _ => trivial,flatE xs,h,Reps_flatE (fun x => Qcd _ _ _ x) xs⟩
theorem gU_falls (l : List SOp) : ∀ i,i <= l.length -> ∀ x,Falls l (gU l i x)
 | 0,_,x => ⟨List.Pairwise.nil,fun k hk => by simp [gU] at hk⟩
 | i + 1,hi,x => by
  have ih:=gU_falls l i (by omega)
  unfold gU
  split
  ·exact ih x
  ·unfold updU
   split
   ·have h:=ih (key3 (Qad l i).f3)
    refine ⟨List.Pairwise.cons (fun k hk => ?_) h.1,fun k hk => ?_⟩
    ·have:=gU_lt l i _ k hk; omega
    ·rcases List.mem_cons.1 hk with rfl | hk
     ·omega
     ·exact h.2 k hk
   ·exact ih x
theorem gU_falling {l : List SOp} (hok : okRow l = true) : Falling l (gU l l.length):=fun x => ⟨gU_falls l _ (Nat.le_refl _) x,Nat.le_trans (gU_len l _ x) (okRow_len hok)⟩
def zE : SElem:=⟨0,0,0⟩
def tree_All.f (l : List SOp) : Option (List SElem):=if okRow l = true then (walkF l 1000 (gU l l.length) [] zE).map (·.2) else none
theorem tree_All.calls (A0 : Option Addr) (c0 : Nat) (l0 : List (SOp)) (r : List (SElem)) (w : World) (hr0 : Kd.C kOp w A0 l0.length l0) (hc0 : l0.length <= c0) (h : tree_All.f l0 = some r) :
  Calls Tryz.prog 81 #[.slice A0 l0.length c0] w fun e w' => ∃ v0_ : Value,e = .returned (v0_) /\ Kd.R Qap 32 w' w.heap.size (fun _ => True) v0_ r /\ Below w.heap.size w w':=by
 unfold tree_All.f at h
 split at h
 case isFalse => cases h
 rename_i hok
 obtain ⟨⟨U2,all2⟩,hw,rfl⟩:=Option.map_eq_some_iff.1 h
 clear h
 have hgr:=grown_calls A0 c0 l0 w hr0 hc0 hok
 have HW:=Zz.k hw
 have HOK:=Zz.k hok
 have HR:=Zz.k hr0
 have HC:=Zz.k hc0
 clear hw hok hr0 hc0
 go_enter Tryz.func81,Tryz.ntmps81
 go_wp2_with fail
 refine hgr.mono ?_
 rintro e w1 ⟨G,bU,n,S,V,rfl,hG⟩
 have hA : AllAt w w1 G bU S V (.slice none 0 0) []:=⟨hG.c2,hG.fz,RowE.nil _ _,fun k hk => by cases hk⟩
 have hwk:=walk_calls w A0 c0 l0 G bU n S HR.out HC.out HOK.out 1000 _ [] zE U2 all2 w1 V (.slice none 0 0) HW.out hG.gs hA (gU_falling HOK.out) ⟨by unfold inI zE; simp,by unfold inI zE; simp,by unfold inI zE; simp⟩
 simp only [elV,zE] at hwk
 clear hgr hG hA
 go_wp2_with fail
 refine hwk.mono ?_
 rintro e w2 ⟨rfl,V2,vA2,hG2,hA2,_⟩
 obtain ⟨A2,c2,rfl,_⟩:=hA2.row.form
 have hc:=hA2.cell
 have HA2:=Zz.k hA2
 have HG2:=Zz.k hG2
 clear hA2 hG2 hwk
 go_wp2
 go_ret
 exact ⟨_,rfl,HA2.out.row.R,HG2.out.below⟩
end
section
theorem runesOf_nil (s : ByteArray) : (Qba s).length = 0 ↔ s.toList.isEmpty = true:=by
 have e : s.toList.isEmpty = true ↔ s.size = 0:=by
  rw [ByteArray.toList_eq,<- data_length,List.isEmpty_iff,List.length_eq_zero_iff]
 rw [e]
 unfold Qba
 constructor
 ·intro h
  cases hs : s.size with
  | zero => rfl
  | succ n => rw [hs] at h; unfold Qca at h; rw [if_pos (by omega)] at h; simp at h
 ·intro h; rw [h]; rfl
theorem rd_Op_app (l : List SOp) (o : SOp) (i : Nat) (h : i < l.length) : Qad (l ++ [o]) (i : Int) = Qad l (i : Int):=by
 rw [Qar _ _ (by simp; omega),Qar _ _ h,List.getElem_append_left h]
theorem rd_Op_last (l : List SOp) (o : SOp) : Qad (l ++ [o]) (l.length : Int) = o:=by
 rw [Qar _ _ (by simp)]; simp
theorem anyAt_false {p : Nat -> Bool} {n : Nat} : anyAt p n = false ↔ ∀ j,j < n -> p j = false:=by
 unfold anyAt
 rw [List.any_eq_false]
 simp only [List.mem_range'_1]
 constructor
 ·intro h j hj; simpa using h j ⟨Nat.zero_le _,by omega⟩
 ·intro h j hj; simpa using h j (by omega)
def Qbw (l : List SOp) (a : Int) : Nat:=l.countP (fun o => o.f0 == a)
def total (l : List SOp) : Nat:=(l.map Qaj).sum
def wr (l : List SOp) (e : SElem) : Prop:=Qaq e = true \/ (0 <= e.f2 /\ ∃ p ∈ l,p.f0 = e.f0 /\ p.f1 = e.f1 /\ e.f2 < (Qaj p : Int))
structure NextOk (l : List SOp) (o : SOp) : Prop where
 len : l.length + 1 <= 40
 ok : opOk o = true
 seq : o.f1 = (Qbw l o.f0 : Int) + 1
 after : wr l o.f3
 gone : ∀ e ∈ o.f5,wr l e
 tog : o.f2 = 2 -> ∃ p ∈ l,p.f2 = 1 /\ p.f0 = o.f6 /\ p.f1 = o.f7
 sum : total l + Qaj o <= 200
inductive RowOk : List SOp -> Prop
 | nil : RowOk []
 | snoc {l : List SOp} {o : SOp} : RowOk l -> NextOk l o -> RowOk (l ++ [o])
theorem countS_app (l : List SOp) (o : SOp) (a : Int) : Qbw (l ++ [o]) a = Qbw l a + if o.f0 = a then 1 else 0:=by
 unfold Qbw
 rw [List.countP_append]
 simp [List.countP_cons]
theorem countS_le (l : List SOp) (a : Int) : Qbw l a <= l.length:=List.countP_le_length
theorem total_app (l : List SOp) (o : SOp) : total (l ++ [o]) = total l + Qaj o:=by simp [total]
theorem RowOk.snoc_inv {l : List SOp} {o : SOp} (h : RowOk (l ++ [o])) : RowOk l /\ NextOk l o:=by
 generalize hx : l ++ [o] = x at h
 cases h with
 | nil => simp at hx
 | snoc h1 h2 =>
  obtain ⟨rfl,e⟩:=List.append_inj' hx rfl
  simp at e; subst e
  exact ⟨h1,h2⟩
theorem RowOk.sums {l : List SOp} (h : RowOk l) : l.length <= 40 /\ total l <= 200:=by
 cases h with
 | nil => simp [total]
 | snoc h1 h2 => exact ⟨by simpa using h2.len,by rw [total_app]; exact h2.sum⟩
theorem RowOk.take {l : List SOp} (h : RowOk l) : ∀ n,RowOk (l.take n):=by
 induction h with
 | nil => intro n; simpa using RowOk.nil
 | snoc h1 h2 ih =>
  rename_i l o
  intro n
  by_cases hn : n <= l.length
  ·rw [List.take_append_of_le_length hn]; exact ih n
  ·rw [List.take_of_length_le (by simp; omega)]; exact .snoc h1 h2
structure StOk (s : CS) (l : List SOp) : Prop where
 sz : ∀ a b z,s.Sz (a,b) = some z ↔ ∃ p ∈ l,p.f2 = 1 /\ p.f0 = a /\ p.f1 = b /\ z = (Qaj p : Int)
 ah : ∀ a,(s.Ah a).getD 0 = (Qbw l a : Int)
 all : s.all = (total l : Int)
theorem opOk_pos {o : SOp} (h : opOk o = true) : 1 <= o.f0 /\ o.f0 <= 8 /\ 1 <= o.f1 /\ o.f1 <= 268435456:=by
 unfold opOk nameOk at h; simp only [Bool.and_eq_true,decide_eq_true_eq] at h; exact ⟨h.1.1.1.1,h.1.1.1.2,h.1.1.2,h.1.2⟩
theorem Qdc {o : SOp} (h : opOk o = true) : (o.f2 = 1 /\ editOk o = true) \/ (o.f2 = 2 /\ Qch o = true):=by
 unfold opOk at h; simp only [Bool.and_eq_true] at h
 by_cases h1 : o.f2 = 1
 ·rw [if_pos h1] at h; exact .inl ⟨h1,h.2⟩
 ·rw [if_neg h1] at h; simp at h; exact .inr h.2
theorem Qcr {o : SOp} (h : opOk o = true) : Qaj o <= 12 /\ (o.f2 = 2 -> Qaj o = 0):=by
 rcases Qdc h with ⟨h1,h2⟩ | ⟨h1,h2⟩
 ·refine ⟨?_,fun h => by omega⟩
  unfold editOk at h2; simp only [Bool.and_eq_true,decide_eq_true_eq] at h2
  exact h2.1.1.1.1.2
 ·unfold Qch at h2; simp only [Bool.and_eq_true] at h2
  have e : Qaj o = 0:=(runesOf_nil _).2 h2.1.2
  exact ⟨by omega,fun _ => e⟩
theorem elemOk_pos {e : SElem} (h : Qco e = true) (hb : Qaq e = false) : 1 <= e.f0 /\ 1 <= e.f1 /\ 0 <= e.f2 /\ e.f2 < 12:=by
 unfold Qco nameOk at h; rw [hb] at h; simp only [Bool.false_or,Bool.and_eq_true,decide_eq_true_eq] at h; omega
theorem goneFrom_mem {o : SOp} : ∀ (l : List SElem) (p : Option SElem),Qbs o p l = true -> ∀ e ∈ l,Qaq e = false /\ Qco e = true /\ ownEl o e = false
 | [],_,_,e,he => by cases he
 | x :: r,p,h,e,he => by
  unfold Qbs at h; simp only [Bool.and_eq_true] at h
  rcases List.mem_cons.1 he with rfl | he
  ·exact ⟨by simpa using h.1.1.1.1,h.1.1.1.2,by simpa using h.1.1.2⟩
  ·exact goneFrom_mem r _ h.2 e he
theorem opOk_goneMem {o : SOp} (h : opOk o = true) : ∀ e ∈ o.f5,Qaq e = false /\ Qco e = true /\ ownEl o e = false:=by
 rcases Qdc h with ⟨h1,h2⟩ | ⟨h1,h2⟩
 ·unfold editOk goneOk at h2; simp only [Bool.and_eq_true] at h2
  exact goneFrom_mem _ _ h2.1.1.1.2.1
 ·unfold Qch at h2; simp only [Bool.and_eq_true] at h2
  rw [List.isEmpty_iff.1 h2.2]; intro e he; cases he
theorem opOk_afterOk {o : SOp} (h : opOk o = true) : Qaq o.f3 = true \/ (Qco o.f3 = true /\ ownEl o o.f3 = false):=by
 rcases Qdc h with ⟨h1,h2⟩ | ⟨h1,h2⟩
 ·unfold editOk at h2; simp only [Bool.and_eq_true] at h2
  exact .inr ⟨h2.1.1.1.1.1.1.1.1.1,by simpa using h2.1.1.1.1.1.1.1.1.2⟩
 ·unfold Qch at h2; simp only [Bool.and_eq_true] at h2
  exact .inl h2.1.1.2
theorem StOk.wrote_iff {s : CS} {l : List SOp} (hs : StOk s l) (hl : ∀ p ∈ l,opOk p = true) (e : SElem) (he : Qaq e = true \/ 0 <= e.f2) : Qdh s.Sz e = true ↔ wr l e:=by
 unfold Qdh wr
 rw [Bool.or_eq_true]
 refine or_congr Iff.rfl ?_
 rw [decide_eq_true_eq]
 cases hz : s.Sz (e.f0,e.f1) with
 | some z =>
  obtain ⟨p,hp,h2,h0,h1,rfl⟩:=(hs.sz _ _ _).1 hz
  simp only [Option.getD_some]
  constructor
  ·intro h
   refine ⟨?_,p,hp,h0,h1,h⟩
   rcases he with he | he
   ·unfold Qaq at he; simp at he
    omega
   ·exact he
  ·rintro ⟨_,q,hq,g0,g1,hlt⟩
   rcases Qdc (hl q hq) with ⟨k1,_⟩ | ⟨k2,_⟩
   ·have hq':=(hs.sz e.f0 e.f1 (Qaj q)).2 ⟨q,hq,k1,g0,g1,rfl⟩
    rw [hz] at hq'; injection hq' with hq'; omega
   ·have:=(Qcr (hl q hq)).2 k2; omega
 | none =>
  simp only [Option.getD_none]
  constructor
  ·intro h
   rcases he with he | he
   ·unfold Qaq at he; simp at he; omega
   ·omega
  ·rintro ⟨h0,q,hq,g0,g1,hlt⟩
   exfalso
   rcases Qdc (hl q hq) with ⟨k1,_⟩ | ⟨k2,_⟩
   ·have hq':=(hs.sz e.f0 e.f1 (Qaj q)).2 ⟨q,hq,k1,g0,g1,rfl⟩
    rw [hz] at hq'; cases hq'
   ·have:=(Qcr (hl q hq)).2 k2; omega
theorem RowOk.oks {l : List SOp} (h : RowOk l) : ∀ p ∈ l,opOk p = true:=by
 induction h with
 | nil => intro p hp; cases hp
 | snoc h1 h2 ih =>
  intro p hp
  rcases List.mem_append.1 hp with hp | hp
  ·exact ih p hp
  ·simp at hp; subst hp; exact h2.ok
theorem mem_seq {l : List SOp} (h : RowOk l) : ∀ p ∈ l,p.f1 <= (Qbw l p.f0 : Int):=by
 induction h with
 | nil => intro p hp; cases hp
 | snoc h1 h2 ih =>
  rename_i l o
  intro p hp
  rw [countS_app]
  rcases List.mem_append.1 hp with hp | hp
  ·have:=ih p hp; split <;> omega
  ·simp at hp; subst hp; have:=h2.seq; simp; omega
theorem NextOk.fresh {l : List SOp} {o : SOp} (h1 : RowOk l) (h2 : NextOk l o) : ∀ p ∈ l,¬ (p.f0 = o.f0 /\ p.f1 = o.f1):=by
 rintro p hp ⟨e0,e1⟩
 have h:=mem_seq h1 p hp
 rw [e0,e1] at h
 have:=h2.seq
 omega
theorem pre_iff {s : CS} {l : List SOp} {o : SOp} (hr : RowOk l) (hs : StOk s l) : preB s o = true ↔ opOk o = true /\ o.f1 = (Qbw l o.f0 : Int) + 1 /\ wr l o.f3 /\ ∀ e ∈ o.f5,wr l e:=by
 unfold preB
 simp only [Bool.and_eq_true,beq_iff_eq,Bool.not_eq_true',hs.ah]
 rw [Qak (by omega) (by have:=countS_le l o.f0; have:=hr.sums.1; omega)]
 constructor
 ·rintro ⟨h1,h2,h3,h4⟩
  refine ⟨h1,h2, ?_, ?_⟩
  ·refine (hs.wrote_iff hr.oks _ ?_).1 h3
   rcases opOk_afterOk h1 with h | ⟨h,_⟩
   ·exact .inl h
   ·cases hb : Qaq o.f3
    ·exact .inr (elemOk_pos h hb).2.2.1
    ·exact .inl rfl
  ·intro e he
   obtain ⟨i,hi,rfl⟩:=List.getElem_of_mem he
   have h:=anyAt_false.1 h4 i hi
   rw [Qat _ _ hi] at h
   obtain ⟨g1,g2,g3⟩:=opOk_goneMem h1 _ he
   exact (hs.wrote_iff hr.oks _ (.inr (elemOk_pos g2 g1).2.2.1)).1 (by simpa using h)
 ·rintro ⟨h1,h2,h3,h4⟩
  refine ⟨h1,h2, ?_, ?_⟩
  ·refine (hs.wrote_iff hr.oks _ ?_).2 h3
   rcases h3 with h | h
   ·exact .inl h
   ·exact .inr h.1
  ·refine anyAt_false.2 fun i hi => ?_
   rw [Qat _ _ hi]
   have he:=List.getElem_mem hi
   obtain ⟨g1,g2,g3⟩:=opOk_goneMem h1 _ he
   have:=(hs.wrote_iff hr.oks _ (.inr (elemOk_pos g2 g1).2.2.1)).2 (h4 _ he)
   simpa using this
theorem goes_iff {s : CS} {l : List SOp} {o : SOp} (hr : RowOk l) (hs : StOk s l) (hn : l.length + 1 <= 40) : ((goesB s o).1 = true ↔ NextOk l o) /\ ((goesB s o).1 = true -> StOk (goesB s o).2 (l ++ [o])):=by
 unfold goesB
 by_cases hp : preB s o = true
 ·rw [if_pos hp]
  obtain ⟨h1,h2,h3,h4⟩:=(pre_iff hr hs).1 hp
  have hc:=countS_le l o.f0
  have hsum:=hr.sums
  have hsz:=Qcr h1
  have hw : wrap64 ((s.Ah o.f0).getD 0 + 1) = (Qbw l o.f0 : Int) + 1:=by
   rw [hs.ah]; exact Qak (by omega) (by omega)
  have hah : ∀ a,((upd s.Ah o.f0 (wrap64 ((s.Ah o.f0).getD 0 + 1))) a).getD 0 = (Qbw (l ++ [o]) a : Int):=by
   rw [hw]
   intro a
   rw [countS_app]
   by_cases e : a = o.f0
   ·have e2 : o.f0 = a:=e.symm
    unfold upd
    rw [if_pos e,if_pos e2,e2]
    rfl
   ·have e2 : ¬ o.f0 = a:=fun h => e h.symm
    unfold upd
    rw [if_neg e,if_neg e2,hs.ah]
    rfl
  by_cases hk : o.f2 = 2
  ·rw [if_pos hk]
   have hz:=hsz.2 hk
   constructor
   ·simp only [Option.isSome_iff_exists]
    constructor
    ·rintro ⟨z,hz'⟩
     obtain ⟨p,hp,k1,k2,k3,_⟩:=(hs.sz _ _ _).1 hz'
     exact ⟨hn,h1,h2,h3,h4,fun _ => ⟨p,hp,k1,k2,k3⟩,by omega⟩
    ·intro h
     obtain ⟨p,hp,k1,k2,k3⟩:=h.tog hk
     exact ⟨_,(hs.sz _ _ (Qaj p)).2 ⟨p,hp,k1,k2,k3,rfl⟩⟩
   ·intro _
    refine ⟨fun a b z => ?_,hah, ?_⟩
    ·show s.Sz (a,b) = some z ↔ _
     rw [hs.sz]
     constructor
     ·rintro ⟨p,hp,h⟩; exact ⟨p,List.mem_append_left _ hp,h⟩
     ·rintro ⟨p,hp,h⟩
      rcases List.mem_append.1 hp with hp | hp
      ·exact ⟨p,hp,h⟩
      ·simp at hp; subst hp; omega
    ·show s.all = _
     rw [hs.all,total_app,hz]; rfl
  ·rw [if_neg hk]
   have hk1 : o.f2 = 1:=by
    rcases Qdc h1 with ⟨k,_⟩ | ⟨k,_⟩
    ·exact k
    ·exact absurd k hk
   have hall : (noted s o).all = ((total (l ++ [o]) : Nat) : Int):=by
    show wrap64 (s.all + (Qaj o : Int)) = _
    rw [hs.all,total_app,Qak (by omega) (by omega)]; simp
   constructor
   ·simp only [decide_eq_true_eq,hall,total_app]
    constructor
    ·intro h; exact ⟨hn,h1,h2,h3,h4,fun e => absurd e hk,by omega⟩
    ·intro h; have:=h.sum; omega
   ·intro hlt
    have hno : NextOk l o:=⟨hn,h1,h2,h3,h4,fun e => absurd e hk,by simp only [decide_eq_true_eq,hall,total_app] at hlt; omega⟩
    refine ⟨fun a b z => ?_,hah,hall⟩
    show upd s.Sz (o.f0,o.f1) (Qaj o) (a,b) = some z ↔ _
    unfold upd
    by_cases e : (a,b) = (o.f0,o.f1)
    ·rw [if_pos e]
     injection e with e0 e1
     subst e0 e1
     constructor
     ·intro h; injection h with h; exact ⟨o,by simp,hk1,rfl,rfl,h.symm⟩
     ·rintro ⟨p,hp,k1,k2,k3,rfl⟩
      rcases List.mem_append.1 hp with hp | hp
      ·exact absurd ⟨k2,k3⟩ (hno.fresh hr p hp)
      ·simp at hp; subst hp; rfl
    ·rw [if_neg e,hs.sz]
     constructor
     ·rintro ⟨p,hp,h⟩; exact ⟨p,List.mem_append_left _ hp,h⟩
     ·rintro ⟨p,hp,k1,k2,k3,h⟩
      rcases List.mem_append.1 hp with hp | hp
      ·exact ⟨p,hp,k1,k2,k3,h⟩
      ·simp at hp; subst hp; exact absurd (by rw [k2,k3]) e
 ·rw [if_neg hp]
  constructor
  ·constructor
   ·intro h; cases h
   ·intro h; exact absurd ((pre_iff hr hs).2 ⟨h.ok,h.seq,h.after,h.gone⟩) hp
  ·intro h; cases h
theorem st_app (l : List SOp) (o : SOp) : ∀ i,i <= l.length -> st (l ++ [o]) i = st l i
 | 0,_ => rfl
 | i + 1,h => by
  show (goesB (st (l ++ [o]) i) (Qad (l ++ [o]) (i : Int))).2 = (goesB (st l i) (Qad l (i : Int))).2
  rw [st_app l o i (by omega),rd_Op_app l o i (by omega)]
theorem mayB_app (l : List SOp) (o : SOp) (h : l.length + 1 <= 40) : mayB (l ++ [o]) = true ↔ mayB l = true /\ (goesB (st l l.length) o).1 = true:=by
 unfold mayB
 have e : (l ++ [o]).length = l.length + 1:=by simp
 rw [e]
 simp only [Bool.and_eq_true,decide_eq_true_eq,Bool.not_eq_true',anyAt_false]
 constructor
 ·rintro ⟨_,h2⟩
  refine ⟨⟨by omega,fun j hj => ?_⟩, ?_⟩
  ·have:=h2 j (by omega)
   unfold badAt at this ⊢
   rwa [st_app l o j (by omega),rd_Op_app l o j hj] at this
  ·have:=h2 l.length (by omega)
   unfold badAt at this
   rw [st_app l o _ (Nat.le_refl _),rd_Op_last] at this
   simpa using this
 ·rintro ⟨⟨_,h2⟩,h3⟩
  refine ⟨h,fun j hj => ?_⟩
  unfold badAt
  by_cases ej : j = l.length
  ·subst ej
   rw [st_app l o _ (Nat.le_refl _),rd_Op_last,h3]; rfl
  ·have:=h2 j (by omega)
   unfold badAt at this
   rwa [st_app l o j (by omega),rd_Op_app l o j (by omega)]
theorem mayB_rev : ∀ (n : Nat) (l : List SOp),l.length = n -> (mayB l = true ↔ RowOk l) /\ (RowOk l -> StOk (st l l.length) l):=by
 intro n
 induction n with
 | zero =>
  intro l hl
  obtain rfl:=List.length_eq_zero_iff.1 hl
  refine ⟨⟨fun _ => .nil,fun _ => rfl⟩,fun _ => ⟨fun a b z => ?_,fun a => rfl,rfl⟩⟩
  constructor
  ·intro h; cases h
  ·rintro ⟨p,hp,_⟩; cases hp
 | succ n ih =>
  intro l hl
  obtain ⟨l,o,rfl⟩ : ∃ l' o,l = l' ++ [o]:=⟨l.dropLast,l.getLast (by intro e; simp [e] at hl),(List.dropLast_concat_getLast _).symm⟩
  have hl' : l.length = n:=by simpa using hl
  obtain ⟨ih1,ih2⟩:=ih l hl'
  by_cases h40 : l.length + 1 <= 40
  ·constructor
   ·rw [mayB_app l o h40,ih1]
    constructor
    ·rintro ⟨h1,h2⟩; exact .snoc h1 ((goes_iff h1 (ih2 h1) h40).1.1 h2)
    ·intro h
     obtain ⟨h1,h2⟩:=h.snoc_inv
     exact ⟨h1,(goes_iff (o:=o) h1 (ih2 h1) h40).1.2 h2⟩
   ·intro h
    obtain ⟨h1,h2⟩:=h.snoc_inv
    have hg:=goes_iff (o:=o) h1 (ih2 h1) h40
    have e : st (l ++ [o]) (l ++ [o]).length = (goesB (st l l.length) o).2:=by
     rw [List.length_append]
     show (goesB (st (l ++ [o]) l.length) (Qad (l ++ [o]) (l.length : Int))).2 = _
     rw [st_app l o _ (Nat.le_refl _),rd_Op_last]
    rw [e]
    exact hg.2 (hg.1.2 h2)
  ·constructor
   ·constructor
    ·intro h; unfold mayB at h; simp at h; omega
    ·intro h; have:=h.snoc_inv.2.len; omega
   ·intro h; have:=h.snoc_inv.2.len; omega
theorem Qci (l : List SOp) : mayB l = true ↔ RowOk l:=(mayB_rev _ l rfl).1
end
section
theorem SElem.ext3 {a b : SElem} (h0 : a.f0 = b.f0) (h1 : a.f1 = b.f1) (h2 : a.f2 = b.f2) : a = b:=by cases a; cases b; simp_all
theorem key3_inj {a b : SElem} (h : key3 a = key3 b) : a = b:=by
 unfold key3 at h; injection h with h0 h; injection h with h1 h2; exact SElem.ext3 h0 h1 h2
def Qan (o : SOp) : List SElem:=(List.range (Qaj o)).map fun j : Nat => ⟨o.f0,o.f1,(j : Int)⟩
def insO (x : List SElem) (o : SOp) : List SElem:=if Qaq o.f3 then Qan o ++ x else x.flatMap fun e => if key3 e = key3 o.f3 then e :: Qan o else [e]
def ordL (l : List SOp) : List SElem:=l.foldl insO []
theorem ordL_app (l : List SOp) (o : SOp) : ordL (l ++ [o]) = insO (ordL l) o:=by simp [ordL]
inductive WalkL (ch : SElem -> List SElem) : List SElem -> List SElem -> Prop
 | nil : WalkL ch [] []
 | cons {x : SElem} {xs L1 L2 : List SElem} : WalkL ch (ch x) L1 -> WalkL ch xs L2 -> WalkL ch (x :: xs) (x :: (L1 ++ L2))
def chl (l : List SOp) (e : SElem) : List SElem:=belowL l (gU l l.length (key3 e)) e
theorem gU_app (l : List SOp) (o : SOp) : ∀ i,i <= l.length -> gU (l ++ [o]) i = gU l i
 | 0,_ => rfl
 | i + 1,h => by
  unfold gU
  rw [gU_app l o i (by omega),rd_Op_app l o i (by omega)]
theorem gU_snoc (l : List SOp) (o : SOp) (x : K3) : gU (l ++ [o]) (l ++ [o]).length x = if o.f4.toList.isEmpty = false /\ x = key3 o.f3 then (l.length : Int) :: gU l l.length x else gU l l.length x:=by
 rw [show (l ++ [o]).length = l.length + 1 by simp]
 conv => lhs; unfold gU
 rw [gU_app l o _ (Nat.le_refl _),rd_Op_last]
 cases h : o.f4.toList.isEmpty
 ·simp only [Bool.false_eq_true,if_false,true_and]
  unfold updU
  by_cases e : x = key3 o.f3
  ·subst e; simp
  ·simp [e]
 ·simp
theorem gU_range (l : List SOp) : ∀ i x k,k ∈ gU l i x -> 0 <= k /\ k < (i : Int) /\ key3 (Qad l k).f3 = x /\ (Qad l k).f4.toList.isEmpty = false
 | 0,x,k,h => by simp [gU] at h
 | i + 1,x,k,h => by
  unfold gU at h
  cases hz : (Qad l (i : Int)).f4.toList.isEmpty
  ·rw [hz] at h
   simp only [Bool.false_eq_true,if_false] at h
   unfold updU at h
   split at h
   ·rename_i e
    rcases List.mem_cons.1 h with rfl | h
    ·exact ⟨by omega,by omega,e.symm,hz⟩
    ·have:=gU_range l i _ k h; rw [<- e] at this; exact ⟨this.1,by omega,this.2.2⟩
   ·have:=gU_range l i x k h; exact ⟨this.1,by omega,this.2.2⟩
  ·rw [hz] at h
   simp only [if_true] at h
   have:=gU_range l i x k h; exact ⟨this.1,by omega,this.2.2⟩
theorem atE_app (l : List SOp) (o : SOp) (k : Int) (h0 : 0 <= k) (h : k < (l.length : Int)) : atE (l ++ [o]) k = atE l k:=by
 obtain ⟨n,rfl⟩:=Int.eq_ofNat_of_zero_le h0
 unfold atE
 rw [rd_Op_app l o n (by omega)]
theorem Qbh (l : List SOp) (a b : Int) : (∃ i,∃ h : i < l.length,l[i].f0 = a /\ l[i].f1 = b /\ (∀ j (hj : j < i),¬ ((l[j]'(by omega)).f0 = a /\ (l[j]'(by omega)).f1 = b)) /\ Qbf l a b = (i : Int)) \/ ((∀ p ∈ l,¬ (p.f0 = a /\ p.f1 = b)) /\ Qbf l a b = -1):=by
 unfold Qbf
 rcases firstAt_cases (fun i => nameIs a b (Qad l i)) l.length with ⟨i,h1,h2,h3,h4⟩ | ⟨h1,h2⟩
 ·refine .inl ⟨i,h1, ?_⟩
  rw [Qar _ _ h1] at h2
  unfold nameIs at h2; simp at h2
  refine ⟨h2.1,h2.2,fun j hj => ?_,h4⟩
  have:=h3 j hj
  rw [Qar _ _ (by omega)] at this
  unfold nameIs at this; simpa using this
 ·refine .inr ⟨fun p hp => ?_,h2⟩
  obtain ⟨i,hi,rfl⟩:=List.getElem_of_mem hp
  have:=h1 i hi
  rw [Qar _ _ hi] at this
  unfold nameIs at this; simpa using this
theorem findOp_app_other (l : List SOp) (o : SOp) (a b : Int) (h : ¬ (o.f0 = a /\ o.f1 = b)) : Qbf (l ++ [o]) a b = Qbf l a b:=by
 rcases Qbh l a b with ⟨i,hi,h0,h1,hb,e⟩ | ⟨hn,e⟩
 ·rw [e]
  rcases Qbh (l ++ [o]) a b with ⟨j,hj,g0,g1,gb,e'⟩ | ⟨hn',_⟩
  ·rw [e']
   rcases Nat.lt_trichotomy i j with hlt | rfl | hlt
   ·exact absurd ⟨by rw [List.getElem_append_left hi]; exact h0,by rw [List.getElem_append_left hi]; exact h1⟩ (gb i hlt)
   ·rfl
   ·exfalso
    rw [List.getElem_append_left (by omega)] at g0 g1
    exact hb j hlt ⟨g0,g1⟩
  ·exact absurd ⟨h0,h1⟩ (hn' _ (List.mem_append_left _ (List.getElem_mem hi)))
 ·rw [e]
  rcases Qbh (l ++ [o]) a b with ⟨j,hj,g0,g1,gb,e'⟩ | ⟨hn',e'⟩
  ·exfalso
   have hm:=List.getElem_mem hj
   rcases List.mem_append.1 hm with hm | hm
   ·exact hn _ hm ⟨g0,g1⟩
   ·simp only [List.mem_singleton] at hm; rw [hm] at g0 g1; exact h ⟨g0,g1⟩
  ·exact e'
theorem findOp_fresh (l : List SOp) (o : SOp) (h : ∀ p ∈ l,¬ (p.f0 = o.f0 /\ p.f1 = o.f1)) : Qbf (l ++ [o]) o.f0 o.f1 = (l.length : Int):=by
 rcases Qbh (l ++ [o]) o.f0 o.f1 with ⟨j,hj,g0,g1,gb,e'⟩ | ⟨hn',e'⟩
 ·rw [e']
  by_cases ej : j < l.length
  ·exfalso
   rw [List.getElem_append_left ej] at g0 g1
   exact h _ (List.getElem_mem ej) ⟨g0,g1⟩
  ·simp at hj; omega
 ·exact absurd ⟨rfl,rfl⟩ (hn' o (by simp))
theorem nextL_app (l : List SOp) (o : SOp) (e : SElem) (h : ¬ (o.f0 = e.f0 /\ o.f1 = e.f1)) : nextL (l ++ [o]) e = nextL l e:=by
 unfold nextL
 rw [findOp_app_other l o _ _ h]
 rcases Qbh l e.f0 e.f1 with ⟨i,hi,_,_,_,e'⟩ | ⟨_,e'⟩
 ·rw [e',rd_Op_app l o i hi]
 ·rw [e']; simp
theorem chl_mem {l : List SOp} {e x : SElem} (h : x ∈ chl l e) : ∃ p ∈ l,p.f0 = x.f0 /\ p.f1 = x.f1:=by
 unfold chl belowL at h
 rcases List.mem_append.1 h with h | h
 ·obtain ⟨k,hk,rfl⟩:=List.mem_map.1 h
  obtain ⟨h0,h1,_⟩:=gU_range l _ _ _ hk
  obtain ⟨n,rfl⟩:=Int.eq_ofNat_of_zero_le h0
  unfold atE
  rw [Qar _ _ (by omega)]
  exact ⟨l[n],List.getElem_mem _,rfl,rfl⟩
 ·unfold nextL at h
  split at h
  ·rename_i hc
   simp only [List.mem_singleton] at h
   subst h
   rcases Qbh l e.f0 e.f1 with ⟨i,hi,_,_,_,e'⟩ | ⟨_,e'⟩
   ·rw [e',Qar _ _ hi]; exact ⟨l[i],List.getElem_mem _,rfl,rfl⟩
   ·omega
  ·simp at h
def old (o : SOp) (e : SElem) : Prop:=¬ (o.f0 = e.f0 /\ o.f1 = e.f1)
theorem chl_old {l : List SOp} {o : SOp} (hf : ∀ p ∈ l,¬ (p.f0 = o.f0 /\ p.f1 = o.f1)) {e x : SElem} (h : x ∈ chl l e) : old o x:=by
 obtain ⟨p,hp,h0,h1⟩:=chl_mem h
 rintro ⟨e0,e1⟩
 exact hf p hp ⟨by omega,by omega⟩
def headE (o : SOp) (e : SElem) : List SElem:=if o.f4.toList.isEmpty = false /\ key3 e = key3 o.f3 then [⟨o.f0,o.f1,0⟩] else []
theorem chl_app (l : List SOp) (o : SOp) (e : SElem) (h : old o e) : chl (l ++ [o]) e = headE o e ++ chl l e:=by
 unfold chl belowL
 rw [gU_snoc,nextL_app l o e h]
 have hm : ∀ x : K3,(gU l l.length x).map (atE (l ++ [o])) = (gU l l.length x).map (atE l):=fun x =>
  List.map_congr_left fun k hk => atE_app l o k (gU_range l _ _ _ hk).1 (gU_range l _ _ _ hk).2.1
 have hl : atE (l ++ [o]) (l.length : Int) = ⟨o.f0,o.f1,0⟩:=by unfold atE; rw [rd_Op_last]
 unfold headE
 split
 ·rw [List.map_cons,hm,hl]; rfl
 ·rw [hm]; rfl
theorem size_pos {o : SOp} (h : o.f4.toList.isEmpty = false) : 0 < Qaj o:=by
 rcases Nat.eq_zero_or_pos (Qaj o) with e | e
 ·have:=(runesOf_nil _).1 e; rw [h] at this; cases this
 ·exact e
theorem chl_own {l : List SOp} {o : SOp} (hr : RowOk l) (hn : NextOk l o) (j : Nat) (hj : j < 12) : chl (l ++ [o]) ⟨o.f0,o.f1,(j : Int)⟩ = if j + 1 < Qaj o then [⟨o.f0,o.f1,((j + 1 : Nat) : Int)⟩] else []:=by
 have hf:=hn.fresh hr
 have hpos:=opOk_pos hn.ok
 have hU : gU (l ++ [o]) (l ++ [o]).length (key3 ⟨o.f0,o.f1,(j : Int)⟩) = []:=by
  rw [List.eq_nil_iff_forall_not_mem]
  intro k hk
  obtain ⟨h0,h1,h2,h3⟩:=gU_range _ _ _ _ hk
  obtain ⟨n,rfl⟩:=Int.eq_ofNat_of_zero_le h0
  have hk:=key3_inj h2
  have hwr : ∀ i (hi : i < (l ++ [o]).length),wr l ((l ++ [o])[i]).f3:=by
   clear hk h2 h3
   intro i hi
   by_cases e : i < l.length
   ·rw [List.getElem_append_left e]
    have key : ∀ l : List SOp,RowOk l -> ∀ p ∈ l,wr l p.f3:=by
     intro l hr
     induction hr with
     | nil => intro p hp; cases hp
     | snoc h1 h2 ih =>
      intro p hp
      have up : ∀ (l : List SOp) (o : SOp) (e : SElem),wr l e -> wr (l ++ [o]) e:=fun l o e h => h.imp id fun ⟨h,p,hp,hh⟩ => ⟨h,p,List.mem_append_left _ hp,hh⟩
      rcases List.mem_append.1 hp with hp | hp
      ·exact up _ _ _ (ih p hp)
      ·simp at hp; subst hp; exact up _ _ _ h2.after
    exact key l hr _ (List.getElem_mem e)
   ·obtain rfl : i = l.length:=by simp at hi; omega
    simp; exact hn.after
  have:=hwr n (by omega)
  rw [<- Qar,hk] at this
  rcases this with h | ⟨_,p,hp,e0,e1,_⟩
  ·unfold Qaq at h; simp at h; omega
  ·exact hf p hp ⟨e0,e1⟩
 unfold chl belowL
 rw [hU]
 unfold nextL
 simp only [List.map_nil,List.nil_append]
 rw [findOp_fresh l o hf,rd_Op_last,Qak (by omega) (by omega)]
 by_cases h : j + 1 < Qaj o
 ·rw [if_pos h,if_pos ⟨by omega,by omega⟩]; rfl
 ·rw [if_neg h,if_neg (by omega)]
theorem walk_chain {l : List SOp} {o : SOp} (hr : RowOk l) (hn : NextOk l o) : ∀ d j,j + d = Qaj o -> WalkL (chl (l ++ [o])) (if j < Qaj o then [⟨o.f0,o.f1,(j : Int)⟩] else []) ((List.range' j d).map fun j : Nat => (⟨o.f0,o.f1,(j : Int)⟩ : SElem))
 | 0,j,h => by rw [if_neg (by omega)]; exact .nil
 | d + 1,j,h => by
  rw [if_pos (by omega),List.range'_succ,List.map_cons]
  have h12:=(Qcr hn.ok).1
  have:=walk_chain hr hn d (j + 1) (by omega)
  rw [<- chl_own hr hn j (by omega)] at this
  have:=WalkL.cons this (.nil (ch:=chl (l ++ [o])))
  rwa [List.append_nil] at this
theorem walk_append {ch : SElem -> List SElem} {xs ys L M : List SElem} (h : WalkL ch xs L) (h2 : WalkL ch ys M) : WalkL ch (xs ++ ys) (L ++ M):=by
 induction h with
 | nil => exact h2
 | cons h1 h3 ih1 ih3 =>
  rw [List.cons_append,List.cons_append,List.append_assoc]
  exact .cons h1 ih3
theorem walk_head {l : List SOp} {o : SOp} (hr : RowOk l) (hn : NextOk l o) (e : SElem) : WalkL (chl (l ++ [o])) (headE o e) (if key3 e = key3 o.f3 then Qan o else []):=by
 have h:=walk_chain hr hn (Qaj o) 0 (by omega)
 rw [<- List.range_eq_range'] at h
 unfold headE
 by_cases he : key3 e = key3 o.f3
 ·simp only [he,and_true,if_true]
  cases hz : o.f4.toList.isEmpty
  ·rw [if_pos (size_pos hz)] at h; exact h
  ·have e0 : Qaj o = 0:=(runesOf_nil _).2 hz
   unfold Qan; rw [e0]; simpa using WalkL.nil
 ·simp only [he,and_false,if_false]; exact .nil
def ins1 (o : SOp) (x : List SElem) : List SElem:=x.flatMap fun e => if key3 e = key3 o.f3 then e :: Qan o else [e]
theorem walk_more {l : List SOp} {o : SOp} (hr : RowOk l) (hn : NextOk l o) {xs L : List SElem} (h : WalkL (chl l) xs L) (ho : ∀ x ∈ xs,old o x) : WalkL (chl (l ++ [o])) xs (ins1 o L):=by
 have hf:=hn.fresh hr
 induction h with
 | nil => exact .nil
 | cons h1 h2 ih1 ih2 =>
  rename_i x xs L1 L2
  have g1:=ih1 (fun y hy => chl_old hf hy)
  have g2:=ih2 (fun y hy => ho y (List.mem_cons_of_mem _ hy))
  have hx:=ho x List.mem_cons_self
  have hh:=walk_append (walk_head hr hn x) g1
  rw [<- chl_app l o x hx] at hh
  have:=WalkL.cons hh g2
  unfold ins1 at this ⊢
  rw [List.flatMap_cons,List.flatMap_append]
  split
  ·rename_i e; rw [if_pos e] at this; simpa using this
  ·rename_i e; rw [if_neg e] at this; simpa using this
def bgE : SElem:=⟨0,0,0⟩
theorem isBegin_iff (e : SElem) : Qaq e = true ↔ e = bgE:=by
 unfold Qaq bgE
 constructor
 ·intro h; simp at h; exact SElem.ext3 h.1 h.2.1 h.2.2
 ·rintro rfl; rfl
theorem Qcm {l : List SOp} (h : RowOk l) : ∀ e,e ∈ ordL l ↔ ∃ p ∈ l,p.f0 = e.f0 /\ p.f1 = e.f1 /\ 0 <= e.f2 /\ e.f2 < (Qaj p : Int):=by
 induction h with
 | nil => intro e; simp [ordL]
 | snoc h1 h2 ih =>
  rename_i l o
  intro e
  have hch : ∀ e,e ∈ Qan o ↔ o.f0 = e.f0 /\ o.f1 = e.f1 /\ 0 <= e.f2 /\ e.f2 < (Qaj o : Int):=by
   intro e
   unfold Qan
   rw [List.mem_map]
   constructor
   ·rintro ⟨j,hj,rfl⟩; rw [List.mem_range] at hj; exact ⟨rfl,rfl,by simp only; omega,by simp only; omega⟩
   ·rintro ⟨a,b,c,d⟩
    exact ⟨e.f2.toNat,List.mem_range.2 (by omega),SElem.ext3 a b (by simp only; omega)⟩
  have goal : e ∈ insO (ordL l) o ↔ e ∈ ordL l \/ e ∈ Qan o:=by
   unfold insO
   split
   ·rw [List.mem_append]; exact or_comm
   ·rename_i hb
    rw [List.mem_flatMap]
    constructor
    ·rintro ⟨x,hx,he⟩
     split at he
     ·rcases List.mem_cons.1 he with rfl | he
      ·exact .inl hx
      ·exact .inr he
     ·simp at he; subst he; exact .inl hx
    ·rintro (he | he)
     ·exact ⟨e,he,by split <;> simp⟩
     ·rcases h2.after with h | ⟨h0,p,hp,k0,k1,k2⟩
      ·exact absurd h hb
      ·exact ⟨o.f3,(ih o.f3).2 ⟨p,hp,k0,k1,h0,k2⟩,by rw [if_pos rfl]; exact List.mem_cons_of_mem _ he⟩
  rw [ordL_app,goal,ih,hch]
  constructor
  ·rintro (⟨p,hp,h⟩ | h)
   ·exact ⟨p,List.mem_append_left _ hp,h⟩
   ·exact ⟨o,by simp,h⟩
  ·rintro ⟨p,hp,h⟩
   rcases List.mem_append.1 hp with hp | hp
   ·exact .inl ⟨p,hp,h⟩
   ·simp at hp; subst hp; exact .inr h
theorem ordL_pos {l : List SOp} (h : RowOk l) {e : SElem} (he : e ∈ ordL l) : 1 <= e.f0 /\ 1 <= e.f1 /\ 0 <= e.f2:=by
 obtain ⟨p,hp,h0,h1,h2,_⟩:=(Qcm h e).1 he
 have:=opOk_pos (h.oks p hp)
 omega
theorem ins1_begin {l : List SOp} (h : RowOk l) {o : SOp} (hb : o.f3 = bgE) : ins1 o (ordL l) = ordL l:=by
 have : ∀ x : List SElem,(∀ e ∈ x,e ∈ ordL l) -> ins1 o x = x:=by
  intro x
  induction x with
  | nil => intro _; rfl
  | cons e x ih =>
   intro hx
   unfold ins1 at ih ⊢
   rw [List.flatMap_cons,ih (fun y hy => hx y (List.mem_cons_of_mem _ hy)),if_neg]
   ·rfl
   ·intro e'
    have h1:=ordL_pos h (hx e List.mem_cons_self)
    rw [key3_inj e',hb] at h1
    simp [bgE] at h1
 exact this _ fun _ h => h
theorem ordL_walk {l : List SOp} (h : RowOk l) : WalkL (chl l) (chl l bgE) (ordL l):=by
 induction h with
 | nil =>
  have : chl [] bgE = []:=by
   unfold chl belowL nextL Qbf; simp [gU,Qbg]
  rw [this]; exact .nil
 | snoc h1 h2 ih =>
  rename_i l o
  have hf:=h2.fresh h1
  have hpos:=opOk_pos h2.ok
  have hob : old o bgE:=by unfold old bgE; simp only; omega
  have g:=walk_append (walk_head h1 h2 bgE) (walk_more h1 h2 ih (fun y hy => chl_old hf hy))
  rw [<- chl_app l o bgE hob] at g
  rw [ordL_app]
  unfold insO
  by_cases hb : Qaq o.f3 = true
  ·have hb':=(isBegin_iff _).1 hb
   rw [if_pos hb]
   rw [if_pos (by rw [hb']),ins1_begin h1 hb'] at g
   exact g
  ·rw [if_neg hb]
   rw [if_neg (fun e => hb ((isBegin_iff _).2 (key3_inj e).symm))] at g
   exact g
theorem Qcf (o : SOp) : (Qan o).length = Qaj o:=by simp [Qan]
theorem chain_nodup (o : SOp) : (Qan o).Nodup:=by
 unfold Qan List.Nodup
 rw [List.pairwise_map]
 refine List.Pairwise.imp ?_ List.nodup_range
 intro a b h e
 injection e with _ _ e
 omega
theorem chain_name {o : SOp} {e : SElem} (h : e ∈ Qan o) : o.f0 = e.f0 /\ o.f1 = e.f1:=by
 unfold Qan at h
 obtain ⟨j,_,rfl⟩:=List.mem_map.1 h
 exact ⟨rfl,rfl⟩
theorem insO_form {l : List SOp} {o : SOp} (h : RowOk l) (h2 : NextOk l o) (hnd : (ordL l).Nodup) :
  (Qaq o.f3 = true /\ ordL (l ++ [o]) = Qan o ++ ordL l) \/ (Qaq o.f3 = false /\ ∃ A B,ordL l = A ++ o.f3 :: B /\ o.f3 ∉ A /\ o.f3 ∉ B /\ ordL (l ++ [o]) = A ++ o.f3 :: (Qan o ++ B)):=by
 rw [ordL_app]
 unfold insO
 cases hb : Qaq o.f3
 ·refine .inr ⟨rfl, ?_⟩
  have hm : o.f3 ∈ ordL l:=by
   rcases h2.after with h' | ⟨h0,p,hp,k0,k1,k2⟩
   ·rw [hb] at h'; cases h'
   ·exact (Qcm h _).2 ⟨p,hp,k0,k1,h0,k2⟩
  obtain ⟨A,B,e⟩:=List.append_of_mem hm
  rw [e] at hnd
  have hA : o.f3 ∉ A:=by
   intro hA
   exact (List.nodup_append.1 hnd).2.2 _ hA _ List.mem_cons_self rfl
  have hB : o.f3 ∉ B:=(List.nodup_cons.1 (List.nodup_append.1 hnd).2.1).1
  refine ⟨A,B,e,hA,hB, ?_⟩
  have stay : ∀ x : List SElem,o.f3 ∉ x -> (x.flatMap fun e => if key3 e = key3 o.f3 then e :: Qan o else [e]) = x:=by
   intro x
   induction x with
   | nil => intro _; rfl
   | cons y x ih =>
    intro hx
    rw [List.mem_cons,not_or] at hx
    rw [List.flatMap_cons,ih hx.2,if_neg (fun e => hx.1 (key3_inj e).symm)]
    rfl
  rw [e]
  simp only [Bool.false_eq_true,if_false]
  rw [List.flatMap_append,List.flatMap_cons,stay A hA,stay B hB,if_pos rfl]
  simp
 ·exact .inl ⟨rfl,by simp⟩
theorem Qda {l : List SOp} (h : RowOk l) : (ordL l).Nodup /\ (ordL l).length = total l:=by
 induction h with
 | nil => exact ⟨List.nodup_nil,rfl⟩
 | snoc h1 h2 ih =>
  rename_i l o
  have hf:=h2.fresh h1
  have hno : ∀ e ∈ ordL l,e ∉ Qan o:=by
   intro e he hc
   obtain ⟨p,hp,e0,e1,_⟩:=(Qcm h1 e).1 he
   obtain ⟨g0,g1⟩:=chain_name hc
   exact hf p hp ⟨by omega,by omega⟩
  rw [total_app]
  rcases insO_form h1 h2 ih.1 with ⟨_,e⟩ | ⟨_,A,B,e1,hA,hB,e⟩
  ·rw [e]
   refine ⟨List.nodup_append.2 ⟨chain_nodup o,ih.1, ?_⟩,by rw [List.length_append,Qcf,ih.2]; omega⟩
   rintro a ha b hb rfl
   exact hno a hb ha
  ·rw [e]
   have hnd:=ih.1
   rw [e1] at hnd
   have hl:=ih.2
   rw [e1] at hl
   have ha:=List.nodup_append.1 hnd
   have hb:=List.nodup_cons.1 ha.2.1
   constructor
   ·refine List.nodup_append.2 ⟨ha.1,List.nodup_cons.2 ⟨?_,List.nodup_append.2 ⟨chain_nodup o,hb.2, ?_⟩⟩, ?_⟩
    ·intro hm
     rcases List.mem_append.1 hm with hm | hm
     ·exact hno o.f3 (by rw [e1]; simp) hm
     ·exact hb.1 hm
    ·rintro a ha b hb rfl
     exact hno a (by rw [e1]; simp [hb]) ha
    ·rintro a haA b hb' rfl
     rcases List.mem_cons.1 hb' with rfl | hb'
     ·exact hA haA
     ·rcases List.mem_append.1 hb' with hc | hB'
      ·exact hno a (by rw [e1]; simp [haA]) hc
      ·exact ha.2.2 a haA a (List.mem_cons_of_mem _ hB') rfl
   ·simp only [List.length_append,List.length_cons,Qcf] at hl ⊢
    omega
def clr (U : K3 -> List Int) (L : List SElem) : K3 -> List Int:=fun y => if y ∈ L.map key3 then [] else U y
theorem clr_nil (U : K3 -> List Int) : clr U [] = U:=by funext y; simp [clr]
theorem clr_clr (U : K3 -> List Int) (L M : List SElem) : clr (clr U L) M = clr U (L ++ M):=by
 funext y
 unfold clr
 rw [List.map_append]
 by_cases h : y ∈ M.map key3
 ·rw [if_pos h,if_pos (List.mem_append_right _ h)]
 ·rw [if_neg h]
  by_cases h2 : y ∈ L.map key3
  ·rw [if_pos h2,if_pos (List.mem_append_left _ h2)]
  ·rw [if_neg h2,if_neg (by rw [List.mem_append]; exact fun h' => h'.elim h2 h)]
theorem clr_one (U : K3 -> List Int) (e : SElem) : updU U (key3 e) [] = clr U [e]:=by
 funext y; simp [clr,updU]
theorem clr_out {U : K3 -> List Int} {L : List SElem} {e : SElem} (h : e ∉ L) : clr U L (key3 e) = U (key3 e):=by
 unfold clr
 rw [if_neg]
 intro hm
 obtain ⟨x,hx,he⟩:=List.mem_map.1 hm
 exact h (key3_inj he ▸ hx)
theorem walkF_of (l : List SOp) {xs L : List SElem} (h : WalkL (chl l) xs L) : ∀ (k : Nat) (U : K3 -> List Int) (all : List SElem),L.length <= k -> L.Nodup -> (∀ e ∈ L,U (key3 e) = gU l l.length (key3 e)) -> all.length + L.length <= 900000 -> xs.foldlM (stepF l k) (U,all) = some (clr U L,all ++ L):=by
 induction h with
 | nil => intro k U all _ _ _ _; simp [clr_nil]
 | cons h1 h2 ih1 ih2 =>
  rename_i x xs L1 L2
  intro k U all hk hnd hU hlen
  have hnx:=List.nodup_cons.1 hnd
  have hna:=List.nodup_append.1 hnx.2
  simp only [List.length_cons,List.length_append] at hk hlen
  obtain ⟨k',rfl⟩ : ∃ k',k = k' + 1:=⟨k - 1,by omega⟩
  rw [List.foldlM_cons]
  have hx : x ∉ L1 /\ x ∉ L2:=by
   have:=hnx.1; rw [List.mem_append,not_or] at this; exact this
  have s1 : stepF l (k' + 1) (U,all) x = some (clr U (x :: L1),all ++ (x :: L1)):=by
   unfold stepF
   simp only
   rw [if_pos (by omega),walkF_succ,hU x List.mem_cons_self,clr_one]
   have:=ih1 k' (clr U [x]) (all ++ [x]) (by omega) hna.1 (fun e he => by
    rw [clr_out (by rw [List.mem_singleton]; rintro rfl; exact hx.1 he)]
    exact hU e (List.mem_cons_of_mem _ (List.mem_append_left _ he))) (by simp; omega)
   unfold chl at this
   rw [this,clr_clr]
   simp
  rw [s1]
  simp only [Option.bind_eq_bind,Option.bind_some]
  have:=ih2 (k' + 1) (clr U (x :: L1)) (all ++ (x :: L1)) (by omega) hna.2.1 (fun e he => by
    rw [clr_out]
    ·exact hU e (List.mem_cons_of_mem _ (List.mem_append_right _ he))
    ·intro hm
     rcases List.mem_cons.1 hm with rfl | hm
     ·exact hx.2 he
     ·exact hna.2.2 e hm e he rfl) (by simp; omega)
  rw [this,clr_clr]
  simp
theorem smalls_ok {l : List SOp} (hs : smalls l = true) (h : RowOk l) : okRow l = true:=by
 unfold okRow
 simp only [Bool.and_eq_true,decide_eq_true_eq,List.all_eq_true]
 exact ⟨⟨hs,h.sums.1⟩,h.oks⟩
theorem tree_All_f {l : List SOp} (hs : smalls l = true) (h : RowOk l) : tree_All.f l = some (ordL l):=by
 unfold tree_All.f
 rw [if_pos (smalls_ok hs h)]
 have hnd:=Qda h
 have hsum:=h.sums
 have hw:=ordL_walk h
 show (walkF l (999 + 1) (gU l l.length) [] bgE).map (·.2) = _
 rw [walkF_succ,clr_one]
 have:=walkF_of l hw 999 (clr (gU l l.length) [bgE]) [] (by omega) hnd.1 (fun e he => by
  rw [clr_out]
  rw [List.mem_singleton]; rintro rfl
  have:=ordL_pos h he; simp [bgE] at this) (by simp; omega)
 unfold chl at this
 rw [this]
 simp
end
section
theorem Qdn {l : List SOp} (h : RowOk l) (n : Nat) (hn : n < l.length) : NextOk (l.take n) l[n] /\ RowOk (l.take n):=by
 have h1:=h.take (n + 1)
 rw [List.take_succ_eq_append_getElem hn] at h1
 exact ⟨h1.snoc_inv.2,h1.snoc_inv.1⟩
theorem chain_at {o : SOp} (k : Nat) (h : k < Qaj o) : (Qan o)[k]? = some ⟨o.f0,o.f1,(k : Int)⟩:=by
 unfold Qan; simp [h]
end
section
structure GoesR (l : List SOp) (o : SOp) : Prop where
 ok : opOk o = true
 seq : o.f1 = (Qbw l o.f0 : Int) + 1
 after : wr l o.f3
 gone : ∀ e ∈ o.f5,wr l e
 tog : o.f2 = 2 -> ∃ p ∈ l,p.f2 = 1 /\ p.f0 = o.f6 /\ p.f1 = o.f7
theorem total_take (l : List SOp) (n : Nat) : total (l.take n) <= total l:=by
 have h : total (l.take n) + total (l.drop n) = total l:=by
  unfold total; rw [<- List.sum_append,<- List.map_append,List.take_append_drop]
 omega
theorem RowOk_iff (l : List SOp) : RowOk l ↔ l.length <= 40 /\ total l <= 200 /\ ∀ i (h : i < l.length),GoesR (l.take i) l[i]:=by
 constructor
 ·intro h
  refine ⟨h.sums.1,h.sums.2,fun i hi => ?_⟩
  obtain ⟨a,b⟩:=Qdn h i hi
  exact ⟨a.ok,a.seq,a.after,a.gone,a.tog⟩
 ·rintro ⟨h1,h2,h3⟩
  have key : ∀ n,n <= l.length -> RowOk (l.take n):=by
   intro n
   induction n with
   | zero => intro _; simpa using RowOk.nil
   | succ n ih =>
    intro hn
    rw [List.take_succ_eq_append_getElem (by omega)]
    have g:=h3 n (by omega)
    refine .snoc (ih (by omega)) ⟨by rw [List.length_take]; omega,g.ok,g.seq,g.after,g.gone,g.tog, ?_⟩
    have:=total_take l (n + 1)
    rw [List.take_succ_eq_append_getElem (by omega),total_app] at this
    omega
  have:=key l.length (Nat.le_refl _)
  rwa [List.take_length] at this
theorem gU_eq (l : List SOp) (x : K3) : ∀ i,gU l i x = ((List.range i).reverse.filter (fun k : Nat => !(Qad l (k : Int)).f4.toList.isEmpty && decide (key3 (Qad l (k : Int)).f3 = x))).map (fun k : Nat => (k : Int))
 | 0 => rfl
 | i + 1 => by
  have ih:=gU_eq l x i
  unfold gU
  rw [List.range_succ,List.reverse_append,List.reverse_cons,List.reverse_nil,List.nil_append,List.singleton_append,List.filter_cons]
  cases hz : (Qad l (i : Int)).f4.toList.isEmpty
  ·simp only [Bool.false_eq_true,if_false,Bool.not_false,Bool.true_and,decide_eq_true_eq]
   unfold updU
   by_cases e : key3 (Qad l (i : Int)).f3 = x
   ·rw [if_pos e.symm,if_pos e,List.map_cons,e,ih]
   ·rw [if_neg (fun h => e h.symm),if_neg e,ih]
  ·simp only [if_true,Bool.not_true,Bool.false_and,Bool.false_eq_true,if_false]
   exact ih
def writtenB (l : List SOp) (e : SElem) : Bool:=decide (0 <= Qbf l e.f0 e.f1) && decide (0 <= e.f2) && decide (e.f2 < (Qaj (Qad l (Qbf l e.f0 e.f1)) : Int))
def underR (l : List SOp) (e : SElem) : List SElem :=
 ((List.range l.length).reverse.filter (fun k : Nat => !(Qad l (k : Int)).f4.toList.isEmpty && decide (key3 (Qad l (k : Int)).f3 = key3 e))).map (fun k : Nat => (⟨(Qad l (k : Int)).f0,(Qad l (k : Int)).f1,0⟩ : SElem)) ++
  (if Qaq e then [] else if writtenB l ⟨e.f0,e.f1,e.f2 + 1⟩ then [⟨e.f0,e.f1,e.f2 + 1⟩] else [])
theorem Qdd {l : List SOp} (h : RowOk l) {p : SOp} (hp : p ∈ l) : ∃ i,∃ hi : i < l.length,Qbf l p.f0 p.f1 = (i : Int) /\ l[i] = p:=by
 rcases Qbh l p.f0 p.f1 with ⟨i,hi,h0,h1,_,e⟩ | ⟨hn,_⟩
 ·refine ⟨i,hi,e, ?_⟩
  obtain ⟨j,hj,rfl⟩:=List.getElem_of_mem hp
  have uniq : ∀ a b (ha : a < l.length) (hb : b < l.length),a < b -> ¬ (l[a].f0 = l[b].f0 /\ l[a].f1 = l[b].f1):=by
   intro a b ha hb hab
   obtain ⟨g,g'⟩:=Qdn h b hb
   have:=g.fresh g' l[a] (List.mem_take_iff_getElem.2 ⟨a,by omega,rfl⟩)
   exact this
  rcases Nat.lt_trichotomy i j with hlt | rfl | hlt
  ·exact absurd ⟨h0,h1⟩ (uniq i j hi hj hlt)
  ·rfl
  ·exact absurd ⟨h0.symm,h1.symm⟩ (uniq j i hj hi hlt)
 ·exact absurd ⟨rfl,rfl⟩ (hn p hp)
theorem mem_written {l : List SOp} (h : RowOk l) (e : SElem) : writtenB l e = true ↔ e ∈ ordL l:=by
 rw [Qcm h]
 unfold writtenB
 simp only [Bool.and_eq_true,decide_eq_true_eq]
 constructor
 ·rintro ⟨⟨h0,h1⟩,h2⟩
  rcases Qbh l e.f0 e.f1 with ⟨i,hi,e0,e1,_,ef⟩ | ⟨_,ef⟩
  ·rw [ef,Qar _ _ hi] at h2
   exact ⟨l[i],List.getElem_mem hi,e0,e1,h1,h2⟩
  ·omega
 ·rintro ⟨p,hp,e0,e1,h1,h2⟩
  obtain ⟨i,hi,ef,ei⟩:=Qdd h hp
  rw [<- e0,<- e1,ef,Qar _ _ hi,ei]
  exact ⟨⟨by omega,h1⟩,h2⟩
theorem chl_under {l : List SOp} (h : RowOk l) {e : SElem} (he : e = bgE \/ e ∈ ordL l) : chl l e = underR l e:=by
 unfold chl belowL underR
 rw [gU_eq,List.map_map]
 congr 1
 unfold nextL
 rcases he with rfl | he
 ·rw [if_pos (show Qaq bgE = true from rfl),if_neg]
  rintro ⟨h0,_⟩
  rcases Qbh l bgE.f0 bgE.f1 with ⟨i,hi,e0,e1,_,ef⟩ | ⟨_,ef⟩
  ·have:=opOk_pos (h.oks _ (List.getElem_mem hi))
   simp only [bgE] at e0 e1; omega
  ·omega
 ·have hp:=ordL_pos h he
  obtain ⟨p,hp',e0,e1,h2,h3⟩:=(Qcm h e).1 he
  have hsz:=(Qcr (h.oks p hp')).1
  obtain ⟨i,hi,ef,ei⟩:=Qdd h hp'
  have hb : ¬ Qaq e = true:=by
   intro hb; have:=(isBegin_iff e).1 hb; rw [this] at hp; simp [bgE] at hp
  rw [if_neg hb]
  unfold writtenB
  simp only [<- e0,<- e1,ef,Qar _ _ hi,ei,Qak (show -9223372036854775808 <= e.f2 + 1 by omega) (show e.f2 + 1 <= 9223372036854775807 by omega),Bool.and_eq_true,decide_eq_true_eq]
  by_cases hlt : e.f2 + 1 < (Qaj p : Int)
  ·rw [if_pos ⟨by omega,hlt⟩,if_pos ⟨⟨by omega,by omega⟩,hlt⟩]
  ·rw [if_neg (fun h => hlt h.2),if_neg (fun h => hlt h.2)]
end
section
def cstep (l : List SOp) (n : List Int) (o : SOp) : List Int :=
 if o.f2 = 2 then (if o.f8 = n.getD (Qbf l o.f6 o.f7).toNat 0 then n.set (Qbf l o.f6 o.f7).toNat (n.getD (Qbf l o.f6 o.f7).toNat 0 + 1) else n) else n
def countsL (l : List SOp) : List Int:=l.foldl (cstep l) (List.replicate l.length 0)
def cntStep (s q : Int) (n : Int) (o : SOp) : Int:=if o.f2 = 2 /\ o.f6 = s /\ o.f7 = q /\ o.f8 = n then n + 1 else n
def cntR (l : List SOp) (s q : Int) : Int:=l.foldl (cntStep s q) 0
theorem cstep_length (l : List SOp) (n : List Int) (o : SOp) : (cstep l n o).length = n.length:=by
 unfold cstep; split
 ·split <;> simp
 ·rfl
theorem counts_length (l : List SOp) : (countsL l).length = l.length:=by
 have : ∀ (ms : List SOp) (n : List Int),(ms.foldl (cstep l) n).length = n.length:=by
  intro ms
  induction ms with
  | nil => intro n; rfl
  | cons o ms ih => intro n; rw [List.foldl_cons,ih,cstep_length]
 unfold countsL; rw [this]; simp
theorem name_inj {l : List SOp} (h : RowOk l) {i j : Nat} (hi : i < l.length) (hj : j < l.length) (h0 : l[i].f0 = l[j].f0) (h1 : l[i].f1 = l[j].f1) : i = j:=by
 obtain ⟨a,ha,e1,_⟩:=Qdd h (List.getElem_mem hi)
 obtain ⟨b,hb,e2,_⟩:=Qdd h (List.getElem_mem hj)
 have uniq : ∀ a b (ha : a < l.length) (hb : b < l.length),a < b -> ¬ (l[a].f0 = l[b].f0 /\ l[a].f1 = l[b].f1):=by
  intro a b ha hb hab
  obtain ⟨g,g'⟩:=Qdn h b hb
  exact g.fresh g' l[a] (List.mem_take_iff_getElem.2 ⟨a,by omega,rfl⟩)
 rcases Nat.lt_trichotomy i j with hlt | rfl | hlt
 ·exact absurd ⟨h0,h1⟩ (uniq i j hi hj hlt)
 ·rfl
 ·exact absurd ⟨h0.symm,h1.symm⟩ (uniq j i hj hi hlt)
theorem findOp_at {l : List SOp} (h : RowOk l) {i : Nat} (hi : i < l.length) : Qbf l l[i].f0 l[i].f1 = (i : Int):=by
 obtain ⟨a,ha,e1,e2⟩:=Qdd h (List.getElem_mem hi)
 rw [e1]
 have:=name_inj h ha hi (by rw [e2]) (by rw [e2])
 omega
theorem tog_found {l : List SOp} (h : RowOk l) {o : SOp} (ho : o ∈ l) (h2 : o.f2 = 2) : ∃ i,∃ hi : i < l.length,l[i].f2 = 1 /\ l[i].f0 = o.f6 /\ l[i].f1 = o.f7 /\ Qbf l o.f6 o.f7 = (i : Int):=by
 obtain ⟨j,hj,rfl⟩:=List.getElem_of_mem ho
 obtain ⟨a,_⟩:=Qdn h j hj
 obtain ⟨p,hp,k1,k2,k3⟩:=a.tog h2
 obtain ⟨i,hi,rfl⟩:=List.getElem_of_mem (List.mem_of_mem_take hp)
 refine ⟨i,hi,k1,k2,k3, ?_⟩
 rw [<- k2,<- k3,findOp_at h hi]
theorem counts_at {l : List SOp} (h : RowOk l) {i : Nat} (hi : i < l.length) : (countsL l).getD i 0 = cntR l l[i].f0 l[i].f1:=by
 have key : ∀ (ms : List SOp) (n : List Int),(∀ o ∈ ms,o ∈ l) -> n.length = l.length -> (ms.foldl (cstep l) n).getD i 0 = ms.foldl (cntStep l[i].f0 l[i].f1) (n.getD i 0):=by
  intro ms
  induction ms with
  | nil => intro n _ _; rfl
  | cons o ms ih =>
   intro n hm hn
   rw [List.foldl_cons,List.foldl_cons,ih _ (fun x hx => hm x (List.mem_cons_of_mem _ hx)) (by rw [cstep_length]; exact hn)]
   congr 1
   unfold cstep cntStep
   by_cases h2 : o.f2 = 2
   ·obtain ⟨j,hj,_,k2,k3,e⟩:=tog_found h (hm o List.mem_cons_self) h2
    rw [if_pos h2,e,Int.toNat_natCast]
    by_cases hij : j = i
    ·subst hij
     by_cases h8 : o.f8 = n.getD j 0
     ·rw [if_pos h8,if_pos ⟨h2,k2.symm,k3.symm,h8⟩]
      simp [List.getD_eq_getElem?_getD,List.getElem?_set,hn,hi]
     ·rw [if_neg h8,if_neg (fun hh => h8 hh.2.2.2)]
    ·have hne : ¬ (o.f2 = 2 /\ o.f6 = l[i].f0 /\ o.f7 = l[i].f1 /\ o.f8 = n.getD i 0):=fun hh => hij (name_inj h hj hi (by rw [k2,hh.2.1]) (by rw [k3,hh.2.2.1]))
     rw [if_neg hne]
     split
     ·simp [List.getD_eq_getElem?_getD,List.getElem?_set,hij]
     ·rfl
   ·rw [if_neg h2,if_neg (fun hh => h2 hh.1)]
 unfold countsL cntR
 rw [key l _ (fun _ h => h) (by simp)]
 congr 1
 simp [List.getD_eq_getElem?_getD,hi]
def Qbo (l : List SOp) (o : SOp) : Bool:=o.f2 == 1 && cntR l o.f0 o.f1 % 2 == 0
def goneE (l : List SOp) (e : SElem) : Bool:=l.any fun o => Qbo l o && decide (e ∈ o.f5)
def thereE (l : List SOp) (e : SElem) : Bool:=l.any fun o => Qbo l o && decide (e ∈ Qan o)
def Qau (l : List SOp) : List SElem:=(ordL l).filter fun e => !(goneE l e || !thereE l e)
theorem mem_chain (o : SOp) (e : SElem) : e ∈ Qan o ↔ o.f0 = e.f0 /\ o.f1 = e.f1 /\ 0 <= e.f2 /\ e.f2 < (Qaj o : Int):=by
 unfold Qan
 rw [List.mem_map]
 constructor
 ·rintro ⟨j,hj,rfl⟩; rw [List.mem_range] at hj; exact ⟨rfl,rfl,by simp only; omega,by simp only; omega⟩
 ·rintro ⟨a,b,c,d⟩
  exact ⟨e.f2.toNat,List.mem_range.2 (by omega),SElem.ext3 a b (by simp only; omega)⟩
theorem elem_op {l : List SOp} (h : RowOk l) {e : SElem} (he : e ∈ ordL l) : ∃ i,∃ hi : i < l.length,Qbf l e.f0 e.f1 = (i : Int) /\ e ∈ Qan l[i] /\ ∀ j (hj : j < l.length),e ∈ Qan l[j] -> j = i:=by
 obtain ⟨p,hp,e0,e1,h2,h3⟩:=(Qcm h e).1 he
 obtain ⟨i,hi,ef,rfl⟩:=Qdd h hp
 rw [e0,e1] at ef
 refine ⟨i,hi,ef,(mem_chain _ _).2 ⟨e0,e1,h2,h3⟩,fun j hj hj' => ?_⟩
 have:=(mem_chain _ _).1 hj'
 exact name_inj h hj hi (by omega) (by omega)
theorem there_iff {l : List SOp} (h : RowOk l) {e : SElem} (he : e ∈ ordL l) : thereE l e = Qbo l (Qad l (Qbf l e.f0 e.f1)):=by
 obtain ⟨i,hi,ef,hc,hu⟩:=elem_op h he
 rw [ef,Qar _ _ hi]
 unfold thereE
 rw [Bool.eq_iff_iff,List.any_eq_true]
 constructor
 ·rintro ⟨o,ho,hw⟩
  simp only [Bool.and_eq_true,decide_eq_true_eq] at hw
  obtain ⟨j,hj,rfl⟩:=List.getElem_of_mem ho
  have:=hu j hj hw.2
  subst this
  exact hw.1
 ·intro hw
  exact ⟨l[i],List.getElem_mem hi,by simp [hw,hc]⟩
def visR (l : List SOp) : List SElem:=(ordL l).filter fun e => Qbo l (Qad l (Qbf l e.f0 e.f1)) && l.all fun o => !Qbo l o || !decide (e ∈ o.f5)
theorem seen_vis {l : List SOp} (h : RowOk l) : Qau l = visR l:=by
 unfold Qau visR
 refine List.filter_congr fun e he => ?_
 rw [there_iff h he]
 unfold goneE
 rw [Bool.not_or,Bool.not_not,List.not_any_eq_all_not,Bool.and_comm]
 congr 2
 funext o
 rw [Bool.not_and]
theorem seen_nodup {l : List SOp} (h : RowOk l) : (Qau l).Nodup:=(Qda h).1.filter _
theorem seen_mem {l : List SOp} {e : SElem} : e ∈ Qau l ↔ e ∈ ordL l /\ goneE l e = false /\ thereE l e = true:=by
 unfold Qau
 rw [List.mem_filter]
 cases goneE l e <;> cases thereE l e <;> simp
end
section
structure GoodAsk (l0 : List (List SOp)) (l1 : List SElem) (l2 : List SOp) (l3 : List Int) : Prop where
 n0 : l0.length <= 140737488351232
 r0 : ∀ x ∈ l0,x.length <= 140737488351232 /\ ∀ o ∈ x,o.f4.size <= 140737488351232 /\ o.f5.length <= 140737488351232
 n1 : l1.length <= 140737488351232
 n2 : l2.length <= 140737488351232
 r2 : ∀ o ∈ l2,o.f4.size <= 140737488351232 /\ o.f5.length <= 140737488351232
 n3 : l3.length <= 140737488351232
theorem Qdm {i n : Nat} (h : i < n) (hn : n <= 4611686018427387904) : wrap64 ((i : Int) + 1) = ((i + 1 : Nat) : Int):=by
 rw [Qak (by omega) (by omega)]; omega
theorem good_smalls {l : List SOp} (h : l.length <= 140737488351232 /\ ∀ o ∈ l,o.f4.size <= 140737488351232 /\ o.f5.length <= 140737488351232) : smalls l = true:=by
 unfold smalls SmB
 simp only [Bool.and_eq_true,decide_eq_true_eq,List.all_eq_true]
 exact ⟨by omega,fun o ho => by have:=h.2 o ho; omega⟩
theorem tree_May_f {l : List SOp} (h : smalls l = true) : tree_May.f l = some (mayB l):=by unfold tree_May.f; rw [if_pos h]
end
section
theorem bytes1 {n B : Nat} (hB : 1 <= B) (h : n * B <= reachBytes) : n <= 140737488351232:=Nat.le_trans (Nat.le_mul_of_pos_right n hB) h
theorem GoodOp.le {o : SOp} (h : GoodOp o) : o.f4.size <= 140737488351232 /\ o.f5.length <= 140737488351232:=⟨h.1,bytes1 (of_decide_eq_true (by kernel_rfl)) h.2⟩
theorem GoodAsk.of {l0 : List (List SOp)} {l1 : List SElem} {l2 : List SOp} {l3 : List Int}
  (h0 : l0.length * Tryz.prog.bytesOf 24 <= reachBytes /\ ∀ x ∈ l0,x.length * Tryz.prog.bytesOf 34 <= reachBytes /\ ∀ o ∈ x,GoodOp o)
  (h1 : l1.length * Tryz.prog.bytesOf 32 <= reachBytes /\ ∀ x ∈ l1,(Lit.int .i64 x.f0).wf = true /\ (Lit.int .i64 x.f1).wf = true /\ (Lit.int .i64 x.f2).wf = true)
  (h2 : l2.length * Tryz.prog.bytesOf 34 <= reachBytes /\ ∀ x ∈ l2,GoodOp x) (h3 : l3.length * Tryz.prog.bytesOf 3 <= reachBytes /\ ∀ x ∈ l3,(Lit.int .i64 x).wf = true) : GoodAsk l0 l1 l2 l3 :=
 ⟨bytes1 (of_decide_eq_true (by kernel_rfl)) h0.1,fun x hx => ⟨bytes1 (of_decide_eq_true (by kernel_rfl)) (h0.2 x hx).1,fun o ho => ((h0.2 x hx).2 o ho).le⟩,bytes1 (of_decide_eq_true (by kernel_rfl)) h1.1,bytes1 (of_decide_eq_true (by kernel_rfl)) h2.1,fun o ho => (h2.2 o ho).le,bytes1 (of_decide_eq_true (by kernel_rfl)) h3.1⟩
theorem agg_of_cells {v : Value} {a b : Value} {l : List Value} (h : v.cells.toList = a :: b :: l) : v = .agg (a :: b :: l).toArray:=by
 cases v <;> simp [Value.cells] at h
 rw [<- h]
theorem opens_Ask (H : Type) : ∀ (enc : TypeId × Value -> H) (W : World) (base : Nat) (sp : Nat -> Bool) (held : Bool) (fuel : Nat) (cs : List Value) (x : DataW H × List MemPlace),DataW.trod enc Tryz.prog W base sp held fuel 27 cs = some x -> lightW Tryz.prog 27 x.1 ->
  ∃ A0 c0 l0 A1 c1 l1 A2 c2 l2 A3 c3 l3,cs = [.slice A0 l0.length c0, .slice A1 l1.length c1, .slice A2 l2.length c2, .slice A3 l3.length c3] /\ Kd.C (Kd.slice 34 kOp) W A0 l0.length l0 /\ l0.length <= c0 /\ Kd.C Qap W A1 l1.length l1 /\ l1.length <= c1 /\ Kd.C kOp W A2 l2.length l2 /\ l2.length <= c2 /\ Kd.C (Kd.int .i64) W A3 l3.length l3 /\ l3.length <= c3 /\ GoodAsk l0 l1 l2 l3:=by
 intro enc W base sp held fuel cs x h hl
 have hS:=Qdk.struct (H:=H) Tryz.underlying27 (by kernel_rfl)
  (Qdg.cons (opens_LOps H) (by kernel_rfl) rfl rfl (Qdg.cons (opens_Elems H) (by kernel_rfl) rfl rfl (Qdg.cons (opens_Ops H) (by kernel_rfl) rfl rfl (Qdg.last (opens_Ints H) (by kernel_rfl) rfl rfl))))
 obtain ⟨⟨l0,l1,l2,l3⟩,hp,hg⟩:=hS enc W base sp held fuel cs x h hl
 obtain ⟨_,_,rfl,⟨A0,c0,rfl,h0,g0⟩,⟨_,_,rfl,⟨A1,c1,rfl,h1,g1⟩,⟨_,_,rfl,⟨A2,c2,rfl,h2,g2⟩,⟨A3,c3,rfl,h3,g3⟩⟩⟩⟩:=hp
 exact ⟨A0,c0,l0,A1,c1,l1,A2,c2,l2,A3,c3,l3,rfl,g0,h0,g1,h1,g2,h2,g3,h3,GoodAsk.of hg.1 hg.2.1 hg.2.2.1 hg.2.2.2⟩
end
end Go.Proofs.YtlllghajjamdpaaGreatDoor.L
end

section
namespace Go.Proofs
open Go.Shelf
def Tryz.lays197_ren : Go.Shelf.Ren:=⟨fun | 197 => 57 | 260 => 90 | n => n,fun | 9 => 9 | 21 => 21 | 3 => 3 | 4 => 4 | 5 => 5 | 105 => 87 | 119 => 143 | 0 => 0 | 46 => 90 | 139 => 146 | 138 => 145 | n => n,fun | 3 => 0 | 4 => 1 | n => n⟩
theorem Tryz.lays197 : Go.Proofs.Lays.n197 Tryz.prog Tryz.lays197_ren:={
 mixed:=by kernel_rfl
 f197:=Tryz.func57.trans (congrArg some (by kernel_rfl))
 f260:=Tryz.func90.trans (congrArg some (by kernel_rfl))
 t0:=Tryz.underlying0
 a0:=Tryz.isAgg0
 z0:=Tryz.sizeOf0
 v0:=Tryz.zeroValue0
 t3:=Tryz.underlying3
 a3:=Tryz.isAgg3
 z3:=Tryz.sizeOf3
 v3:=Tryz.zeroValue3
 t4:=Tryz.underlying4
 a4:=Tryz.isAgg4
 z4:=Tryz.sizeOf4
 v4:=Tryz.zeroValue4
 t5:=Tryz.underlying5
 a5:=Tryz.isAgg5
 z5:=Tryz.sizeOf5
 v5:=Tryz.zeroValue5
 t9:=Tryz.underlying9
 a9:=Tryz.isAgg9
 z9:=Tryz.sizeOf9
 v9:=Tryz.zeroValue9
 t21:=Tryz.underlying21
 a21:=Tryz.isAgg21
 z21:=Tryz.sizeOf21
 v21:=Tryz.zeroValue21
 t46:=Tryz.underlying90
 a46:=Tryz.isAgg90
 z46:=Tryz.sizeOf90
 v46:=Tryz.zeroValue90
 t105:=Tryz.underlying87
 a105:=Tryz.isAgg87
 z105:=Tryz.sizeOf87
 v105:=Tryz.zeroValue87
 t119:=Tryz.underlying143
 a119:=Tryz.isAgg143
 z119:=Tryz.sizeOf143
 t138:=Tryz.underlying145
 a138:=Tryz.isAgg145
 z138:=Tryz.sizeOf145
 v138:=Tryz.zeroValue145
 t139:=Tryz.underlying146
 a139:=Tryz.isAgg146
 z139:=Tryz.sizeOf146
 v139:=Tryz.zeroValue146
 g3:=by kernel_rfl
 g4:=by kernel_rfl }
def Tryz.lays260_ren : Go.Shelf.Ren:=⟨fun | 260 => 90 | n => n,fun | 9 => 9 | 21 => 21 | 3 => 3 | 4 => 4 | 5 => 5 | 119 => 143 | 0 => 0 | 46 => 90 | 139 => 146 | 138 => 145 | n => n,fun | 3 => 0 | 4 => 1 | n => n⟩
theorem Tryz.lays260 : Go.Proofs.Lays.n260 Tryz.prog Tryz.lays260_ren:={
 mixed:=by kernel_rfl
 f260:=Tryz.func90.trans (congrArg some (by kernel_rfl))
 t0:=Tryz.underlying0
 a0:=Tryz.isAgg0
 z0:=Tryz.sizeOf0
 v0:=Tryz.zeroValue0
 t3:=Tryz.underlying3
 a3:=Tryz.isAgg3
 z3:=Tryz.sizeOf3
 v3:=Tryz.zeroValue3
 t4:=Tryz.underlying4
 a4:=Tryz.isAgg4
 z4:=Tryz.sizeOf4
 v4:=Tryz.zeroValue4
 t5:=Tryz.underlying5
 a5:=Tryz.isAgg5
 z5:=Tryz.sizeOf5
 v5:=Tryz.zeroValue5
 t9:=Tryz.underlying9
 a9:=Tryz.isAgg9
 z9:=Tryz.sizeOf9
 v9:=Tryz.zeroValue9
 t21:=Tryz.underlying21
 a21:=Tryz.isAgg21
 z21:=Tryz.sizeOf21
 v21:=Tryz.zeroValue21
 t46:=Tryz.underlying90
 a46:=Tryz.isAgg90
 z46:=Tryz.sizeOf90
 v46:=Tryz.zeroValue90
 t119:=Tryz.underlying143
 a119:=Tryz.isAgg143
 z119:=Tryz.sizeOf143
 t138:=Tryz.underlying145
 a138:=Tryz.isAgg145
 z138:=Tryz.sizeOf145
 v138:=Tryz.zeroValue145
 t139:=Tryz.underlying146
 a139:=Tryz.isAgg146
 z139:=Tryz.sizeOf146
 v139:=Tryz.zeroValue146
 g3:=by kernel_rfl
 g4:=by kernel_rfl }
end Go.Proofs
namespace Go.Proofs.YtlllghajjamdpaaGreatDoor.L
open Go.RowKit Go.Proofs.YtlllghajjamdpaaGreatDoorW.PrintWords
def utf8_DecodeRuneInString.f (a0 : ByteArray) : Option (Int × Int):=some (((Lib.decodeGo a0).1 : Int),((Lib.decodeGo a0).2 : Int))
theorem utf8_DecodeRuneInString.calls (a0 : ByteArray) (r1 : Int) (r2 : Int) (w : World) (hT : GT w) (h : utf8_DecodeRuneInString.f a0 = some (r1,r2)) :
  Calls Tryz.prog 57 #[.string a0] w fun e w' => e = .returned (.tuple #[.int .i32 r1, .int .i64 r2]) /\ Below w.heap.size w w':=by
 unfold utf8_DecodeRuneInString.f at h
 injection h with h
 injection h with h1 h2
 subst h1 h2
 exact Any.utf8_DecodeRuneInString Tryz.lays197 a0 w hT
end Go.Proofs.YtlllghajjamdpaaGreatDoor.L
end

section
namespace Go.Proofs.YtlllghajjamdpaaGreatDoor.door
open Go.Shelf Go.ChangeShapes Go.WideShapes Go.ChangeAt Go.RowKit Go.Lib Go.Proofs.YtlllghajjamdpaaGreatDoor.L Go.Proofs.YtlllghajjamdpaaGreatDoorW.PrintWords
set_option linter.unusedVariables false
set_option linter.unusedSimpArgs false
set_option maxHeartbeats 40000000
set_option maxRecDepth 1000000
section
theorem own : ownKnob Tryz.prog.godebug = none:=by kernel_rfl
theorem laidOut : laidOutB Tryz.prog = true:=by kernel_rfl
abbrev laid2 : List (String × DataW Unit) := [("unicode/utf8.acceptRanges", Rows.laid_unicode_utf8_acceptRanges), ("unicode/utf8.first", Rows.laid_unicode_utf8_first)]
theorem accept_eq : (Rows.laid_unicode_utf8_acceptRanges : DataW Unit) = Lib.acceptData:=by kernel_rfl
theorem first_eq : Rows.laid_unicode_utf8_first = Lib.firstData:=by kernel_rfl
theorem gt_of {W : World} (hL : laidMetH Tryz.prog laid2 W) : GT W:=by
 have h1:=Lib.laidMet.reads hL (.head _)
 have h2:=Lib.laidMet.reads hL (.tail _ (.head _))
 rw [accept_eq] at h1
 rw [first_eq] at h2
 exact utf8Tabs_of_reads Tryz.lays260 ⟨by kernel_rfl,by kernel_rfl,by kernel_rfl,by kernel_rfl,by kernel_rfl,by kernel_rfl,by kernel_rfl⟩ h2 h1
noncomputable def laidWorld (os : Os) : World :=
 let w0:=World.holding Tryz.prog os ⟨#[],#[],[]⟩
 let put (h : Array Obj) (g : Nat) (cs : Array Value) : Array Obj:=h.modify g fun
  | .cells _ t frozen => .cells cs t frozen
  | o => o
 let h1:=put w0.heap 0 (Lib.firstTab.map fun z => Value.int .u8 z).toArray
 let h2:=put h1 1 ((List.range 16).flatMap fun i => [Value.int .u8 (Lib.accLo i),Value.int .u8 (Lib.accHi i)]).toArray
 { w0 with heap:=h2 }
theorem laid_met (os : Os) (args : Array Value) : laidMet Tryz.prog laid2 ((laidWorld os).forCall (fun _ _ => 0) ⟨#[],args,[]⟩).memory :=
 (LaidIn.of_run (l:=laid2) [1,0] 8 (by kernel_rfl) (by kernel_rfl) (by kernel_rfl) (by kernel_rfl)).met
end
end Go.Proofs.YtlllghajjamdpaaGreatDoor.door
end

section
namespace Go.Proofs.YtlllghajjamdpaaGreatDoor.L
open Go.RowKit Go.Proofs.YtlllghajjamdpaaGreatDoorW.PrintWords Go.Proofs.YtlllghajjamdpaaGreatDoorW.PrintLast Go.Proofs.YtlllghajjamdpaaGreatDoorW.PrintMore
set_option linter.unusedVariables false
set_option linter.unusedSimpArgs false
set_option maxHeartbeats 40000000
set_option maxRecDepth 1000000
section
attribute [local go_sem] Qbm Qbk Qbu Qbt Qbc Qbb Qbl Qbj
def r4_Many.l0 : Nat -> List (SOp) -> Int -> Int -> Int -> Option (Int)
 | 0,_,_,_,_ => none
 | k + 1,x0,x1,x5,x6 => if x6 < (x0.length : Int) then (if 0 <= x6 then (if ((Qad x0 x6).f0) = x1 then (r4_Many.l0 k x0 x1 (wrap64 (x5 + 1)) (wrap64 (x6 + 1))) else (r4_Many.l0 k x0 x1 x5 (wrap64 (x6 + 1)))) else (none)) else (some x5)
def r4_Many.f (k : Nat) (l0 : List (SOp)) (a1 : Int) : Option (Int):=r4_Many.l0 k l0 a1 0 0
theorem r4_Many.calls (k : Nat) (A0 : Option Addr) (c0 : Nat) (l0 : List (SOp)) (a1 : Int) (r : Int) (w : World) (hr0 : Kd.C kOp w A0 l0.length l0) (hc0 : l0.length <= c0) (h : r4_Many.f k l0 a1 = some r) :
  Calls Tryz.prog 61 #[.slice A0 l0.length c0, .int .i64 a1] w fun e w' => e = .returned (.int .i64 r) /\ Drawn0 w w':=by
 have HR0:=Zz.k hr0
 have HC0:=Zz.k hc0
 clear hr0 hc0
 unfold r4_Many.f at h; have H:=h
 clear h
 have H':=Zz.k H
 clear H
 go_enter Tryz.func61,Tryz.ntmps61
 go_wp2
 go_loopg [5,6] k (fun kq v5 v6 w' => ∃ (x5_1 : Int) (x6_1 : Int),v5 = .int .i64 x5_1 /\ v6 = .int .i64 x6_1 /\ Zz (r4_Many.l0 kq l0 a1 x5_1 x6_1 = some r) /\ Zz (kq <= k) /\ Drawn0 w w')
 case atStart => exact ⟨(0),(0),rf,rf,H',⟨Nat.le_refl _⟩,by repeat (first | exact Drawn0.refl _ | apply Drawn0.step)⟩
 case round =>
  clear H'
  obtain ⟨x5_1,x6_1,rfl,rfl,HA,HK1,⟨m1,rfl⟩⟩:=hrel
  cases gk with
  | zero => exact absurd HA.out (by simp [r4_Many.l0])
  | succ k1 =>
   have H:=HA.out
   clear HA
   simp only [r4_Many.l0] at H
   by_cases c3 : x6_1 < (l0.length : Int); rotate_left
   ·rw [if_neg c3] at H
    have c3b0:=Ze c3
    clear c3
    obtain rfl:=Zo H
    go_wp2
    go_ret
    exact ⟨rf,by repeat (first | exact Drawn0.refl _ | apply Drawn0.step)⟩
   rw [if_pos c3] at H
   have c3b0:=Zd c3
   clear c3
   by_cases c4 : 0 <= x6_1; rotate_left
   ·rw [if_neg c4] at H
    exact absurd H (by simp)
   rw [if_pos c4] at H
   have c4b0:=Zd c4
   clear c4
   by_cases c5 : ((Qad l0 x6_1).f0) = a1
   ·rw [if_pos c5] at H
    obtain ⟨c5b0,c5b1⟩:=bT c5
    clear c5
    have H':=Zz.k H
    clear H
    have p160 : 0 <= (x6_1 : Int):=od
    have q160 : x6_1 < (l0.length : Int):=od
    obtain ⟨ad160,A160_7,c160_7,e160,hx160_0,hx160_1,hx160_2,hx160_3,hx160_4,hx160_5,hx160_6,hx160_7,hx160_8,hx160_9,hx160_10,hl160_7,hi160_7⟩:=Qcg HR0.out x6_1 p160 q160
    cases e160
    have HR160_7:=Zz.k hi160_7
    have HC160_7:=Zz.k hl160_7
    clear hi160_7 hl160_7
    replace p160:=eq_true p160
    replace q160:=eq_true q160
    go_wp2
    go_roundg k1
    case measure => have:=HK1.out; omega
    case rel => exact ⟨(wrap64 (x5_1 + 1)),(wrap64 (x6_1 + 1)),rf,rf,H',⟨by have:=HK1.out; omega⟩,by repeat (first | exact Drawn0.refl _ | apply Drawn0.step)⟩
   rw [if_neg c5] at H
   obtain ⟨c5b0,c5b1⟩:=bF c5
   have H':=Zz.k H
   clear H
   have p160 : 0 <= (x6_1 : Int):=od
   have q160 : x6_1 < (l0.length : Int):=od
   obtain ⟨ad160,A160_7,c160_7,e160,hx160_0,hx160_1,hx160_2,hx160_3,hx160_4,hx160_5,hx160_6,hx160_7,hx160_8,hx160_9,hx160_10,hl160_7,hi160_7⟩:=Qcg HR0.out x6_1 p160 q160
   cases e160
   have HR160_7:=Zz.k hi160_7
   have HC160_7:=Zz.k hl160_7
   clear hi160_7 hl160_7
   replace p160:=eq_true p160
   replace q160:=eq_true q160
   go_wp2
   go_roundg k1
   case measure => have:=HK1.out; omega
   case rel => exact ⟨(x5_1),(wrap64 (x6_1 + 1)),rf,rf,H',⟨by have:=HK1.out; omega⟩,by repeat (first | exact Drawn0.refl _ | apply Drawn0.step)⟩
def r4_Find.l0 : Nat -> List (SOp) -> Int -> Int -> Int -> Option (Int)
 | 0,_,_,_,_ => none
 | k + 1,x0,x1,x2,x7 => if x7 < (x0.length : Int) then (if 0 <= x7 then (if ((Qad x0 x7).f0) = x1 then (if ((Qad x0 x7).f1) = x2 then (some x7) else (r4_Find.l0 k x0 x1 x2 (wrap64 (x7 + 1)))) else (r4_Find.l0 k x0 x1 x2 (wrap64 (x7 + 1)))) else (none)) else (some (-1))
def r4_Find.f (k : Nat) (l0 : List (SOp)) (a1 : Int) (a2 : Int) : Option (Int):=r4_Find.l0 k l0 a1 a2 0
theorem r4_Find.calls (k : Nat) (A0 : Option Addr) (c0 : Nat) (l0 : List (SOp)) (a1 : Int) (a2 : Int) (r : Int) (w : World) (hr0 : Kd.C kOp w A0 l0.length l0) (hc0 : l0.length <= c0) (h : r4_Find.f k l0 a1 a2 = some r) :
  Calls Tryz.prog 43 #[.slice A0 l0.length c0, .int .i64 a1, .int .i64 a2] w fun e w' => e = .returned (.int .i64 r) /\ Drawn0 w w':=by
 have HR0:=Zz.k hr0
 have HC0:=Zz.k hc0
 clear hr0 hc0
 unfold r4_Find.f at h; have H:=h
 clear h
 have H':=Zz.k H
 clear H
 go_enter Tryz.func43,Tryz.ntmps43
 go_wp2
 go_loopg [7] k (fun kq v7 w' => ∃ (x7_1 : Int),v7 = .int .i64 x7_1 /\ Zz (r4_Find.l0 kq l0 a1 a2 x7_1 = some r) /\ Zz (kq <= k) /\ Drawn0 w w')
 case atStart => exact ⟨(0),rf,H',⟨Nat.le_refl _⟩,by repeat (first | exact Drawn0.refl _ | apply Drawn0.step)⟩
 case round =>
  clear H'
  obtain ⟨x7_1,rfl,HA,HK1,⟨m1,rfl⟩⟩:=hrel
  cases gk with
  | zero => exact absurd HA.out (by simp [r4_Find.l0])
  | succ k1 =>
   have H:=HA.out
   clear HA
   simp only [r4_Find.l0] at H
   by_cases c4 : x7_1 < (l0.length : Int); rotate_left
   ·rw [if_neg c4] at H
    have c4b0:=Ze c4
    clear c4
    obtain rfl:=Zo H
    go_wp2
    go_ret
    exact ⟨rf,by repeat (first | exact Drawn0.refl _ | apply Drawn0.step)⟩
   rw [if_pos c4] at H
   have c4b0:=Zd c4
   clear c4
   by_cases c5 : 0 <= x7_1; rotate_left
   ·rw [if_neg c5] at H
    exact absurd H (by simp)
   rw [if_pos c5] at H
   have c5b0:=Zd c5
   clear c5
   by_cases c6 : ((Qad l0 x7_1).f0) = a1; rotate_left
   ·rw [if_neg c6] at H
    obtain ⟨c6b0,c6b1⟩:=bF c6
    have H':=Zz.k H
    clear H
    have p161 : 0 <= (x7_1 : Int):=od
    have q161 : x7_1 < (l0.length : Int):=od
    obtain ⟨ad161,A161_7,c161_7,e161,hx161_0,hx161_1,hx161_2,hx161_3,hx161_4,hx161_5,hx161_6,hx161_7,hx161_8,hx161_9,hx161_10,hl161_7,hi161_7⟩:=Qcg HR0.out x7_1 p161 q161
    cases e161
    have HR161_7:=Zz.k hi161_7
    have HC161_7:=Zz.k hl161_7
    clear hi161_7 hl161_7
    replace p161:=eq_true p161
    replace q161:=eq_true q161
    go_wp2
    go_roundg k1
    case measure => have:=HK1.out; omega
    case rel => exact ⟨(wrap64 (x7_1 + 1)),rf,H',⟨by have:=HK1.out; omega⟩,by repeat (first | exact Drawn0.refl _ | apply Drawn0.step)⟩
   rw [if_pos c6] at H
   obtain ⟨c6b0,c6b1⟩:=bT c6
   clear c6
   by_cases c7 : ((Qad l0 x7_1).f1) = a2
   ·rw [if_pos c7] at H
    obtain ⟨c7b0,c7b1⟩:=bT c7
    clear c7
    obtain rfl:=Zo H
    have p161 : 0 <= (x7_1 : Int):=od
    have q161 : x7_1 < (l0.length : Int):=od
    obtain ⟨ad161,A161_7,c161_7,e161,hx161_0,hx161_1,hx161_2,hx161_3,hx161_4,hx161_5,hx161_6,hx161_7,hx161_8,hx161_9,hx161_10,hl161_7,hi161_7⟩:=Qcg HR0.out x7_1 p161 q161
    cases e161
    have HR161_7:=Zz.k hi161_7
    have HC161_7:=Zz.k hl161_7
    clear hi161_7 hl161_7
    replace p161:=eq_true p161
    replace q161:=eq_true q161
    go_wp2
    go_ret
    exact ⟨rf,by repeat (first | exact Drawn0.refl _ | apply Drawn0.step)⟩
   rw [if_neg c7] at H
   obtain ⟨c7b0,c7b1⟩:=bF c7
   have H':=Zz.k H
   clear H
   have p161 : 0 <= (x7_1 : Int):=od
   have q161 : x7_1 < (l0.length : Int):=od
   obtain ⟨ad161,A161_7,c161_7,e161,hx161_0,hx161_1,hx161_2,hx161_3,hx161_4,hx161_5,hx161_6,hx161_7,hx161_8,hx161_9,hx161_10,hl161_7,hi161_7⟩:=Qcg HR0.out x7_1 p161 q161
   cases e161
   have HR161_7:=Zz.k hi161_7
   have HC161_7:=Zz.k hl161_7
   clear hi161_7 hl161_7
   replace p161:=eq_true p161
   replace q161:=eq_true q161
   go_wp2
   go_roundg k1
   case measure => have:=HK1.out; omega
   case rel => exact ⟨(wrap64 (x7_1 + 1)),rf,H',⟨by have:=HK1.out; omega⟩,by repeat (first | exact Drawn0.refl _ | apply Drawn0.step)⟩
def r4_Edit.f (k : Nat) (l0 : List (SOp)) (a1 : Int) (a2 : Int) : Option (Bool):=(r4_Find.f k l0 a1 a2).bind fun t163 => (if t163 >= 0 then (if 0 <= t163 then (if t163 < (l0.length : Int) then (some (((Qad l0 t163).f2) == 1)) else (none)) else (none)) else (some false))
theorem r4_Edit.calls (k : Nat) (A0 : Option Addr) (c0 : Nat) (l0 : List (SOp)) (a1 : Int) (a2 : Int) (r : Bool) (w : World) (hr0 : Kd.C kOp w A0 l0.length l0) (hc0 : l0.length <= c0) (h : r4_Edit.f k l0 a1 a2 = some r) :
  Calls Tryz.prog 64 #[.slice A0 l0.length c0, .int .i64 a1, .int .i64 a2] w fun e w' => e = .returned (.bool r) /\ Drawn0 w w':=by
 have HR0:=Zz.k hr0
 have HC0:=Zz.k hc0
 clear hr0 hc0
 unfold r4_Edit.f at h; have H:=h
 clear h
 obtain ⟨t163,A4,H⟩:=bE H
 by_cases c5 : t163 >= 0; rotate_left
 ·rw [if_neg c5] at H
  have c5b0:=Ze c5
  clear c5
  obtain rfl:=Zo H
  go_enter Tryz.func64,Tryz.ntmps64
  go_wp2_with (first | ((with_reducible refine Qac (f:=43) rfl ?_); refine gl (some 11) Tryz.func43 #[.slice A0 l0.length c0, .int .i64 a1, .int .i64 a2] (h := ?_); (with_reducible refine (r4_Find.calls k _ _ l0 a1 a2 t163 _ ?side1 ?side2 A4.out).mono ?_); (case side1 => repeat (first | exact HR0.out | (with_reducible refine Kd.C_alloc ?_ _) | (with_reducible refine Kd.C_drewN ?_ _) | (with_reducible refine Kd.C_drew ?_))); (case side2 => exact HC0.out); rintro e w' ⟨rfl,⟨nd,rfl⟩⟩; refine ⟨_,rfl, ?_⟩))
  go_ret
  exact ⟨rf,by repeat (first | exact Drawn0.refl _ | apply Drawn0.step)⟩
 rw [if_pos c5] at H
 have c5b0:=Zd c5
 clear c5
 by_cases c6 : 0 <= t163; rotate_left
 ·rw [if_neg c6] at H
  exact absurd H (by simp)
 rw [if_pos c6] at H
 have c6b0:=Zd c6
 clear c6
 by_cases c7 : t163 < (l0.length : Int); rotate_left
 ·rw [if_neg c7] at H
  exact absurd H (by simp)
 rw [if_pos c7] at H
 have c7b0:=Zd c7
 clear c7
 obtain rfl:=Zo H
 go_enter Tryz.func64,Tryz.ntmps64
 go_wp2_with (first | ((with_reducible refine Qac (f:=43) rfl ?_); refine gl (some 11) Tryz.func43 #[.slice A0 l0.length c0, .int .i64 a1, .int .i64 a2] (h := ?_); (with_reducible refine (r4_Find.calls k _ _ l0 a1 a2 t163 _ ?side1 ?side2 A4.out).mono ?_); (case side1 => repeat (first | exact HR0.out | (with_reducible refine Kd.C_alloc ?_ _) | (with_reducible refine Kd.C_drewN ?_ _) | (with_reducible refine Kd.C_drew ?_))); (case side2 => exact HC0.out); rintro e w' ⟨rfl,⟨nd,rfl⟩⟩; refine ⟨_,rfl, ?_⟩; have p164 : 0 <= (t163 : Int):=od; have q164 : t163 < (l0.length : Int):=od; obtain ⟨ad164,A164_7,c164_7,e164,hx164_0,hx164_1,hx164_2,hx164_3,hx164_4,hx164_5,hx164_6,hx164_7,hx164_8,hx164_9,hx164_10,hl164_7,hi164_7⟩:=Qcg HR0.out t163 p164 q164; cases e164; have HR164_7:=Zz.k hi164_7; have HC164_7:=Zz.k hl164_7; clear hi164_7 hl164_7; replace p164:=eq_true p164; replace q164:=eq_true q164))
 go_ret
 exact ⟨rf,by repeat (first | exact Drawn0.refl _ | apply Drawn0.step)⟩
end
end Go.Proofs.YtlllghajjamdpaaGreatDoor.L
end
