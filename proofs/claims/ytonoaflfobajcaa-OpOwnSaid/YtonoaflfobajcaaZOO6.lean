/- Part 6 of the proof that for every argument the law OpOwn answers true: an op never needs itself; its elements are its own, in order; of two elements one is less, or they are the same. -/
import Derived.Test.YtonoaflfobajcaaZOO5
section
namespace Go.Proofs.Ytonoaflfobajcaa.L
open Go.RowKit Go.Proofs.YtonoaflfobajcaaW.PrintWords Go.Proofs.YtonoaflfobajcaaW.PrintLast Go.Proofs.YtonoaflfobajcaaW.PrintMore
set_option linter.unusedVariables false
set_option linter.unusedSimpArgs false
set_option maxHeartbeats 40000000
set_option maxRecDepth 1000000
section
theorem wakes4_ev : Ev (fun k => w4_wakes.f k) true:=Ev.of w4_wakes.mono (by decide +kernel : w4_wakes.f 60 = some true)
section
variable {l0 : List SOp} {l1 : List SElem} {l2 : List Int}
theorem OO_j11 (x13 : Int) {q : Nat} (hq : q < 1000) (hn : Ev (fun k => w4_OpOwn.l4 k x13 ((q + 1 : Nat) : Int) l0 l1 l2) true) : Ev (fun k => w4_OpOwn.j11 k x13 (q : Int) false l0 l1 l2) true:=by
 refine Ev.step (fun k => ?_) hn
 simp only [w4_OpOwn.j11]
 rw [if_neg (by decide),wrap4 (show q < 1000 from hq) (by decide)]
theorem OO_l4 (h1 : l1.length <= 900) {i : Nat} (hi : i < l1.length) (hn : Ev (fun k => w4_OpOwn.l3 k ((i + 1 : Nat) : Int) l0 l1 l2) true) : ∀ d q,q + d = l1.length -> Ev (fun k => w4_OpOwn.l4 k (i : Int) (q : Int) l0 l1 l2) true:=by
 have hend : ∀ q : Nat,Ev (fun k => w4_OpOwn.j10 k (i : Int) (q : Int) false l0 l1 l2) true:=fun q => by
  refine Ev.step (fun k => ?_) hn
  simp only [w4_OpOwn.j10]
  rw [if_neg (by decide),wrap4 hi (by omega)]
 intro d
 induction d with
 | zero =>
  intro q hq
  refine Ev.step (fun k => ?_) (hend q)
  simp only [w4_OpOwn.l4]; rw [if_neg (by omega)]
 | succ d ih =>
  intro q hq
  have hlt : q < l1.length:=by omega
  have ih:=ih (q + 1) (by omega)
  have hj:=OO_j11 (l0:=l0) (l1:=l1) (l2:=l2) (i : Int) (show q < 1000 by omega) ih
  by_cases h10 : (q : Int) < 10
  ·have q0 : (0 : Int) <= (q : Int):=by omega
   have q1 : (q : Int) < (l1.length : Int):=by omega
   have i0 : (0 : Int) <= (i : Int):=by omega
   have i1 : (i : Int) < (l1.length : Int):=by omega
   refine Ev.step (f:=fun k => w4_OpOwn.j10 k (i : Int) (q : Int) true l0 l1 l2) (fun k => by simp only [w4_OpOwn.l4]; rw [if_pos q1,Zd h10]) ?_
   generalize hx : Qaa l1 (i : Int) = x
   generalize hy : Qaa l1 (q : Int) = y
   refine Ev.step (fun k => by simp only [w4_OpOwn.j10]; rw [if_pos True.intro,if_pos i0,if_pos i1,if_pos q0,if_pos q1,hx,hy]) (Ev.bind (op_Less_ev x y) (Ev.bind (op_Less_ev y x) ?_))
   rw [eq3_dec]
   cases h1 : Qat x y
   ·cases h2 : Qat y x
    ·rw [Zd (el_eq h1 h2)]; exact hj
    ·have : x ≠ y:=fun e => by rw [e,el_irrefl] at h2; cases h2
     rw [Ze this]; exact hj
   ·have : x ≠ y:=fun e => by rw [e,el_irrefl] at h1; cases h1
    rw [el_asymm h1,Ze this]; exact hj
  ·refine Ev.step (fun k => ?_) (hend q)
   simp only [w4_OpOwn.l4]; rw [if_pos (by omega),Ze h10]
theorem OO_l3 (h1 : l1.length <= 900) : ∀ d i,i + d = l1.length -> Ev (fun k => w4_OpOwn.l3 k (i : Int) l0 l1 l2) true:=by
 have hend : ∀ i : Nat,Ev (fun k => w4_OpOwn.j8 k (i : Int) false l0 l1 l2) true:=fun i => by
  refine Ev.step (fun k => ?_) (Ev.bind (f:=fun _ t => some t) wakes4_ev (Ev.now _))
  simp only [w4_OpOwn.j8]
  rw [if_neg (by decide)]
 intro d
 induction d with
 | zero =>
  intro i hi
  refine Ev.step (fun k => ?_) (hend i)
  simp only [w4_OpOwn.l3]; rw [if_neg (by omega)]
 | succ d ih =>
  intro i hi
  have ih:=ih (i + 1) (by omega)
  have h4:=OO_l4 (l0:=l0) (l2:=l2) h1 (i:=i) (by omega) ih l1.length 0 (Nat.zero_add _)
  by_cases h10 : (i : Int) < 10
  ·refine Ev.step (f:=fun k => w4_OpOwn.j8 k (i : Int) true l0 l1 l2) (fun k => by simp only [w4_OpOwn.l3]; rw [if_pos (by omega),Zd h10]) ?_
   refine Ev.step (fun k => ?_) h4
   simp only [w4_OpOwn.j8]; rw [if_pos True.intro]; rfl
  ·refine Ev.step (fun k => ?_) (hend i)
   simp only [w4_OpOwn.l3]; rw [if_pos (by omega),Ze h10]
theorem OO_l2 (x3 : Int) (o : SOp) (hnl : (Qaq o).length <= 2000) (hok : opOk o = true) (hn : Ev (fun k => w4_OpOwn.l0 k (wrap64 (x3 + 1)) l0 l1 l2) true) : ∀ d q,q + d = (Qaq o).length -> Ev (fun k => w4_OpOwn.l2 k x3 (Qaq o) (q : Int) l0 l1 l2 o.f0 o.f1 o.f2 o.f3.f0 o.f3.f1 o.f3.f2 o.f4 o.f5 o.f6 o.f7 o.f8) true
 | 0,q,hq => by
  refine Ev.step (fun k => ?_) hn
  simp only [w4_OpOwn.l2]; rw [if_neg (by omega)]
 | d + 1,q,hq => by
  have ih:=OO_l2 x3 o hnl hok hn d (q + 1) (by omega)
  have hlt : q < (Qaq o).length:=by omega
  have hown:=needs_own hok (List.getElem_mem hlt)
  have hasc:=List.pairwise_iff_getElem.1 (needs_asc o)
  have q0 : (0 : Int) <= (q : Int):=by omega
  have q1 : (q : Int) < ((Qaq o).length : Int):=by omega
  have hj : Ev (fun k => w4_OpOwn.j6 k x3 (Qaq o) (q : Int) false l0 l1 l2 o.f0 o.f1 o.f2 o.f3.f0 o.f3.f1 o.f3.f2 o.f4 o.f5 o.f6 o.f7 o.f8) true:=by
   refine Ev.step (fun k => ?_) ih
   simp only [w4_OpOwn.j6]
   rw [if_neg (by decide),wrap4 hlt (by omega)]
  have hnext : Ev (fun k => if (q : Int) > 0 then (if 0 <= (wrap64 ((q : Int) - 1)) then (if (wrap64 ((q : Int) - 1)) < ((Qaq o).length : Int) then ((op_Less.f k ((Qaa (Qaq o) (wrap64 ((q : Int) - 1))).f0) ((Qaa (Qaq o) (wrap64 ((q : Int) - 1))).f1) ((Qaa (Qaq o) (wrap64 ((q : Int) - 1))).f2) ((Qaa (Qaq o) (q : Int)).f0) ((Qaa (Qaq o) (q : Int)).f1) ((Qaa (Qaq o) (q : Int)).f2)).bind fun t232 => (w4_OpOwn.j6 k x3 (Qaq o) (q : Int) (!t232) l0 l1 l2 o.f0 o.f1 o.f2 o.f3.f0 o.f3.f1 o.f3.f2 o.f4 o.f5 o.f6 o.f7 o.f8)) else (none)) else (none)) else (w4_OpOwn.j6 k x3 (Qaq o) (q : Int) false l0 l1 l2 o.f0 o.f1 o.f2 o.f3.f0 o.f3.f1 o.f3.f2 o.f4 o.f5 o.f6 o.f7 o.f8)) true:=by
   by_cases hq0 : 0 < q
   ·have hw:=wrap4p hq0 (by omega)
    have hp : q - 1 < (Qaq o).length:=by omega
    have hls : Qat (Qaa (Qaq o) ((q - 1 : Nat) : Int)) (Qaa (Qaq o) (q : Int)) = true:=by
     rw [Qaj _ _ hp,Qaj _ _ hlt]
     exact hasc (q - 1) q hp hlt (by omega)
    refine Ev.congr (fun k => by rw [if_pos (by omega),hw,if_pos (by omega),if_pos (by omega)]) (Ev.bind (op_Less_ev _ _) ?_)
    rw [hls]
    exact hj
   ·refine Ev.congr (fun k => ?_) hj
    rw [if_neg (by omega)]
  have hre : Qaa (Qaq o) (q : Int) = (Qaq o)[q]:=Qaj _ _ hlt
  unfold ownEl at hown
  by_cases e0 : (Qaa (Qaq o) (q : Int)).f0 = o.f0
  ·have e1 : ¬ (Qaa (Qaq o) (q : Int)).f1 = o.f1:=fun e1 => by
    rw [hre] at e0 e1
    rw [e0,e1] at hown
    simp at hown
   refine Ev.step (fun k => ?_) hnext
   simp only [w4_OpOwn.l2]
   rw [if_pos q1,if_pos q0,if_pos e0,if_neg e1]
  ·refine Ev.step (fun k => ?_) hnext
   simp only [w4_OpOwn.l2]
   rw [if_pos q1,if_pos q0,if_neg e0]
theorem OO_l1 (x3 : Int) (o : SOp) (hs : Sm o) (hok : opOk o = true) (hn : Ev (fun k => w4_OpOwn.l2 k x3 (Qaq o) 0 l0 l1 l2 o.f0 o.f1 o.f2 o.f3.f0 o.f3.f1 o.f3.f2 o.f4 o.f5 o.f6 o.f7 o.f8) true) : ∀ d q,q + d = Qas o -> Ev (fun k => w4_OpOwn.l1 k x3 (Qbc o) (Qaq o) (q : Int) l0 l1 l2 o.f0 o.f1 o.f2 o.f3.f0 o.f3.f1 o.f3.f2 o.f4 o.f5 o.f6 o.f7 o.f8) true
 | 0,q,hq => by
  refine Ev.step (fun k => ?_) hn
  simp only [w4_OpOwn.l1]; rw [if_neg (by rw [chain4_len]; omega)]
 | d + 1,q,hq => by
  have ih:=OO_l1 x3 o hs hok hn d (q + 1) (by omega)
  have h12:=size4 hok
  have hlt : q < Qas o:=by omega
  have hO:=Own4 o hs (q : Int)
  rw [if_pos hok,if_pos ⟨by omega,by omega⟩] at hO
  have q0 : (0 : Int) <= (q : Int):=by omega
  have q1 : (q : Int) < ((Qbc o).length : Int):=by rw [chain4_len]; omega
  have hj : Ev (fun k => w4_OpOwn.j4 k x3 (Qbc o) (Qaq o) (q : Int) false l0 l1 l2 o.f0 o.f1 o.f2 o.f3.f0 o.f3.f1 o.f3.f2 o.f4 o.f5 o.f6 o.f7 o.f8) true:=by
   refine Ev.step (fun k => ?_) ih
   simp only [w4_OpOwn.j4]
   rw [if_neg (by decide),wrap4 hlt (by omega)]
  have hc:=chain4_at o hlt
  refine Ev.step (fun k => by simp only [w4_OpOwn.l1]; rw [if_pos q1]) (Ev.bind hO ?_)
  refine Ev.congr (fun k => ?_) (?_ : Ev (fun k => if (q : Int) > 0 then (if 0 <= (wrap64 ((q : Int) - 1)) then (if (wrap64 ((q : Int) - 1)) < ((Qbc o).length : Int) then ((op_Less.f k ((Qaa (Qbc o) (wrap64 ((q : Int) - 1))).f0) ((Qaa (Qbc o) (wrap64 ((q : Int) - 1))).f1) ((Qaa (Qbc o) (wrap64 ((q : Int) - 1))).f2) ((Qaa (Qbc o) (q : Int)).f0) ((Qaa (Qbc o) (q : Int)).f1) ((Qaa (Qbc o) (q : Int)).f2)).bind fun t227 => (w4_OpOwn.j4 k x3 (Qbc o) (Qaq o) (q : Int) (!t227) l0 l1 l2 o.f0 o.f1 o.f2 o.f3.f0 o.f3.f1 o.f3.f2 o.f4 o.f5 o.f6 o.f7 o.f8)) else (none)) else (none)) else (w4_OpOwn.j4 k x3 (Qbc o) (Qaq o) (q : Int) false l0 l1 l2 o.f0 o.f1 o.f2 o.f3.f0 o.f3.f1 o.f3.f2 o.f4 o.f5 o.f6 o.f7 o.f8)) true)
  ·simp only [w4_num.f,Option.bind_some,if_true]
   rw [if_pos q0,hc]
   simp only [beq_self_eq_true,Bool.not_true,Bool.or_self,Bool.false_eq_true,if_false,if_true]
  ·by_cases hq0 : 0 < q
   ·have hw:=wrap4p hq0 (by omega)
    have hp : q - 1 < Qas o:=by omega
    have hls : Qat (Qaa (Qbc o) ((q - 1 : Nat) : Int)) (Qaa (Qbc o) (q : Int)) = true:=by
     rw [chain4_at o hp,hc,elLess_iff]
     exact .inr ⟨rfl, .inr ⟨rfl,by show ((q - 1 : Nat) : Int) < (q : Int); omega⟩⟩
    refine Ev.congr (fun k => by rw [if_pos (by omega),hw,if_pos (by omega),if_pos (by omega)]) (Ev.bind (op_Less_ev _ _) ?_)
    rw [hls]
    exact hj
   ·refine Ev.congr (fun k => ?_) hj
    rw [if_neg (by omega)]
theorem OO_l0 (h0 : l0.length <= 900) (ht : ∀ o ∈ l0,tiny4 o) (h1 : l1.length <= 900) : ∀ d i,i + d = l0.length -> Ev (fun k => w4_OpOwn.l0 k (i : Int) l0 l1 l2) true:=by
 have hend : ∀ i : Nat,Ev (fun k => w4_OpOwn.j1 k (i : Int) false l0 l1 l2) true:=fun i => by
  refine Ev.step (fun k => ?_) (OO_l3 (l0:=l0) (l2:=l2) h1 l1.length 0 (Nat.zero_add _))
  simp only [w4_OpOwn.j1]
  rw [if_neg (by decide)]; rfl
 intro d
 induction d with
 | zero =>
  intro i hi
  refine Ev.step (fun k => ?_) (hend i)
  simp only [w4_OpOwn.l0]; rw [if_neg (by omega)]
 | succ d ih =>
  intro i hi
  have ih:=ih (i + 1) (by omega)
  have hlt : i < l0.length:=by omega
  have hto:=ht _ (List.getElem_mem hlt)
  have hw:=wrap4 hlt (by omega)
  by_cases h10 : (i : Int) < 10
  ·have i0 : (0 : Int) <= (i : Int):=by omega
   have i1 : (i : Int) < (l0.length : Int):=by omega
   have hrd:=rd4_Op l0 i hlt
   generalize l0[i] = o at hto hrd
   have hs:=tiny4_Sm hto
   have hN:=needs4 o hs.1 (by have:=hto.2; omega)
   have hC:=Check4 o hs
   have hE:=Elems4 o hs
   refine Ev.step (f:=fun k => w4_OpOwn.j1 k (i : Int) true l0 l1 l2) (fun k => by simp only [w4_OpOwn.l0]; rw [if_pos i1,Zd h10]) ?_
   refine Ev.step (fun k => by simp only [w4_OpOwn.j1]; rw [if_pos True.intro,if_pos i0,if_pos i1,hrd,hN]) (Ev.bind hC ?_)
   cases hok : opOk o
   ·refine Ev.congr (fun k => ?_) ih
    simp only [w4_num.f,Option.bind_some,Bool.false_eq_true,if_false]
    rw [if_neg (by decide),hw]
   ·rw [hok] at hE
    refine Ev.congr (fun k => by simp only [w4_num.f,Option.bind_some,if_true]; rfl) (Ev.bind hE ?_)
    have h12:=size4 hok
    have hlen:=needs_len o
    have h2:=OO_l2 (l0:=l0) (l1:=l1) (l2:=l2) (i : Int) o (by have:=hto.2; omega) hok (by rw [hw]; exact ih) (Qaq o).length 0 (Nat.zero_add _)
    have h3:=OO_l1 (l0:=l0) (l1:=l1) (l2:=l2) (i : Int) o hs hok h2 (Qas o) 0 (Nat.zero_add _)
    refine Ev.congr (f:=fun k => w4_OpOwn.j2 k (i : Int) (Qbc o) (Qaq o) false l0 l1 l2 o.f0 o.f1 o.f2 o.f3.f0 o.f3.f1 o.f3.f2 o.f4 o.f5 o.f6 o.f7 o.f8) (fun k => ?_) (Ev.step (fun k => ?_) h3)
    ·simp only [if_true]
     rw [Ze (by rw [chain4_len]; omega)]
    ·simp only [w4_OpOwn.j2]
     rw [if_neg (by decide)]; rfl
  ·refine Ev.step (fun k => ?_) (hend i)
   simp only [w4_OpOwn.l0]; rw [if_pos (by omega),Ze h10]
end
theorem PureOpOwn (l0 : List SOp) (l1 : List SElem) (l2 : List Int) (hg : GoodAsk4 l0 l1 l2) : ∃ k,w4_OpOwn.f k l0 l1 l2 = some true:=by
 obtain ⟨b,hb,hsm⟩:=Heavy4 hg
 have : Ev (fun k => w4_OpOwn.f k l0 l1 l2) true:=by
  refine Ev.bind (f:=fun k t203 => if t203 = true then (some true) else (w4_OpOwn.l0 k 0 l0 l1 l2)) hb ?_
  cases b
  ·obtain ⟨h0,h1,h2,_⟩:=hsm rfl
   simp only [Bool.false_eq_true,if_false]
   exact OO_l0 h0 h1 h2 l0.length 0 (Nat.zero_add _)
  ·exact Ev.now _
 exact this.rounds
end
end Go.Proofs.Ytonoaflfobajcaa.L
end
