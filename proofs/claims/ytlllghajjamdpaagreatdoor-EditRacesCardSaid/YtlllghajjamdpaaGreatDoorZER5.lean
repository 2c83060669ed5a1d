/- Part 5 of the proof that for every argument the law EditRaces answers true: edits that two sites make of the same row, ordered one behind the other either way, leave what each wrote whole, side by side, and take away what each took -/
import Derived.Test.YtlllghajjamdpaaGreatDoorZER4
import Derived.StillTailTactics
import Derived.Laws.AppendOwn
import Derived.LoopTactic
import Derived.WalkSpells
import Derived.IntWalk
section
namespace Go.Proofs.YtlllghajjamdpaaGreatDoor.L
open Go.RowKit Go.Proofs.YtlllghajjamdpaaGreatDoorW.PrintWords Go.Proofs.YtlllghajjamdpaaGreatDoorW.PrintLast Go.Proofs.YtlllghajjamdpaaGreatDoorW.PrintMore
set_option linter.unusedVariables false
set_option linter.unusedSimpArgs false
set_option maxHeartbeats 40000000
set_option maxRecDepth 1000000
section
def t_tree_checker_goes.T1 : Bool × List (List Nat × List Nat):=(true,[([],[]),([0],[0]),([1],[1]),([2,1],[2]),([3],[3]),([4,3],[3,4]),([3],[3]),([6,3],[3,6]),([7,3],[3,7]),([8,3],[3,8]),([3],[3]),([10,3],[3,10]),([9,11,3],[3,9,11]),([12,3],[3,12]),([5,13,3],[3,5,13]),([3,14],[3,14]),([15,3],[15]),([16],[16]),([16],[16]),([18,16],[16,18]),([17,19,16,16],[16,17,19]),([20,16],[16,20]),([16,21],[16,21])])
def t_tree_checker_goes.B1 : List Nat:=[0,1,3,7,15,31,15,79,207,463,15,1039,4047,8143,16383,32767,65535,131071,131071,393215,1048575,2097151,4194303]
theorem t_tree_checker_goes.tab1 : rtab .any (Qdb Tryz.f75 1) = t_tree_checker_goes.T1:=by kernel_rfl
theorem t_tree_checker_goes.bits1 : Qay t_tree_checker_goes.T1.2 t_tree_checker_goes.B1 = true:=by kernel_rfl
def t_tree_checker_goes.T5 : Bool × List (List Nat × List Nat):=(true,[([],[]),([0],[0]),([1],[1]),([2],[2]),([],[]),([4],[4]),([3,5],[3,5]),([6],[6]),([3,5,7,0,1,2,3,4,5,6,7],[3,5,7])])
def t_tree_checker_goes.B5 : List Nat:=[0,1,3,7,0,16,63,127,255]
theorem t_tree_checker_goes.tab5 : rtab .any (Qdb Tryz.f75 5) = t_tree_checker_goes.T5:=by kernel_rfl
theorem t_tree_checker_goes.bits5 : Qay t_tree_checker_goes.T5.2 t_tree_checker_goes.B5 = true:=by kernel_rfl
def t_tree_checker_goes.T7 : Bool × List (List Nat × List Nat):=(true,[([],[]),([0],[0]),([1],[1]),([2],[2]),([],[]),([4],[4]),([],[]),([6],[6]),([5,7],[5,7]),([3,8],[3,8]),([9],[9]),([10],[10]),([10],[10]),([11,0,1,2,3,4,5,6,7,8,9,10,11],[11]),([12,13,0,1,2,3,4,5,6,7,8,9,10,11,12,13],[12])])
def t_tree_checker_goes.B7 : List Nat:=[0,1,3,7,0,16,0,64,240,511,1023,2047,2047,4095,16383]
theorem t_tree_checker_goes.tab7 : rtab .any (Qdb Tryz.f75 7) = t_tree_checker_goes.T7:=by kernel_rfl
theorem t_tree_checker_goes.bits7 : Qay t_tree_checker_goes.T7.2 t_tree_checker_goes.B7 = true:=by kernel_rfl
def t_tree_checker_goes.T10 : Bool × List (List Nat × List Nat):=(true,[([],[]),([0],[0]),([1],[1]),([2],[2]),([],[]),([4],[4]),([],[]),([6],[6]),([5,7],[5,7]),([],[]),([3,8,9,0,1,2,3,4,5,6,7,8,9],[3,8,9])])
def t_tree_checker_goes.B10 : List Nat:=[0,1,3,7,0,16,0,64,240,0,1023]
theorem t_tree_checker_goes.tab10 : rtab .any (Qdb Tryz.f75 10) = t_tree_checker_goes.T10:=by kernel_rfl
theorem t_tree_checker_goes.bits10 : Qay t_tree_checker_goes.T10.2 t_tree_checker_goes.B10 = true:=by kernel_rfl
def t_tree_grower_below.T1 : Bool × List (List Nat × List Nat):=(true,[([],[]),([0],[0]),([1],[1]),([2],[2]),([],[]),([3,4],[3,4]),([5,0,1,2,3,4,5],[5])])
def t_tree_grower_below.B1 : List Nat:=[0,1,3,7,0,31,63]
theorem t_tree_grower_below.tab1 : rtab .any (Qdb Tryz.f132 1) = t_tree_grower_below.T1:=by kernel_rfl
theorem t_tree_grower_below.bits1 : Qay t_tree_grower_below.T1.2 t_tree_grower_below.B1 = true:=by kernel_rfl
def t_tree_grower_below.T3 : Bool × List (List Nat × List Nat):=(true,[([],[]),([],[]),([1],[1]),([2],[2]),([3],[3]),([],[]),([5],[5]),([6],[6]),([7],[7]),([4,8],[4,8]),([9],[9]),([10,7],[10]),([11],[11]),([0,12,11],[0,12]),([13,13,0,1,2,3,4,5,6,7,8,9,10,11,12,13],[0,13])])
def t_tree_grower_below.B3 : List Nat:=[0,0,2,6,14,0,32,96,224,510,1022,2046,4094,8191,16383]
theorem t_tree_grower_below.tab3 : rtab .any (Qdb Tryz.f132 3) = t_tree_grower_below.T3:=by kernel_rfl
theorem t_tree_grower_below.bits3 : Qay t_tree_grower_below.T3.2 t_tree_grower_below.B3 = true:=by kernel_rfl
def t_tree_grower_below.T4 : Bool × List (List Nat × List Nat):=(true,[([],[]),([0],[0]),([1],[1]),([2],[2]),([],[]),([4],[4]),([],[]),([6],[6]),([3,5,7],[3,5,7]),([8,8,0,1,2,3,4,5,6,7,8],[8])])
def t_tree_grower_below.B4 : List Nat:=[0,1,3,7,0,16,0,64,255,511]
theorem t_tree_grower_below.tab4 : rtab .any (Qdb Tryz.f132 4) = t_tree_grower_below.T4:=by kernel_rfl
theorem t_tree_grower_below.bits4 : Qay t_tree_grower_below.T4.2 t_tree_grower_below.B4 = true:=by kernel_rfl
def t_tree_grower_below.T5 : Bool × List (List Nat × List Nat):=(true,[([],[]),([0],[0]),([1],[1]),([2],[2]),([3,2],[2,3]),([4,2],[2,4]),([2],[2]),([6,2],[2,6]),([7,2],[2,7]),([8,2],[2,8]),([2],[2]),([9,10,2],[2,9,10]),([11,2],[2,11]),([12,2,2],[2,12]),([5,13,2],[2,5,13]),([2,14],[2,14])])
def t_tree_grower_below.B5 : List Nat:=[0,1,3,7,15,31,7,71,199,455,7,1991,4039,8135,16383,32767]
theorem t_tree_grower_below.tab5 : rtab .any (Qdb Tryz.f132 5) = t_tree_grower_below.T5:=by kernel_rfl
theorem t_tree_grower_below.bits5 : Qay t_tree_grower_below.T5.2 t_tree_grower_below.B5 = true:=by kernel_rfl
def t_tree_grower_below.T6 : Bool × List (List Nat × List Nat):=(true,[([],[]),([],[]),([1],[1]),([2],[2]),([3],[3]),([],[]),([4,5],[4,5]),([6],[6]),([],[]),([8],[8]),([9],[9]),([7,10],[7,10]),([11],[11]),([0,12,11],[0,12]),([13,13,0,1,2,3,4,5,6,7,8,9,10,11,12,13],[0,13])])
def t_tree_grower_below.B6 : List Nat:=[0,0,2,6,14,0,62,126,0,256,768,2046,4094,8191,16383]
theorem t_tree_grower_below.tab6 : rtab .any (Qdb Tryz.f132 6) = t_tree_grower_below.T6:=by kernel_rfl
theorem t_tree_grower_below.bits6 : Qay t_tree_grower_below.T6.2 t_tree_grower_below.B6 = true:=by kernel_rfl
def t_tree_grower_walk.T4 : Bool × List (List Nat × List Nat):=(true,[([],[]),([],[]),([1],[1]),([2],[2]),([3],[3]),([],[]),([5],[5]),([4,6],[4,6]),([0,0,1,2,3,4,5,6,7],[0]),([8,0,1,2,3,4,5,6,7],[8]),([9,7,7,0,1,2,3,4,5,6,7],[7,9])])
def t_tree_grower_walk.B4 : List Nat:=[0,0,2,6,14,0,32,126,255,511,1023]
theorem t_tree_grower_walk.tab4 : rtab .any (Qdb Tryz.f112 4) = t_tree_grower_walk.T4:=by kernel_rfl
theorem t_tree_grower_walk.bits4 : Qay t_tree_grower_walk.T4.2 t_tree_grower_walk.B4 = true:=by kernel_rfl
def t_tree_grown.T6 : Bool × List (List Nat × List Nat):=(true,[([],[]),([0],[0]),([1],[1]),([2],[2]),([],[]),([4],[4]),([3,5],[3,5]),([6],[6])])
def t_tree_grown.B6 : List Nat:=[0,1,3,7,0,16,63,127]
theorem t_tree_grown.tab6 : rtab .any (Qdb Tryz.f111 6) = t_tree_grown.T6:=by kernel_rfl
theorem t_tree_grown.bits6 : Qay t_tree_grown.T6.2 t_tree_grown.B6 = true:=by kernel_rfl
def t_tree_grown.T7 : Bool × List (List Nat × List Nat):=(true,[([],[]),([0],[0]),([1],[1]),([2],[2]),([],[]),([4],[4]),([],[]),([6],[6]),([3,5,7,0,1,2,3,4,5,6,7],[3,5,7])])
def t_tree_grown.B7 : List Nat:=[0,1,3,7,0,16,0,64,255]
theorem t_tree_grown.tab7 : rtab .any (Qdb Tryz.f111 7) = t_tree_grown.T7:=by kernel_rfl
theorem t_tree_grown.bits7 : Qay t_tree_grown.T7.2 t_tree_grown.B7 = true:=by kernel_rfl
def t_tree_grown.T8 : Bool × List (List Nat × List Nat):=(true,[([],[]),([0],[0]),([1],[1]),([2],[2]),([],[]),([4],[4]),([3,5],[3,5]),([6],[6]),([],[]),([8],[8]),([7,9],[7,9])])
def t_tree_grown.B8 : List Nat:=[0,1,3,7,0,16,63,127,0,256,1023]
theorem t_tree_grown.tab8 : rtab .any (Qdb Tryz.f111 8) = t_tree_grown.T8:=by kernel_rfl
theorem t_tree_grown.bits8 : Qay t_tree_grown.T8.2 t_tree_grown.B8 = true:=by kernel_rfl
def t_tree_hung_Less.T1 : Bool × List (List Nat × List Nat):=(true,[([],[]),([],[]),([0,1],[0,1]),([2],[2]),([],[]),([],[]),([4,5],[4,5]),([6],[6]),([3,7],[3,7]),([8,0,1,2,3,4,5,6,7,8],[8])])
def t_tree_hung_Less.B1 : List Nat:=[0,0,3,7,0,0,48,112,255,511]
theorem t_tree_hung_Less.tab1 : rtab .any (Qdb Tryz.f164 1) = t_tree_hung_Less.T1:=by kernel_rfl
theorem t_tree_hung_Less.bits1 : Qay t_tree_hung_Less.T1.2 t_tree_hung_Less.B1 = true:=by kernel_rfl
def t_tree_hung_Push.T0 : Bool × List (List Nat × List Nat):=(true,[([],[]),([],[]),([1],[1]),([2],[2]),([],[]),([4],[4]),([5],[5]),([3,6],[3,6]),([0,0,1,2,3,4,5,6,7],[0]),([8,7,7,0,1,2,3,4,5,6,7],[7,8])])
def t_tree_hung_Push.B0 : List Nat:=[0,0,2,6,0,16,48,126,255,511]
theorem t_tree_hung_Push.tab0 : rtab .any (Qdb Tryz.f166 0) = t_tree_hung_Push.T0:=by kernel_rfl
theorem t_tree_hung_Push.bits0 : Qay t_tree_hung_Push.T0.2 t_tree_hung_Push.B0 = true:=by kernel_rfl
def t_tree_hung_Swap.T0 : Bool × List (List Nat × List Nat):=(true,[([],[]),([],[]),([],[]),([],[]),([],[]),([],[]),([4,5],[4,5]),([6],[6]),([],[]),([],[]),([8,9],[8,9]),([10],[10]),([0,1,0,1,4,5,6,7,11],[0,1]),([12,7,0,1,4,5,6,7,11],[7,12]),([2,3,0,1,2,3,4,5,6,7,8,9,10,11,12,13],[2,3]),([14,11,13,0,1,2,3,4,5,6,7,8,9,10,11,12,13],[11,14])])
def t_tree_hung_Swap.B0 : List Nat:=[0,0,0,0,0,0,48,112,0,0,768,1792,4083,8179,16383,32767]
theorem t_tree_hung_Swap.tab0 : rtab .any (Qdb Tryz.f167 0) = t_tree_hung_Swap.T0:=by kernel_rfl
theorem t_tree_hung_Swap.bits0 : Qay t_tree_hung_Swap.T0.2 t_tree_hung_Swap.B0 = true:=by kernel_rfl
end
section
attribute [local go_sem high] eqAElem
def Qdh (Sz : Int × Int -> Option Int) (e : SElem) : Bool:=Qaq e || decide (e.f2 < (Sz (e.f0,e.f1)).getD 0)
abbrev MapN (w : World) (b n : Nat) (Sz : Int × Int -> Option Int) : Prop:=MapK encN 122 3 w b n Sz
abbrev MapS (w : World) (b n : Nat) (Ah : Int -> Option Int) : Prop:=MapK encI 3 3 w b n Ah
theorem tree_of_f (a b c : Int) : tree_of.f a b c = some (a,b):=rfl
theorem written_calls (C bS n : Nat) (e : SElem) (Sz : Int × Int -> Option Int) (W : World) (hC0 : W.cell? ⟨C,0,none⟩ = some (.map (some bS))) (hM : MapN W bS n Sz) (hi : Qaq e = false -> inI e.f0 /\ inI e.f1) :
    Calls Tryz.prog 103 #[.pointer (some ⟨C,0,none⟩),elV e] W fun r w' => r = .returned (.bool (Qdh Sz e)) /\ Below W.heap.size W w':=by
  have lC:=World.block_lt_of_cell? W _ hC0
  simp only at lC
  unfold elV
  cases hz : Qaq e with
  | true =>
    have hw : Qdh Sz e = true:=by simp [Qdh,hz]
    rw [hw]
    have hz' : (e.f0 == 0 && (e.f1 == 0 && (e.f2 == 0))) = true:=hz
    clear hz hw hi hM
    go_enter Tryz.func103,Tryz.ntmps103
    go_wp2
    go_quiet (fail)
    go_wp2
    go_ret
    exact ⟨rfl,Qbr ((Below.refl _ _).alloc (Nat.le_refl _) _) _⟩
  | false =>
    have hw : Qdh Sz e = decide (e.f2 < (Sz (e.f0,e.f1)).getD 0):=by simp [Qdh,hz]
    rw [hw]
    obtain ⟨i0,i1⟩:=hi hz
    obtain ⟨kl,hkl⟩:=keyN (x:=(e.f0,e.f1)) i0 i1
    have hz' : (e.f0 == 0 && (e.f1 == 0 && (e.f2 == 0))) = false:=hz
    have lM:=hM.lt
    have HLk:=Zz.k (fun (W' : World) (hb : Below W.heap.size W W') => (hM.below hb lM).look lawN Tryz.underlying101 Tryz.underlying3 zeroI (e.f0,e.f1) hkl)
    simp only [encN] at HLk
    generalize (Sz (e.f0,e.f1)).getD 0 = z at HLk ⊢
    clear hz hw hi hM hkl i0 i1
    go_enter Tryz.func103,Tryz.ntmps103
    go_wp2_with fail
    go_region_held3 (fun w' => w'.cell? ⟨W.heap.size,0,none⟩ = some (.int .i64 e.f0) /\ w'.cell? ⟨W.heap.size,1,none⟩ = some (.int .i64 e.f1) /\ w'.cell? ⟨W.heap.size,2,none⟩ = some (.int .i64 e.f2) /\
        w'.cell? ⟨C,0,none⟩ = some (.map (some bS)) /\ (Instr.lookup 101 (.map (some bS)) (.agg #[.int .i64 e.f0, .int .i64 e.f1]) false).run Tryz.prog w' = .ok (.int .i64 z) w' /\ Below W.heap.size W w')
      (first
        | (refine ⟨by go_keep,by go_keep,by go_keep,by go_keep,HLk.out _ (Qae ((Below.refl _ _).alloc (Nat.le_refl _) _)),Qae ((Below.refl _ _).alloc (Nat.le_refl _) _)⟩)
        | (have hbb : Below W.heap.size W _:=Qas (Qae ((Below.refl _ _).alloc (Nat.le_refl _) _)) hb
           exact ⟨Qab hb (by go_keep),Qab hb (by go_keep),Qab hb (by go_keep),Qab hb (by go_keep),HLk.out _ hbb,hbb⟩))
      (first | (go_at_call 129; refine (tree_of.calls e.f0 e.f1 e.f2 e.f0 e.f1 _ (tree_of_f _ _ _)).mono ?_; rintro e' w' ⟨rfl,hb⟩))
    rename_i hHeld
    have HH:=Zz.k hHeld.2.2.2.2.2
    clear hHeld hb
    go_wp2
    go_ret
    exact ⟨rfl,HH.out⟩
theorem goes1_calls (cb C bS n : Nat) (e : SElem) (Sz : Int × Int -> Option Int) (W : World) (hcb : W.cell? ⟨cb,0,none⟩ = some (.pointer (some ⟨C,0,none⟩))) (hC0 : W.cell? ⟨C,0,none⟩ = some (.map (some bS))) (hM : MapN W bS n Sz) (hi : Qaq e = false -> inI e.f0 /\ inI e.f1) :
  Calls Tryz.prog 105 #[elV e, .pointer (some ⟨cb,0,none⟩)] W fun r w' => r = .returned (.bool (!Qdh Sz e)) /\ Below W.heap.size W w':=by
 have lb:=World.block_lt_of_cell? W _ hcb
 have lC:=World.block_lt_of_cell? W _ hC0
 simp only at lb lC
 have HW:=Zz.k (fun (W' : World) (hb : Below W.heap.size W W') => written_calls C bS n e Sz W' (Qab hb hC0) (hM.below hb hM.lt) hi)
 unfold elV at HW ⊢
 generalize Qdh Sz e = z at HW ⊢
 clear hM hi hC0
 go_enter Tryz.func105,Tryz.ntmps105
 go_wp2_with fail
 refine (HW.out _ ((Below.refl _ _).alloc (Nat.le_refl _) _)).mono ?_
 rintro r w' ⟨rfl,hb⟩
 have HB:=Zz.k (Qas ((Below.refl _ _).alloc (Nat.le_refl _) _) hb)
 clear hb
 go_wp2
 go_ret
 exact ⟨rfl,HB.out⟩
structure CS where
 Sz : Int × Int -> Option Int
 Ah : Int -> Option Int
 all : Int
def preB (s : CS) (o : SOp) : Bool:=opOk o && (o.f1 == wrap64 ((s.Ah o.f0).getD 0 + 1) && (Qdh s.Sz o.f3 && !anyAt (fun i => !Qdh s.Sz (Qaa o.f5 i)) o.f5.length))
def ahead1 (s : CS) (o : SOp) : CS:={ s with Ah:=upd s.Ah o.f0 (wrap64 ((s.Ah o.f0).getD 0 + 1)) }
def noted (s : CS) (o : SOp) : CS:={ ahead1 s o with Sz:=upd s.Sz (o.f0,o.f1) (Qaj o),all:=wrap64 (s.all + (Qaj o : Int)) }
def goesB (s : CS) (o : SOp) : Bool × CS :=
 if preB s o = true then (if o.f2 = 2 then ((s.Sz (o.f6,o.f7)).isSome,ahead1 s o) else (decide ((noted s o).all <= 200),noted s o)) else (false,s)
theorem nameOk_in {s q : Int} (h : nameOk s q = true) : inI s /\ inI q:=by
 unfold nameOk at h; simp at h; unfold inI; omega
theorem elemOk_in {e : SElem} (h : Qco e = true) (hb : Qaq e = false) : inI e.f0 /\ inI e.f1:=by
 unfold Qco at h; rw [hb] at h; simp at h; exact nameOk_in h.1.1
theorem opOk_name {o : SOp} (h : opOk o = true) : inI o.f0 /\ inI o.f1:=by
 unfold opOk at h; simp only [Bool.and_eq_true] at h; exact nameOk_in h.1
theorem opOk_kind {o : SOp} (h : opOk o = true) : (o.f2 = 1 /\ editOk o = true) \/ (o.f2 = 2 /\ Qch o = true):=by
 unfold opOk at h; simp only [Bool.and_eq_true] at h
 by_cases h1 : o.f2 = 1
 ·rw [if_pos h1] at h; exact .inl ⟨h1,h.2⟩
 ·rw [if_neg h1] at h; simp at h; exact .inr h.2
theorem opOk_after {o : SOp} (h : opOk o = true) (hb : Qaq o.f3 = false) : inI o.f3.f0 /\ inI o.f3.f1:=by
 rcases opOk_kind h with ⟨_,h⟩ | ⟨_,h⟩
 ·unfold editOk at h; simp only [Bool.and_eq_true] at h; exact elemOk_in h.1.1.1.1.1.1.1.1.1 hb
 ·unfold Qch at h; simp only [Bool.and_eq_true] at h; rw [hb] at h; simp at h
theorem goneFrom_ok {o : SOp} : ∀ (l : List SElem) (p : Option SElem),Qbs o p l = true -> ∀ e ∈ l,Qco e = true
 | [],_,_,e,he => by cases he
 | x :: r,p,h,e,he => by
  unfold Qbs at h; simp only [Bool.and_eq_true] at h
  rcases List.mem_cons.1 he with rfl | he
  ·exact h.1.1.1.2
  ·exact goneFrom_ok r _ h.2 e he
theorem opOk_gone {o : SOp} (h : opOk o = true) (i : Nat) (hi : i < o.f5.length) (hb : Qaq (Qaa o.f5 i) = false) : inI (Qaa o.f5 i).f0 /\ inI (Qaa o.f5 i).f1:=by
 rcases opOk_kind h with ⟨_,h⟩ | ⟨_,h⟩
 ·unfold editOk goneOk at h; simp only [Bool.and_eq_true] at h
  refine elemOk_in (goneFrom_ok o.f5 _ h.1.1.1.2.1 _ ?_) hb
  rw [Qat _ _ hi]; exact List.getElem_mem hi
 ·unfold Qch at h; simp only [Bool.and_eq_true] at h
  have : o.f5 = []:=List.isEmpty_iff.1 h.2
  rw [this] at hi; cases hi
theorem opOk_of {o : SOp} (h : opOk o = true) (h2 : o.f2 = 2) : inI o.f6 /\ inI o.f7:=by
 rcases opOk_kind h with ⟨h1,_⟩ | ⟨_,h⟩
 ·omega
 ·unfold Qch at h; simp only [Bool.and_eq_true] at h; exact nameOk_in h.1.1.1.1.1.1
def Chk (W : World) (C bS bA n : Nat) (s : CS) : Prop :=
 W.cell? ⟨C,0,none⟩ = some (.map (some bS)) /\ W.cell? ⟨C,1,none⟩ = some (.map (some bA)) /\ W.cell? ⟨C,2,none⟩ = some (.int .i64 s.all) /\ W.frozen? ⟨C,2,none⟩ = false /\ MapN W bS n s.Sz /\ MapS W bA n s.Ah
theorem frozen_below {w w' : World} {B : Nat} {a : Addr} (hb : Below B w w') (h : a.block < B) : w'.frozen? a = w.frozen? a:=hb.frozen h
theorem Chk.below {W W' : World} {C bS bA n : Nat} {s : CS} (h : Chk W C bS bA n s) (hb : Below W.heap.size W W') : Chk W' C bS bA n s:=by
 obtain ⟨h1,h2,h3,h4,h5,h6⟩:=h
 refine ⟨Qab hb h1,Qab hb h2,Qab hb h3, ?_,h5.below hb h5.lt,h6.below hb h6.lt⟩
 rw [frozen_below hb (World.block_lt_of_cell? W _ h3)]; exact h4
def Three (C bS bA : Nat) : Nat -> Prop:=fun k => k = C \/ k = bS \/ k = bA
def Qcj (W : World) (C bS bA n : Nat) (r : Bool × CS) (w' : World) : Prop :=
 (r.1 = true -> Chk w' C bS bA (n + 1) r.2) /\ Kept W w' (Three C bS bA) /\ ∀ B,B <= C -> B <= bS -> B <= bA -> B <= W.heap.size -> Below B W w'
theorem Qcj.stays {W w' : World} {C bS bA n : Nat} {s : CS} (hb : Below W.heap.size W w') : Qcj W C bS bA n (false,s) w' :=
 ⟨fun h => (by cases h),Kept.of_below hb _,fun B _ _ _ h => hb.mono h⟩
theorem two_boxes {Q : World -> Prop} (W : World) (cs1 : Array Value) (t1 : TypeId) (cs2 : Array Value) (t2 : TypeId)
  (h : ∀ w2,(∀ j,w2.cell? ⟨W.heap.size,j,none⟩ = cs1[j]?) -> (∀ j,w2.cell? ⟨W.heap.size + 1,j,none⟩ = cs2[j]?) -> Below W.heap.size W w2 -> w2.heap.size = W.heap.size + 2 -> Q w2) : Q ((W.alloc (.cells cs1 t1)).alloc (.cells cs2 t2)) :=
 h _ (fun j => by simp) (fun j => by simp) (Qag ((Below.refl _ _).alloc (Nat.le_refl _) _) _) (by simp)
theorem goes_no (C bS bA n : Nat) (s : CS) (o : SOp) (A7 : Option Addr) (c7 : Nat) (W : World) (hck : Chk W C bS bA n s) (hl : o.f5.length <= c7) (hr : Qap.C W A7 o.f5.length o.f5) (hsm : Sm o) (ho : opOk o = false) :
  Calls Tryz.prog 75 #[.pointer (some ⟨C,0,none⟩),opV o A7 c7] W fun r w' => r = .returned (.bool false) /\ Below W.heap.size W w':=by
 obtain ⟨K,hK⟩:=(op_May_f o hsm).rounds
 obtain ⟨h1,h2,h3,h4,h5,h6⟩:=hck
 have lC:=World.block_lt_of_cell? W _ h1
 simp only at lC
 have HR:=Zz.k hr
 rw [ho] at hK
 have HK:=Zz.k hK
 have HL:=Zz.k hl
 clear hr hK h5 h6 hl ho
 unfold opV
 go_enter Tryz.func75,Tryz.ntmps75
 go_wp2_with fail
 refine two_boxes (Q:=Code.wp _ _ _ _) W _ _ _ _ (fun w2 g1 g2 gB gS => ?_)
 have b0:=g1 0
 have o0:=g2 0; have o1:=g2 1; have o2:=g2 2; have o3:=g2 3; have o4:=g2 4; have o5:=g2 5; have o6:=g2 6; have o7:=g2 7; have o8:=g2 8; have o9:=g2 9; have o10:=g2 10
 simp only [List.getElem?_toArray,List.getElem?_cons_zero,List.getElem?_cons_succ] at b0 o0 o1 o2 o3 o4 o5 o6 o7 o8 o9 o10
 clear g1 g2
 have hmc:=fun (X : World) (hb : Below W.heap.size W X) => op_May.calls K o.f0 o.f1 o.f2 o.f3.f0 o.f3.f1 o.f3.f2 o.f4 A7 c7 o.f5 o.f6 o.f7 o.f8 false X (Kd.C_below HR.out hb) HL.out HK.out
 have HMC:=Zz.k hmc
 have GB:=Zz.k gB
 clear hmc gB gS
 refine stR (S:=fun w' => w'.cell? ⟨W.heap.size + 1,0,none⟩ = some (.int .i64 o.f0) /\ w'.cell? ⟨W.heap.size + 1,1,none⟩ = some (.int .i64 o.f1) /\ w'.cell? ⟨W.heap.size + 1,2,none⟩ = some (.int .i64 o.f2) /\ w'.cell? ⟨W.heap.size + 1,3,none⟩ = some (.int .i64 o.f3.f0) /\ w'.cell? ⟨W.heap.size + 1,4,none⟩ = some (.int .i64 o.f3.f1) /\ w'.cell? ⟨W.heap.size + 1,5,none⟩ = some (.int .i64 o.f3.f2) /\ w'.cell? ⟨W.heap.size + 1,6,none⟩ = some (.string o.f4) /\ w'.cell? ⟨W.heap.size + 1,7,none⟩ = some (.slice A7 o.f5.length c7) /\ w'.cell? ⟨W.heap.size + 1,8,none⟩ = some (.int .i64 o.f6) /\ w'.cell? ⟨W.heap.size + 1,9,none⟩ = some (.int .i64 o.f7) /\ w'.cell? ⟨W.heap.size + 1,10,none⟩ = some (.int .i64 o.f8))
  23 t_tree_checker_goes.bits1 t_tree_checker_goes.tab1 (hS:=⟨o0,o1,o2,o3,o4,o5,o6,o7,o8,o9,o10⟩) (h:=fun hS HT HW => ?_)
 refine tk HT HW hS 0 8 1 (h := ?_)
 refine ca HT 1 (some 9) 3 #[.agg #[.int .i64 o.f0, .int .i64 o.f1, .int .i64 o.f2, .int .i64 o.f3.f0, .int .i64 o.f3.f1, .int .i64 o.f3.f2, .string o.f4, .slice A7 o.f5.length c7, .int .i64 o.f6, .int .i64 o.f7, .int .i64 o.f8]] Tryz.func102 (h:=fun K hK => ?_)
 refine (HMC.out _ (Qae GB.out)).mono ?_
 rintro r w' ⟨rfl,hb⟩
 have HH:=Zz.k (Qas (Qae GB.out) hb)
 refine ⟨_,rfl, ?_⟩
 refine hK.out _ _ ⟨Qab hb o0,Qab hb o1,Qab hb o2,Qab hb o3,Qab hb o4,Qab hb o5,Qab hb o6,Qab hb o7,Qab hb o8,Qab hb o9,Qab hb o10⟩ (fun hS => ?_)
 clear hb hK hS o0 o1 o2 o3 o4 o5 o6 o7 o8 o9 o10 b0
 refine nm (h := ?_)
 refine pu HT 2 10 7 (h := ?_)
 refine pu HT 3 11 15 (h := ?_)
 refine off HT 4 12 31 (h := ?_)
 refine off HT 5 13 63 (h := ?_)
 refine off HT 6 14 127 (h := ?_)
 refine off HT 7 15 255 (h := ?_)
 refine off HT 8 16 511 (h := ?_)
 refine off HT 9 17 1023 (h := ?_)
 refine off HT 10 18 2047 (h := ?_)
 refine off HT 11 19 4095 (h := ?_)
 refine off HT 12 20 8191 (h := ?_)
 refine off HT 13 21 16383 (h := ?_)
 refine off HT 14 22 32767 (h := ?_)
 refine pu HT 15 23 65535 (h := ?_)
 refine pu HT 16 24 131071 (h := ?_)
 refine off HT 17 25 262143 (h := ?_)
 refine off HT 18 26 524287 (h := ?_)
 refine off HT 19 27 1048575 (h := ?_)
 refine off HT 20 28 2097151 (h := ?_)
 refine off HT 21 29 4194303 (h := ?_)
 refine pu HT 22 30 8388607 (h := ?_)
 refine dn HT (h := ?_)
 go_wp2
 go_ret
 exact ⟨rfl,HH.out⟩
end
section
attribute [local go_sem high] eqAElem
theorem goesB_pre {s : CS} {o : SOp} (h : preB s o = false) : goesB s o = (false,s):=by unfold goesB; rw [h]; rfl
theorem preB_seq {s : CS} {o : SOp} {z : Int} (hz : (s.Ah o.f0).getD 0 = z) (h : (o.f1 != wrap64 (z + 1)) = true) : preB s o = false:=by
 unfold preB; subst hz
 have : (o.f1 == wrap64 ((s.Ah o.f0).getD 0 + 1)) = false:=by simpa [bne] using h
 rw [this]; simp
theorem preB_after {s : CS} {o : SOp} (h : Qdh s.Sz o.f3 = false) : preB s o = false:=by unfold preB; rw [h]; simp
theorem preB_gone {s : CS} {o : SOp} (h : anyAt (fun i => !Qdh s.Sz (Qaa o.f5 i)) o.f5.length = true) : preB s o = false:=by unfold preB; rw [h]; simp
theorem preB_yes {s : CS} {o : SOp} {z : Int} (ho : opOk o = true) (hz : (s.Ah o.f0).getD 0 = z) (h : (o.f1 != wrap64 (z + 1)) = false) (h2 : Qdh s.Sz o.f3 = true) (h3 : anyAt (fun i => !Qdh s.Sz (Qaa o.f5 i)) o.f5.length = false) : preB s o = true:=by
 unfold preB; subst hz
 have : (o.f1 == wrap64 ((s.Ah o.f0).getD 0 + 1)) = true:=by simpa [bne] using h
 rw [ho,this,h2,h3]; rfl
theorem goesB_toggle {s : CS} {o : SOp} (h : preB s o = true) (hk : o.f2 = 2) : goesB s o = ((s.Sz (o.f6,o.f7)).isSome,ahead1 s o):=by unfold goesB; rw [if_pos h,if_pos hk]
theorem goesB_edit {s : CS} {o : SOp} (h : preB s o = true) (hk : ¬ o.f2 = 2) : goesB s o = (decide ((noted s o).all <= 200),noted s o):=by unfold goesB; rw [if_pos h,if_neg hk]
theorem frozen_grown {w w' : World} {row : Option Nat} {a : Addr} (hg : w.grownBy w' row) (hlt : a.block < w.heap.size) (hne : some a.block ≠ row) : w'.frozen? a = w.frozen? a:=World.frozen?_of_block (hg.block _ hlt hne)
theorem Qaz {w w' : World} {row : Option Nat} {a : Addr} {v : Value} (hg : w.grownBy w' row) (hne : some a.block ≠ row) (hc : w.cell? a = some v) : w'.cell? a = some v:=(World.cell?_of_block (hg.block _ (World.block_lt_of_cell? w a hc) hne)).trans hc
theorem Chk.ahead {w5 w6 : World} {C bS bA n : Nat} {s : CS} {o : SOp} (h : Chk w5 C bS bA n s) (hne : bS ≠ bA) (hCA : C ≠ bA) (hm : MapS w6 bA (n + 1) (upd s.Ah o.f0 (wrap64 ((s.Ah o.f0).getD 0 + 1)))) (hg : w5.grownBy w6 (some bA)) : Chk w6 C bS bA (n + 1) (ahead1 s o):=by
 obtain ⟨h1,h2,h3,h4,h5,h6⟩:=h
 have hc : some C ≠ some bA:=fun e => hCA (Zo e)
 exact ⟨Qaz hg hc h1,Qaz hg hc h2,Qaz hg hc h3,(frozen_grown hg (World.block_lt_of_cell? _ _ h3) hc).trans h4,(h5.kept hg (fun e => hne (Zo e))).more (Nat.le_succ n),hm⟩
theorem goes_grown {W w5 w6 : World} {C bS bA n : Nat} {s' : CS} (hb : Below W.heap.size W w5) (hg : w5.grownBy w6 (some bA)) (b : Bool) (hc : Chk w6 C bS bA (n + 1) s') : Qcj W C bS bA n (b,s') w6 :=
 ⟨fun _ => hc,Kept.of_grown hg (Kept.of_below hb _) (fun k hk => .inl (.inr (.inr (Zo hk).symm))),fun B h1 h2 h3 h4 => (hb.mono h4).grown hg (Nat.le_trans h4 hb.size) (fun k hk => by cases hk; exact h3)⟩
theorem Qcj.below {W w6 w7 : World} {C bS bA n : Nat} {r : Bool × CS} (h : Qcj W C bS bA n r w6) (hb : Below w6.heap.size w6 w7) (hCS : ∀ B,B <= C -> B <= bS -> B <= bA -> B <= W.heap.size -> B <= w6.heap.size) : Qcj W C bS bA n r w7 :=
 ⟨fun e => (h.1 e).below hb,h.2.1.below hb,fun B h1 h2 h3 h4 => (h.2.2 B h1 h2 h3 h4).trans (hb.mono (hCS B h1 h2 h3 h4))⟩
theorem block_ne_map {κ : Type} {enc : κ -> Value} {K E : TypeId} {w : World} {b n : Nat} {S : κ -> Option Int} (h : MapK enc K E w b n S) {ad : Addr} (hc : w.cell? ad ≠ none) : ad.block ≠ b:=by
 obtain ⟨D,⟨es,clock,h1,_⟩,_⟩:=h
 rintro rfl
 exact hc (by simp [World.cell?,h1])
theorem C_grown {w w' : World} {b n m : Nat} {κ : Type} {enc : κ -> Value} {K E : TypeId} {S : κ -> Option Int} {A : Option Addr} {xs : List SElem} (hM : MapK enc K E w b n S) (hg : w.grownBy w' (some b)) (h : Qap.C w A m xs) : Qap.C w' A m xs :=
 Kd.C_foot_neS (S:=fun k => k = b) (fun h => h) h (fun ad hA hm => by subst hA; exact block_ne_map hM (Kd.C_not_empty h hm (by decide))) w' (Kept.of_grown hg (Kept.refl _ _) (fun k hk => .inl (Zo hk).symm))
theorem opOk_size {o : SOp} (h : opOk o = true) : Qaj o <= 12:=by
 rcases opOk_kind h with ⟨_,h⟩ | ⟨_,h⟩
 ·unfold editOk at h; simp only [Bool.and_eq_true,decide_eq_true_eq] at h; omega
 ·unfold Qch at h; simp only [Bool.and_eq_true] at h
  have e:=List.isEmpty_iff.1 h.1.2
  have e2 : o.f4.size = 0:=by rw [<- data_length,<- ByteArray.toList_eq,e]; rfl
  unfold Qaj Qba
  rw [e2]
  simp [Qca]
theorem goes_noted {W w7 w8 : World} {C bS bA n : Nat} {s : CS} {o : SOp} (h1 : w8.cell? ⟨C,0,none⟩ = some (.map (some bS))) (h2 : w8.cell? ⟨C,1,none⟩ = some (.map (some bA))) (h3 : w8.cell? ⟨C,2,none⟩ = some (.int .i64 s.all)) (h4 : w8.frozen? ⟨C,2,none⟩ = false)
  (hm : MapN w8 bS (n + 1) (upd s.Sz (o.f0,o.f1) (Qaj o))) (ha : MapS w8 bA (n + 1) (ahead1 s o).Ah) (hCS : C ≠ bS) (hCA : C ≠ bA) (hk : Kept W w7 (Three C bS bA)) (hb : ∀ B,B <= C -> B <= bS -> B <= bA -> B <= W.heap.size -> Below B W w7 /\ B <= w7.heap.size) (hg : w7.grownBy w8 (some bS)) (b : Bool) :
  Qcj W C bS bA n (b,noted s o) (w8.setCell ⟨C,2,none⟩ (.int .i64 (wrap64 (s.all + (Qaj o : Int))))):=by
 refine ⟨fun _ => ⟨?_, ?_, ?_, ?_, ?_, ?_⟩, ?_, ?_⟩
 ·exact (World.cell?_setCell_other w8 ⟨C,2,none⟩ ⟨C,0,none⟩ _ (fun e => by injection e with _ e2; cases e2)).trans h1
 ·exact (World.cell?_setCell_other w8 ⟨C,2,none⟩ ⟨C,1,none⟩ _ (fun e => by injection e with _ e2; cases e2)).trans h2
 ·exact World.cell?_setCell_same w8 ⟨C,2,none⟩ _ h3
 ·rw [World.frozen?_setCell]; exact h4
 ·exact MapK.setCell hm hCS.symm _
 ·exact MapK.setCell ha hCA.symm _
 ·exact (Kept.of_grown hg hk (fun k hk => .inl (.inr (.inl (Zo hk).symm)))).setCell (.inl (.inl rfl)) _
 ·intro B h1 h2 h3 h4
  obtain ⟨hx,hy⟩:=hb B h1 h2 h3 h4
  exact (hx.grown hg hy (fun k hk => by cases hk; exact h2)).setCell h1 _
theorem goes_yes (C bS bA n : Nat) (s : CS) (o : SOp) (A7 : Option Addr) (c7 : Nat) (W : World) (hne : bS ≠ bA) (hCS : C ≠ bS) (hCA : C ≠ bA) (hn : n < maxLen) (hck : Chk W C bS bA n s) (hl : o.f5.length <= c7) (hr : Qap.C W A7 o.f5.length o.f5) (hsm : Sm o) (ho : opOk o = true) :
  Calls Tryz.prog 75 #[.pointer (some ⟨C,0,none⟩),opV o A7 c7] W fun r w' => r = .returned (.bool (goesB s o).1) /\ Qcj W C bS bA n (goesB s o) w':=by
 obtain ⟨K,hK⟩:=(op_May_f o hsm).rounds
 rw [ho] at hK
 have HK:=Zz.k hK
 have HCK:=Zz.k hck
 have HR:=Zz.k hr
 have HL:=Zz.k hl
 have HO:=Zz.k ho
 obtain ⟨h1,h2,h3,h4,h5,h6⟩:=hck
 have lC:=World.block_lt_of_cell? W _ h1
 have lS:=h5.lt
 have lA:=h6.lt
 simp only at lC
 have hLk:=h6.look lawI Tryz.underlying102 Tryz.underlying3 zeroI o.f0 (keyI (opOk_name ho).1)
 have HLk:=Zz.k (fun (X : World) (hb : Below W.heap.size W X) => (h6.below hb lA).look lawI Tryz.underlying102 Tryz.underlying3 zeroI o.f0 (keyI (opOk_name ho).1))
 have HWr:=Zz.k (fun (X : World) (hb : Below W.heap.size W X) => written_calls C bS n o.f3 s.Sz X (Qab hb h1) (h5.below hb lS) (fun hz => opOk_after ho hz))
 simp only [elV] at HWr
 simp only [encI] at HLk
 generalize hz : (s.Ah o.f0).getD 0 = z at HLk
 generalize hwa : Qdh s.Sz o.f3 = wa at HWr
 have HZ:=Zz.k hz
 have HWA:=Zz.k hwa
 clear hr hK hl ho h5 h6 hLk hz hwa h3 h4
 unfold opV
 go_enter Tryz.func75,Tryz.ntmps75
 go_wp2_with fail
 refine two_boxes (Q:=Code.wp _ _ _ _) W _ _ _ _ (fun w2 g1 g2 gB gS => ?_)
 have b0:=g1 0
 have o0:=g2 0; have o1:=g2 1; have o2:=g2 2; have o3:=g2 3; have o4:=g2 4; have o5:=g2 5; have o6:=g2 6; have o7:=g2 7; have o8:=g2 8; have o9:=g2 9; have o10:=g2 10
 simp only [List.getElem?_toArray,List.getElem?_cons_zero,List.getElem?_cons_succ] at b0 o0 o1 o2 o3 o4 o5 o6 o7 o8 o9 o10
 clear g1 g2
 have hmc:=fun (X : World) (hb : Below W.heap.size W X) => op_May.calls K o.f0 o.f1 o.f2 o.f3.f0 o.f3.f1 o.f3.f2 o.f4 A7 c7 o.f5 o.f6 o.f7 o.f8 true X (Kd.C_below HR.out hb) HL.out HK.out
 have HMC:=Zz.k hmc
 clear hmc gS
 have k1:=Qab gB h1
 have k2:=Qab gB h2
 have gS:=HLk.out _ (Qae gB)
 clear h1 h2
 refine stR (S:=fun w' => w'.cell? ⟨W.heap.size + 1,0,none⟩ = some (.int .i64 o.f0) /\ w'.cell? ⟨W.heap.size + 1,1,none⟩ = some (.int .i64 o.f1) /\ w'.cell? ⟨W.heap.size + 1,2,none⟩ = some (.int .i64 o.f2) /\ w'.cell? ⟨W.heap.size + 1,3,none⟩ = some (.int .i64 o.f3.f0) /\ w'.cell? ⟨W.heap.size + 1,4,none⟩ = some (.int .i64 o.f3.f1) /\ w'.cell? ⟨W.heap.size + 1,5,none⟩ = some (.int .i64 o.f3.f2) /\ w'.cell? ⟨W.heap.size + 1,6,none⟩ = some (.string o.f4) /\ w'.cell? ⟨W.heap.size + 1,7,none⟩ = some (.slice A7 o.f5.length c7) /\ w'.cell? ⟨W.heap.size + 1,8,none⟩ = some (.int .i64 o.f6) /\ w'.cell? ⟨W.heap.size + 1,9,none⟩ = some (.int .i64 o.f7) /\ w'.cell? ⟨W.heap.size + 1,10,none⟩ = some (.int .i64 o.f8) /\
   w'.cell? ⟨W.heap.size,0,none⟩ = some (.pointer (some ⟨C,0,none⟩)) /\ w'.cell? ⟨C,0,none⟩ = some (.map (some bS)) /\ w'.cell? ⟨C,1,none⟩ = some (.map (some bA)) /\ (Instr.lookup 102 (.map (some bA)) (.int .i64 o.f0) false).run Tryz.prog w' = .ok (.int .i64 z) w' /\ Below W.heap.size W w')
  23 t_tree_checker_goes.bits1 t_tree_checker_goes.tab1 (hS:=⟨o0,o1,o2,o3,o4,o5,o6,o7,o8,o9,o10,b0,k1,k2,gS,Qae gB⟩) (h:=fun hS HT HW => ?_)
 clear gS gB o0 o1 o2 o3 o4 o5 o6 o7 o8 o9 o10 b0 k1 k2
 refine tk HT HW hS 0 8 1 (h := ?_)
 refine ca HT 1 (some 9) 3 #[.agg #[.int .i64 o.f0, .int .i64 o.f1, .int .i64 o.f2, .int .i64 o.f3.f0, .int .i64 o.f3.f1, .int .i64 o.f3.f2, .string o.f4, .slice A7 o.f5.length c7, .int .i64 o.f6, .int .i64 o.f7, .int .i64 o.f8]] Tryz.func102 (h:=fun K hK => ?_)
 obtain ⟨o0,o1,o2,o3,o4,o5,o6,o7,o8,o9,o10,b0,k1,k2,gS,gB⟩:=hS
 refine (HMC.out _ gB).mono ?_
 rintro r w' ⟨rfl,hb⟩
 refine ⟨_,rfl, ?_⟩
 refine hK.out _ _ ⟨Qab hb o0,Qab hb o1,Qab hb o2,Qab hb o3,Qab hb o4,Qab hb o5,Qab hb o6,Qab hb o7,Qab hb o8,Qab hb o9,Qab hb o10,Qab hb b0,Qab hb k1,Qab hb k2,HLk.out _ (Qas gB hb),Qas gB hb⟩ (fun hS => ?_)
 clear hb hK gS gB o0 o1 o2 o3 o4 o5 o6 o7 o8 o9 o10 b0 k1 k2
 refine nm (h := ?_)
 refine pu HT 2 10 7 (h := ?_)
 refine pu HT 3 11 15 (h := ?_)
 refine pu HT 4 12 31 (h := ?_)
 refine tk HT HW hS 5 13 63 (h := ?_)
 refine tk HT HW hS 6 14 127 (h := ?_)
 refine pu HT 7 15 255 (h := ?_)
 refine pu HT 8 16 511 (h := ?_)
 refine tk HT HW hS 9 17 1023 (h := ?_)
 refine pu HT 10 18 2047 (h := ?_)
 refine tk HT HW hS 11 19 4095 (h := ?_)
 refine tk HT HW hS 12 20 8191 (h := ?_)
 refine pu HT 13 21 16383 (h := ?_)
 refine pu HT 14 22 32767 (h := ?_)
 refine pu HT 15 23 65535 (h := ?_)
 refine pu HT 16 24 131071 (h := ?_)
 cases hq : (o.f1 != wrap64 (z + 1)) with
 | true =>
  refine off HT 17 25 262143 (h := ?_)
  refine off HT 18 26 524287 (h := ?_)
  refine off HT 19 27 1048575 (h := ?_)
  refine off HT 20 28 2097151 (h := ?_)
  refine off HT 21 29 4194303 (h := ?_)
  refine pu HT 22 30 8388607 (h := ?_)
  refine dn HT (h := ?_)
  have HX:=Zz.k hS.2.2.2.2.2.2.2.2.2.2.2.2.2.2.2
  have HQ:=Zz.k (goesB_pre (preB_seq HZ.out hq))
  clear hS hq
  go_wp2
  go_ret
  rw [HQ.out]
  exact ⟨rfl,Qcj.stays HX.out⟩
 | false =>
  refine tk HT HW hS 17 25 262143 (h := ?_)
  refine pu HT 18 26 524287 (h := ?_)
  refine tk HT HW hS 19 27 1048575 (h := ?_)
  refine ca HT 20 (some 28) 2097151 #[.pointer (some ⟨C,0,none⟩), .agg #[.int .i64 o.f3.f0, .int .i64 o.f3.f1, .int .i64 o.f3.f2]] Tryz.func103 (h:=fun K hK => ?_)
  obtain ⟨o0,o1,o2,o3,o4,o5,o6,o7,o8,o9,o10,b0,k1,k2,gS,gB⟩:=hS
  refine (HWr.out _ gB).mono ?_
  rintro r w'' ⟨rfl,hb⟩
  refine ⟨_,rfl, ?_⟩
  refine hK.out _ _ ⟨Qab hb o0,Qab hb o1,Qab hb o2,Qab hb o3,Qab hb o4,Qab hb o5,Qab hb o6,Qab hb o7,Qab hb o8,Qab hb o9,Qab hb o10,Qab hb b0,Qab hb k1,Qab hb k2,HLk.out _ (Qas gB hb),Qas gB hb⟩ (fun hS => ?_)
  clear hb hK gS gB o0 o1 o2 o3 o4 o5 o6 o7 o8 o9 o10 b0 k1 k2 w'
  refine nm (h := ?_)
  refine pu HT 21 29 4194303 (h := ?_)
  refine pu HT 22 30 8388607 (h := ?_)
  refine dn HT (h := ?_)
  obtain ⟨o0,o1,o2,o3,o4,o5,o6,o7,o8,o9,o10,b0,k1,k2,gS,gB⟩:=hS
  have GB:=Zz.k gB
  clear HT HW gS gB
  have HSQ:=Zz.k hq
  clear hq
  cases wa with
  | false =>
   have HQ:=Zz.k (goesB_pre (preB_after HWA.out))
   go_wp2
   go_ret
   rw [HQ.out]
   exact ⟨rfl,Qcj.stays GB.out⟩
  | true =>
   have hcf:=ContainsFuncElem 105 #[.pointer (some ⟨W.heap.size,0,none⟩)] A7 c7 o.f5 (fun i => !Qdh s.Sz (Qaa o.f5 i)) (fun _ X => Below w''.heap.size w'' X) (fun _ X => Below w''.heap.size w'' X) w''
    (enters_at Tryz.func105 (by kernel_rfl) (by rfl)) hsm.2 (Below.refl _ _) (fun i X hX => Kd.C_below HR.out (Qas GB.out hX))
    (fun i X hi hX => (goes1_calls W.heap.size C bS n (Qaa o.f5 i) s.Sz X (Qab hX b0) (Qab (Qas GB.out hX) HCK.out.1) (HCK.out.2.2.2.2.1.below (Qas GB.out hX) lS) (fun hz => opOk_gone HO.out i hi hz)).mono
     (fun e w' h => ⟨h.1,fun _ => Qas hX h.2,fun _ => Qas hX h.2⟩))
   go_wp2_with fail
   refine hcf.mono ?_
   rintro r w5 ⟨rfl,hf⟩
   have hb5 : Below w''.heap.size w'' w5:=by rcases hf with ⟨_,_,_,_,h⟩ | ⟨_,h⟩ <;> exact h
   have HB5:=Zz.k (Qas GB.out hb5)
   have c0:=Qab hb5 o0; have c1:=Qab hb5 o1; have c2:=Qab hb5 o2; have c3:=Qab hb5 o3; have c4:=Qab hb5 o4; have c5:=Qab hb5 o5; have c6:=Qab hb5 o6; have c7':=Qab hb5 o7; have c10:=Qab hb5 o10; have c8:=Qab hb5 o8; have c9:=Qab hb5 o9; have d0:=Qab hb5 b0; have e1:=Qab hb5 k1; have e2:=Qab hb5 k2
   clear hf hb5 o0 o1 o2 o3 o4 o5 o6 o7 o8 o9 o10 b0 k1 k2 hcf HWr HMC
   generalize hga : anyAt (fun i => !Qdh s.Sz (Qaa o.f5 i)) o.f5.length = ga
   have HGA:=Zz.k hga
   clear hga
   cases ga with
   | true =>
    have HQ:=Zz.k (goesB_pre (preB_gone HGA.out))
    go_wp2
    go_ret
    rw [HQ.out]
    exact ⟨rfl,Qcj.stays HB5.out⟩
   | false =>
    have HPR:=Zz.k (preB_yes HO.out HZ.out HSQ.out HWA.out HGA.out)
    have hck5:=HCK.out.below (Qae HB5.out)
    obtain ⟨w6,hrun,hm6,hg6⟩:=hck5.2.2.2.2.2.store lawI Tryz.underlying102 Tryz.underlying3 hn encI_inj o.f0 (wrap64 ((s.Ah o.f0).getD 0 + 1)) (wrap64_wf _) (keyI (opOk_name HO.out).1)
    have hck6:=hck5.ahead (o:=o) hne hCA hm6 hg6
    rw [HZ.out] at hrun
    simp only [encI] at hrun
    have HLq:=HLk.out _ (Qae HB5.out)
    have lB : W.heap.size + 1 ≠ bA:=by omega
    have lB0 : W.heap.size ≠ bA:=by omega
    have f0:=Qaz hg6 (fun e => lB (Zo e)) c0; have f1:=Qaz hg6 (fun e => lB (Zo e)) c1; have f2:=Qaz hg6 (fun e => lB (Zo e)) c2; have f6:=Qaz hg6 (fun e => lB (Zo e)) c6
    have HCK6:=Zz.k hck6
    have HG6:=Zz.k hg6
    clear hck5 hck6 hg6 hm6 HSQ HWA HGA
    go_wp2
    refine stL (S:=fun w' => w'.cell? ⟨W.heap.size,0,none⟩ = some (.pointer (some ⟨C,0,none⟩)) /\ w'.cell? ⟨C,1,none⟩ = some (.map (some bA)) /\ w'.cell? ⟨W.heap.size + 1,0,none⟩ = some (.int .i64 o.f0) /\ (Instr.lookup 102 (.map (some bA)) (.int .i64 o.f0) false).run Tryz.prog w' = .ok (.int .i64 z) w')
     [8] 9 t_tree_checker_goes.bits5 t_tree_checker_goes.tab5 (hS:=⟨d0,e2,c0,HLq⟩) (h:=fun hS HT HW => ?_)
    refine tk HT HW hS 0 35 1 (h := ?_)
    refine pu HT 1 36 3 (h := ?_)
    refine pu HT 2 37 7 (h := ?_)
    refine tk HT HW hS 3 38 15 (h := ?_)
    refine pu HT 4 39 31 (h := ?_)
    refine tk HT HW hS 5 40 63 (h := ?_)
    refine tk HT HW hS 6 41 127 (h := ?_)
    refine pu HT 7 42 255 (h := ?_)
    refine mu HT 8 511 w6 (hrun:=hrun) (h := ?_)
    refine dn HT (h := ?_)
    clear HT HW hS HLq
    by_cases hk : o.f2 = 2
    ·have HQ:=Zz.k (goesB_toggle HPR.out hk)
     obtain ⟨i6,i7⟩:=opOk_of HO.out hk
     obtain ⟨kl,hkl⟩:=keyN (x:=(o.f6,o.f7)) i6 i7
     have HLN:=HCK6.out.2.2.2.2.1.lookOk lawN Tryz.underlying101 Tryz.underlying3 zeroI (o.f6,o.f7) hkl
     simp only [encN] at HLN
     have HLM : (Instr.lookup 101 (.map (some bS)) (.agg #[.int .i64 o.f6, .int .i64 o.f7]) true).run Tryz.prog w6.drew = .ok (.tuple #[.int .i64 (((ahead1 s o).Sz (o.f6,o.f7)).getD 0), .bool ((ahead1 s o).Sz (o.f6,o.f7)).isSome]) w6.drew:=by
      have:=(HCK6.out.below (Qae (Below.refl _ w6))).2.2.2.2.1.lookOk lawN Tryz.underlying101 Tryz.underlying3 zeroI (o.f6,o.f7) hkl
      simpa only [encN] using this
     have p0:=Qaz HG6.out (fun e => lB0 (Zo e)) (show (w5.drew).cell? ⟨W.heap.size,0,none⟩ = _ from d0)
     have p1:=HCK6.out.1
     have p8:=Qaz HG6.out (fun e => lB (Zo e)) (show (w5.drew).cell? ⟨W.heap.size + 1,8,none⟩ = _ from c8)
     have p9:=Qaz HG6.out (fun e => lB (Zo e)) (show (w5.drew).cell? ⟨W.heap.size + 1,9,none⟩ = _ from c9)
     have hkd : (o.f2 == 2) = true:=by simp [hk]
     have hkd' : decide (o.f2 = 2) = true:=by simp [hk]
     clear hk i6 i7 hkl HLN c0 c1 c2 c3 c4 c5 c6 c7' c8 c9 c10 d0 e1 e2 f0 f1 f6
     generalize hzz : ((ahead1 s o).Sz (o.f6,o.f7)).getD 0 = zz at HLM
     have hyy : (s.Sz (o.f6,o.f7)).isSome = ((ahead1 s o).Sz (o.f6,o.f7)).isSome:=rfl
     generalize ((ahead1 s o).Sz (o.f6,o.f7)).isSome = yy at HLM hyy
     have HYY:=Zz.k hyy
     clear hzz hyy
     go_wp2
     refine stR (S:=fun w' => w'.cell? ⟨W.heap.size,0,none⟩ = some (.pointer (some ⟨C,0,none⟩)) /\ w'.cell? ⟨C,0,none⟩ = some (.map (some bS)) /\ w'.cell? ⟨W.heap.size + 1,8,none⟩ = some (.int .i64 o.f6) /\ w'.cell? ⟨W.heap.size + 1,9,none⟩ = some (.int .i64 o.f7) /\ (Instr.lookup 101 (.map (some bS)) (.agg #[.int .i64 o.f6, .int .i64 o.f7]) true).run Tryz.prog w' = .ok (.tuple #[.int .i64 zz, .bool yy]) w')
      15 t_tree_checker_goes.bits7 t_tree_checker_goes.tab7 (hS:=⟨p0,p1,p8,p9,HLM⟩) (h:=fun hS HT HW => ?_)
     refine tk HT HW hS 0 47 1 (h := ?_)
     refine pu HT 1 48 3 (h := ?_)
     refine pu HT 2 49 7 (h := ?_)
     refine tk HT HW hS 3 50 15 (h := ?_)
     refine pu HT 4 51 31 (h := ?_)
     refine tk HT HW hS 5 52 63 (h := ?_)
     refine pu HT 6 53 127 (h := ?_)
     refine tk HT HW hS 7 54 255 (h := ?_)
     refine pu HT 8 55 511 (h := ?_)
     refine tk HT HW hS 9 56 1023 (h := ?_)
     refine pu HT 10 46 2047 (h := ?_)
     refine pu HT 11 57 4095 (h := ?_)
     refine pu HT 12 58 8191 (h := ?_)
     refine pu HT 13 5 16383 (h := ?_)
     refine pu HT 14 6 32767 (h := ?_)
     refine dn HT (h := ?_)
     clear HT HW hS
     go_wp2
     go_ret
     rw [HQ.out,HYY.out]
     exact ⟨rfl,(goes_grown (Qae HB5.out) HG6.out _ HCK6.out).below (Qae (Below.refl _ w6)) (fun B _ _ _ h => Nat.le_trans h (Nat.le_trans HB5.out.size HG6.out.size))⟩
    ·have HQ:=Zz.k (goesB_edit HPR.out hk)
     have hkd : (o.f2 == 2) = false:=by simp [hk]
     have hkd' : decide (o.f2 = 2) = false:=by simp [hk]
     have hr6 : Qap.C w6 A7 o.f5.length o.f5:=C_grown ((HCK.out.below (Qae HB5.out)).2.2.2.2.2) HG6.out (Kd.C_below HR.out (Qae HB5.out))
     have hsz:=op_Size.calls o.f0 o.f1 o.f2 o.f3.f0 o.f3.f1 o.f3.f2 o.f4 A7 c7 o.f5 o.f6 o.f7 o.f8 (Qaj o : Int) w6 hr6 HL.out (op_Size_f o hsm)
     have f3:=Qaz HG6.out (fun e => lB (Zo e)) (show (w5.drew).cell? ⟨W.heap.size + 1,3,none⟩ = _ from c3)
     have f4:=Qaz HG6.out (fun e => lB (Zo e)) (show (w5.drew).cell? ⟨W.heap.size + 1,4,none⟩ = _ from c4)
     have f5:=Qaz HG6.out (fun e => lB (Zo e)) (show (w5.drew).cell? ⟨W.heap.size + 1,5,none⟩ = _ from c5)
     have f7:=Qaz HG6.out (fun e => lB (Zo e)) (show (w5.drew).cell? ⟨W.heap.size + 1,7,none⟩ = _ from c7')
     have f8:=Qaz HG6.out (fun e => lB (Zo e)) (show (w5.drew).cell? ⟨W.heap.size + 1,8,none⟩ = _ from c8)
     have f9:=Qaz HG6.out (fun e => lB (Zo e)) (show (w5.drew).cell? ⟨W.heap.size + 1,9,none⟩ = _ from c9)
     have f10:=Qaz HG6.out (fun e => lB (Zo e)) (show (w5.drew).cell? ⟨W.heap.size + 1,10,none⟩ = _ from c10)
     have p0:=Qaz HG6.out (fun e => lB0 (Zo e)) (show (w5.drew).cell? ⟨W.heap.size,0,none⟩ = _ from d0)
     clear c0 c1 c2 c3 c4 c5 c6 c7' c8 c9 c10 d0 e1 e2 hk hr6
     have HX6:=Zz.k (Qae HB5.out)
     go_wp2_with fail
     refine hsz.mono ?_
     rintro r w7 ⟨rfl,hb7⟩
     have hM7 : MapN w7.drew bS n s.Sz:=MapK.below (MapK.kept (HCK.out.below (Qae HB5.out)).2.2.2.2.1 HG6.out (fun e => hne (Zo e))) (Qae hb7) (Nat.lt_of_lt_of_le lS (Nat.le_trans HB5.out.size HG6.out.size))
     have hck7:=HCK6.out.below (Qae hb7)
     have hwf : (Lit.int .i64 (Qaj o : Int)).wf = true:=WalkArith.wf_i64 (by have:=opOk_size HO.out; constructor <;> omega)
     obtain ⟨i0,i1⟩:=opOk_name HO.out
     obtain ⟨kl,hkl⟩:=keyN (x:=(o.f0,o.f1)) i0 i1
     obtain ⟨w8,hrun8,hm8,hg8⟩:=hM7.store lawN Tryz.underlying101 Tryz.underlying3 hn encN_inj (o.f0,o.f1) (Qaj o : Int) hwf hkl
     simp only [encN] at hrun8
     have lS0 : W.heap.size ≠ bS:=by omega
     have hCS' : some C ≠ some bS:=fun e => hCS (Zo e)
     have p0':=Qab (Qae hb7) p0
     have t0:=Qab (Qae hb7) f0
     have t1:=Qab (Qae hb7) f1
     have p1:=hck7.1
     have q0:=Qaz hg8 (fun e => lS0 (Zo e)) p0'
     have q2:=Qaz hg8 hCS' hck7.2.2.1
     have q3:=(frozen_grown hg8 (World.block_lt_of_cell? _ _ hck7.2.2.1) hCS').trans hck7.2.2.2.1
     have q1:=Qaz hg8 hCS' hck7.1
     have q1':=Qaz hg8 hCS' hck7.2.1
     have hm8a : MapS w8 bA (n + 1) (ahead1 s o).Ah:=hck7.2.2.2.2.2.kept hg8 (fun e => hne (Zo e).symm)
     have HM8:=Zz.k hm8
     have HM8a:=Zz.k hm8a
     have HG8:=Zz.k hg8
     have HB7:=Zz.k hb7
     clear hm8 hm8a hg8 hb7 hck7 hM7 hwf i0 i1 hkl f0 f1 f2 f3 f4 f5 f6 f7 f8 f9 f10 p0 hsz hkd hkd'
     have hall : ((ahead1 s o).all) = s.all:=rfl
     rw [hall] at q2
     go_wp2
     refine stL (S:=fun w' => w'.cell? ⟨W.heap.size,0,none⟩ = some (.pointer (some ⟨C,0,none⟩)) /\ w'.cell? ⟨C,0,none⟩ = some (.map (some bS)) /\ w'.cell? ⟨W.heap.size + 1,0,none⟩ = some (.int .i64 o.f0) /\ w'.cell? ⟨W.heap.size + 1,1,none⟩ = some (.int .i64 o.f1))
      [10] 11 t_tree_checker_goes.bits10 t_tree_checker_goes.tab10 (hS:=⟨p0',p1,t0,t1⟩) (h:=fun hS HT HW => ?_)
     refine tk HT HW hS 0 62 1 (h := ?_)
     refine pu HT 1 63 3 (h := ?_)
     refine pu HT 2 64 7 (h := ?_)
     refine tk HT HW hS 3 65 15 (h := ?_)
     refine pu HT 4 66 31 (h := ?_)
     refine tk HT HW hS 5 67 63 (h := ?_)
     refine pu HT 6 68 127 (h := ?_)
     refine tk HT HW hS 7 69 255 (h := ?_)
     refine pu HT 8 70 511 (h := ?_)
     refine pu HT 9 71 1023 (h := ?_)
     refine mu HT 10 2047 w8 (hrun:=hrun8) (h := ?_)
     refine dn HT (h := ?_)
     clear HT HW hS p0' p1 t0 t1 hrun8 hrun
     go_wp2
     go_ret
     rw [HQ.out]
     have hK7 : Kept W w7.drew (Three C bS bA):=((goes_grown (n:=n) HX6.out HG6.out true HCK6.out).2.1.below HB7.out).drew
     have hB7 : ∀ B,B <= C -> B <= bS -> B <= bA -> B <= W.heap.size -> Below B W w7.drew /\ B <= w7.drew.heap.size:=fun B h1 h2 h3 h4 => by
      have hs : B <= w6.heap.size:=Nat.le_trans h4 (Nat.le_trans HX6.out.size HG6.out.size)
      exact ⟨(((goes_grown (n:=n) HX6.out HG6.out true HCK6.out).2.2 B h1 h2 h3 h4).trans (HB7.out.mono hs)).drew,Nat.le_trans hs HB7.out.size⟩
     exact ⟨rfl,goes_noted q1 q1' q2 q3 HM8.out HM8a.out hCS hCA hK7 hB7 HG8.out _⟩
end
section
attribute [local go_sem high] eqAElem
theorem goes_calls (C bS bA n : Nat) (s : CS) (o : SOp) (A7 : Option Addr) (c7 : Nat) (W : World) (hne : bS ≠ bA) (hCS : C ≠ bS) (hCA : C ≠ bA) (hn : n < maxLen) (hck : Chk W C bS bA n s) (hl : o.f5.length <= c7) (hr : Qap.C W A7 o.f5.length o.f5) (hsm : Sm o) :
  Calls Tryz.prog 75 #[.pointer (some ⟨C,0,none⟩),opV o A7 c7] W fun r w' => r = .returned (.bool (goesB s o).1) /\ Qcj W C bS bA n (goesB s o) w':=by
 cases ho : opOk o with
 | true => exact goes_yes C bS bA n s o A7 c7 W hne hCS hCA hn hck hl hr hsm ho
 | false =>
  rw [goesB_pre (by unfold preB; rw [ho]; rfl)]
  exact (goes_no C bS bA n s o A7 c7 W hck hl hr hsm ho).mono (fun r w' h => ⟨h.1,Qcj.stays h.2⟩)
def cs0 : CS:=⟨fun _ => none,fun _ => none,0⟩
def st (l : List SOp) : Nat -> CS
 | 0 => cs0
 | i + 1 => (goesB (st l i) (Qad l i)).2
def badAt (l : List SOp) (i : Nat) : Bool:=!(goesB (st l i) (Qad l i)).1
def mayB (l : List SOp) : Bool:=decide (l.length <= 40) && !anyAt (badAt l) l.length
def SmB (o : SOp) : Bool:=decide (o.f4.size < 9223372036854775807) && decide (o.f5.length <= 9223372036854775807)
theorem SmB_Sm {o : SOp} (h : SmB o = true) : Sm o:=by
 unfold SmB at h; simp only [Bool.and_eq_true,decide_eq_true_eq] at h; exact h
def smalls (l : List SOp) : Bool:=decide (l.length <= 9223372036854775807) && l.all SmB
theorem Qar (l : List SOp) (i : Nat) (h : i < l.length) : Qad l (i : Int) = l[i]:=by
 unfold Qad; simp [h]
theorem smalls_at {l : List SOp} (h : smalls l = true) {i : Nat} (hi : i < l.length) : Sm (Qad l i):=by
 unfold smalls at h; simp only [Bool.and_eq_true] at h
 rw [Qar _ _ hi]
 exact SmB_Sm (List.all_eq_true.1 h.2 _ (List.getElem_mem hi))
def tree_May.f (l : List SOp) : Option Bool:=if smalls l = true then some (mayB l) else none
theorem may1_calls (cb C bS bA n : Nat) (s : CS) (o : SOp) (A7 : Option Addr) (c7 : Nat) (W : World) (hcb : W.cell? ⟨cb,0,none⟩ = some (.pointer (some ⟨C,0,none⟩))) (hne : bS ≠ bA) (hCS : C ≠ bS) (hCA : C ≠ bA) (hn : n < maxLen) (hck : Chk W C bS bA n s) (hl : o.f5.length <= c7) (hr : Qap.C W A7 o.f5.length o.f5) (hsm : Sm o) :
  Calls Tryz.prog 74 #[opV o A7 c7, .pointer (some ⟨cb,0,none⟩)] W fun r w' => r = .returned (.bool (!(goesB s o).1)) /\ Qcj W C bS bA n (goesB s o) w':=by
 have lb:=World.block_lt_of_cell? W _ hcb
 simp only at lb
 have HW:=Zz.k (fun (W' : World) (hb : Below W.heap.size W W') => goes_calls C bS bA n s o A7 c7 W' hne hCS hCA hn (hck.below hb) hl (Kd.C_below hr hb) hsm)
 unfold opV at HW ⊢
 generalize hg : goesB s o = g at HW ⊢
 have lC:=World.block_lt_of_cell? W _ hck.1
 have HP:=Zz.k (fun (w' w2 : World) (hb : Below W.heap.size W w') (h : Qcj w' C bS bA n g w2) => (⟨h.1,(Kept.of_below hb _).then_ h.2.1 (fun k hk => .inl hk),fun B h1 h2 h3 h4 => (hb.mono h4).trans (h.2.2 B h1 h2 h3 (Nat.le_trans h4 hb.size))⟩ : Qcj W C bS bA n g w2))
 clear hck hr hl hsm hg hne hCS hCA hn
 go_enter Tryz.func74,Tryz.ntmps74
 go_wp2_with fail
 refine (HW.out _ ((Below.refl _ _).alloc (Nat.le_refl _) _)).mono ?_
 rintro r w' ⟨rfl,hb⟩
 have HB:=Zz.k (HP.out _ _ ((Below.refl _ _).alloc (Nat.le_refl _) _) hb)
 clear hb
 go_wp2
 go_ret
 exact ⟨rfl,HB.out⟩
theorem mk_run (t : TypeId) (w : World) : (Instr.makeMap t none).run Tryz.prog w = .ok (.map (some w.heap.size)) (w.alloc (.map #[] 0)):=rfl
attribute [local go_sem] mk_run
def MayI (W : World) (A : Option Addr) (l : List SOp) (cb C bS bA : Nat) (i : Nat) (X : World) : Prop :=
 Chk X C bS bA i (st l i) /\ X.cell? ⟨cb,0,none⟩ = some (.pointer (some ⟨C,0,none⟩)) /\ Below W.heap.size W X
theorem top_cell (w : World) (cs : Array Value) (t : TypeId) (g j : Nat) (hg : w.heap.size = g) : (w.alloc (.cells cs t)).cell? ⟨g,j,none⟩ = cs[j]?:=by subst hg; simp
theorem top_frozen (w : World) (cs : Array Value) (t : TypeId) (g j : Nat) (hg : w.heap.size = g) : (w.alloc (.cells cs t)).frozen? ⟨g,j,none⟩ = false:=by subst hg; simp
theorem MayI.start (w : World) (A : Option Addr) (l : List SOp) : MayI w A l (w.heap.size + 1 + 1 + 1) (w.heap.size + 1 + 1) w.heap.size (w.heap.size + 1) 0
  ((((w.alloc (.map #[] 0)).alloc (.map #[] 0)).alloc (.cells #[.map (some w.heap.size), .map (some (w.heap.size + 1)), .int .i64 0] 104)).alloc (.cells #[.pointer (some ⟨w.heap.size + 1 + 1,0,none⟩)] 100)):=by
 have m1 : MapN (w.alloc (.map #[] 0)) w.heap.size 0 (fun _ => none):=MapK.made _ _ _ _
 have m2 : MapS ((w.alloc (.map #[] 0)).alloc (.map #[] 0)) (w.heap.size + 1) 0 (fun _ => none):=by
  have:=MapK.made encI 3 3 (w.alloc (.map #[] 0)); simpa using this
 have m1':=m1.kept (World.grownBy_alloc _ (.map #[] 0) none) (by simp)
 have hs : ((w.alloc (.map #[] 0)).alloc (.map #[] 0)).heap.size = w.heap.size + 1 + 1:=by simp
 have hb : Below w.heap.size w ((w.alloc (.map #[] 0)).alloc (.map #[] 0)):=Qag (Qag (Below.refl _ _) _) _
 generalize (w.alloc (.map #[] 0)).alloc (.map #[] 0) = w2 at m1' m2 hs hb ⊢
 have m1'':=m1'.kept (World.grownBy_alloc _ (.cells #[.map (some w.heap.size), .map (some (w.heap.size + 1)), .int .i64 0] 104) none) (by simp)
 have m2'':=m2.kept (World.grownBy_alloc _ (.cells #[.map (some w.heap.size), .map (some (w.heap.size + 1)), .int .i64 0] 104) none) (by simp)
 have hc:=fun j => top_cell w2 #[.map (some w.heap.size), .map (some (w.heap.size + 1)), .int .i64 0] 104 _ j hs
 have hf:=fun j => top_frozen w2 #[.map (some w.heap.size), .map (some (w.heap.size + 1)), .int .i64 0] 104 _ j hs
 have hs3 : (w2.alloc (.cells #[.map (some w.heap.size), .map (some (w.heap.size + 1)), .int .i64 0] 104)).heap.size = w.heap.size + 1 + 1 + 1:=by simp [hs]
 have hb3:=Qag hb (.cells #[.map (some w.heap.size), .map (some (w.heap.size + 1)), .int .i64 0] 104)
 generalize w2.alloc (.cells #[.map (some w.heap.size), .map (some (w.heap.size + 1)), .int .i64 0] 104) = w3 at *
 have old : ∀ j,(w3.alloc (.cells #[.pointer (some ⟨w.heap.size + 1 + 1,0,none⟩)] 100)).cell? ⟨w.heap.size + 1 + 1,j,none⟩ = w3.cell? ⟨w.heap.size + 1 + 1,j,none⟩:=fun j => World.cell?_alloc_old _ _ _ (by simp; omega)
 refine ⟨⟨(old 0).trans (hc 0),(old 1).trans (hc 1),(old 2).trans (hc 2), ?_, ?_, ?_⟩, ?_, ?_⟩
 ·exact (frozen_grown (World.grownBy_alloc _ _ none) (by simp; omega) (by simp)).trans (hf 2)
 ·exact m1''.kept (World.grownBy_alloc _ _ none) (by simp)
 ·exact m2''.kept (World.grownBy_alloc _ _ none) (by simp)
 ·exact top_cell w3 _ _ _ 0 hs3
 ·exact Qag hb3 _
theorem tree_May.calls (A0 : Option Addr) (c0 : Nat) (l0 : List (SOp)) (r : Bool) (w : World) (hr0 : Kd.C kOp w A0 l0.length l0) (hc0 : l0.length <= c0) (h : tree_May.f l0 = some r) :
  Calls Tryz.prog 44 #[.slice A0 l0.length c0] w fun e w' => e = .returned (.bool r) /\ Below w.heap.size w w':=by
 unfold tree_May.f at h
 split at h
 case isFalse => cases h
 rename_i hs
 obtain rfl:=Zo h
 clear h
 by_cases hl : l0.length <= 40
 ·have hcf:=fun (X : World) (cb C bS bA : Nat) (hX : MayI w A0 l0 cb C bS bA 0 X) (h1 : w.heap.size <= cb) (h2 : w.heap.size <= C) (h3 : w.heap.size <= bS) (h4 : w.heap.size <= bA) (hcC : cb ≠ C) (hcS : cb ≠ bS) (hcA : cb ≠ bA) (hne : bS ≠ bA) (hCS : C ≠ bS) (hCA : C ≠ bA) =>
   ContainsFuncOp 74 #[.pointer (some ⟨cb,0,none⟩)] A0 c0 l0 (badAt l0) (MayI w A0 l0 cb C bS bA) (fun _ Y => Below w.heap.size w Y) X
    (enters_at Tryz.func74 (by kernel_rfl) (by rfl)) (by omega) hX (fun i Y hY => Kd.C_below hr0 hY.2.2)
    (fun i Y A7 c7 hi hY hl7 hr7 => (may1_calls cb C bS bA i (st l0 i) (Qad l0 i) A7 c7 Y hY.2.1 hne hCS hCA (Nat.lt_of_lt_of_le hi (Nat.le_trans hl (by decide))) hY.1 hl7 hr7 (smalls_at hs hi)).mono
     (fun e w' hh => ⟨hh.1,fun hb => hY.2.2.trans (hh.2.2.2 w.heap.size h2 h3 h4 (hY.2.2.size)),fun hb => ⟨hh.2.1 (by simpa [badAt] using hb),cell_kept hY.2.1 hh.2.2.1 (by rintro (e | e | e) <;> simp only at e <;> omega),hY.2.2.trans (hh.2.2.2 w.heap.size h2 h3 h4 (hY.2.2.size))⟩⟩))
  have HCF:=Zz.k hcf
  have hm : mayB l0 = !anyAt (badAt l0) l0.length:=by unfold mayB; simp [hl]
  rw [hm]
  generalize anyAt (badAt l0) l0.length = q at HCF ⊢
  have hlz : (l0.length : Int) <= 40:=by omega
  have hld : decide ((l0.length : Int) <= 40) = true:=Zd hlz
  clear hcf hr0 hm hs
  go_enter Tryz.func44,Tryz.ntmps44
  go_wp2_with fail
  refine (HCF.out _ _ _ _ _ (MayI.start w A0 l0) (by omega) (by omega) (by omega) (by omega) (by omega) (by omega) (by omega) (by omega) (by omega) (by omega)).mono ?_
  rintro e w' ⟨rfl,hb⟩
  have hB : Below w.heap.size w w':=by
   rcases hb with ⟨_,_,_,_,h⟩ | ⟨_,_,_,h⟩ <;> exact h
  have HB:=Zz.k hB
  clear hb hB HCF
  go_wp2
  go_ret
  exact ⟨rfl,HB.out⟩
 ·have hm : mayB l0 = false:=by unfold mayB; simp [hl]
  rw [hm]
  have hld : decide ((l0.length : Int) <= 40) = false:=Ze (by omega)
  clear hr0 hm hs
  go_enter Tryz.func44,Tryz.ntmps44
  go_wp2_with fail
  go_ret
  exact ⟨rfl,Qag (Qag (Qag (Qag (Below.refl _ _) _) _) _) _⟩
end
section
def at0 (l : List Int) (i : Nat) : Int:=l.getD i 0
def Qcv (l : List Int) (i j : Nat) : List Int:=(l.set i (at0 l j)).set j (at0 l i)
theorem Qav (l : List Int) (i j : Nat) : (Qcv l i j).length = l.length:=by simp [Qcv]
theorem Qct (l : List Int) (i j k : Nat) (hi : i < l.length) (hj : j < l.length) : at0 (Qcv l i j) k = if k = j then at0 l i else if k = i then at0 l j else at0 l k:=by
 unfold Qcv at0
 simp only [List.getD_eq_getElem?_getD,List.getElem?_set,List.length_set]
 by_cases h1 : j = k
 ·subst h1; simp [hj]
 ·have h1' : ¬ k = j:=fun e => h1 e.symm
  by_cases h2 : i = k
  ·subst h2; simp [h1,h1',hi]
  ·have h2' : ¬ k = i:=fun e => h2 e.symm
   simp [h1,h1',h2,h2']
theorem swapAt_perm (l : List Int) (i j : Nat) (hi : i < l.length) (hj : j < l.length) : (Qcv l i j).Perm l:=by
 have h:=Array.swap_perm (xs:=l.toArray) (i:=i) (j:=j) (by simpa using hi) (by simpa using hj)
 rw [Array.perm_iff_toList_perm] at h
 have e : (l.toArray.swap i j (by simpa using hi) (by simpa using hj)).toList = Qcv l i j:=by
  simp [Array.swap,Qcv,at0,List.getD_eq_getElem?_getD,List.getElem?_eq_getElem hi,List.getElem?_eq_getElem hj]
 rw [e] at h
 simpa using h
def Qdl (l : List Int) (n : Nat) : Prop:=∀ k,0 < k -> k < n -> at0 l k <= at0 l ((k - 1) / 2)
def HeapUp (l : List Int) (n j : Nat) : Prop:=(∀ k,0 < k -> k < n -> k ≠ j -> at0 l k <= at0 l ((k - 1) / 2)) /\ (∀ k,0 < k -> k < n -> (k - 1) / 2 = j -> 0 < j -> at0 l k <= at0 l ((j - 1) / 2))
def HeapDn (l : List Int) (n i : Nat) : Prop:=(∀ k,0 < k -> k < n -> (k - 1) / 2 ≠ i -> at0 l k <= at0 l ((k - 1) / 2)) /\ (∀ k,0 < k -> k < n -> (k - 1) / 2 = i -> 0 < i -> at0 l k <= at0 l ((i - 1) / 2))
theorem Qdl.root {l : List Int} {n : Nat} (h : Qdl l n) : ∀ k,k < n -> at0 l k <= at0 l 0:=by
 intro k
 induction k using Nat.strongRecOn with
 | _ k ih =>
  intro hk
  by_cases h0 : k = 0
  ·subst h0; exact Int.le_refl _
  ·have h1:=h k (by omega) hk
   have h2:=ih ((k - 1) / 2) (by omega) (by omega)
   omega
theorem HeapUp.stop {l : List Int} {n j : Nat} (h : HeapUp l n j) (hj : j = 0 \/ at0 l j <= at0 l ((j - 1) / 2)) : Qdl l n:=by
 intro k h0 hk
 by_cases e : k = j
 ·subst e
  rcases hj with rfl | hj
  ·omega
  ·exact hj
 ·exact h.1 k h0 hk e
theorem HeapUp.step {l : List Int} {n j : Nat} (h : HeapUp l n j) (hn : n <= l.length) (h0 : 0 < j) (hj : j < n) (hlt : at0 l ((j - 1) / 2) < at0 l j) : HeapUp (Qcv l ((j - 1) / 2) j) n ((j - 1) / 2):=by
 have hi : (j - 1) / 2 < l.length:=by omega
 have hjl : j < l.length:=by omega
 have hij : (j - 1) / 2 ≠ j:=by omega
 constructor
 ·intro k hk0 hk hne
  rw [Qct _ _ _ _ hi hjl,Qct _ _ _ _ hi hjl]
  by_cases e : k = j
  ·subst e
   simp only [if_true,hij,if_false]
   omega
  ·simp only [e,hne,if_false]
   by_cases e2 : (k - 1) / 2 = j
   ·simp only [e2,if_true]
    exact h.2 k hk0 hk e2 h0
   ·simp only [e2,if_false]
    by_cases e3 : (k - 1) / 2 = (j - 1) / 2
    ·simp only [e3,if_true]
     have:=h.1 k hk0 hk e
     rw [e3] at this
     omega
    ·simp only [e3,if_false]
     exact h.1 k hk0 hk e
 ·intro k hk0 hk hp hpos
  rw [Qct _ _ _ _ hi hjl,Qct _ _ _ _ hi hjl]
  have hq : ((j - 1) / 2 - 1) / 2 ≠ j:=by omega
  have hq2 : ((j - 1) / 2 - 1) / 2 ≠ (j - 1) / 2:=by omega
  simp only [hq,hq2,if_false]
  have hpar:=h.1 ((j - 1) / 2) hpos (by omega) hij
  by_cases e : k = j
  ·subst e
   simp only [if_true]
   exact hpar
  ·have e2 : k ≠ (j - 1) / 2:=by omega
   simp only [e,e2,if_false]
   have:=h.1 k hk0 hk e
   rw [hp] at this
   omega
theorem HeapDn.stop {l : List Int} {n i : Nat} (h : HeapDn l n i) (hc : ∀ k,0 < k -> k < n -> (k - 1) / 2 = i -> at0 l k <= at0 l i) : Qdl l n:=by
 intro k h0 hk
 by_cases e : (k - 1) / 2 = i
 ·rw [e]; exact hc k h0 hk e
 ·exact h.1 k h0 hk e
theorem HeapDn.step {l : List Int} {n i j : Nat} (h : HeapDn l n i) (hn : n <= l.length) (hj0 : 0 < j) (hj : j < n) (hp : (j - 1) / 2 = i) (hc : ∀ k,0 < k -> k < n -> (k - 1) / 2 = i -> at0 l k <= at0 l j) (hlt : at0 l i < at0 l j) : HeapDn (Qcv l i j) n j:=by
 have hi : i < l.length:=by omega
 have hjl : j < l.length:=by omega
 have hij : i ≠ j:=by omega
 constructor
 ·intro k hk0 hk hne
  rw [Qct _ _ _ _ hi hjl,Qct _ _ _ _ hi hjl]
  simp only [hne,if_false]
  by_cases e3 : (k - 1) / 2 = i
  ·simp only [e3,if_true]
   by_cases e : k = j
   ·subst e; simp only [if_true]; omega
   ·have e2 : k ≠ i:=by omega
    simp only [e,e2,if_false]
    exact hc k hk0 hk e3
  ·simp only [e3,if_false]
   have e : k ≠ j:=by rintro rfl; exact e3 hp
   simp only [e,if_false]
   by_cases e2 : k = i
   ·subst e2
    simp only [if_true]
    exact h.2 j hj0 hj hp hk0
   ·simp only [e2,if_false]
    exact h.1 k hk0 hk e3
 ·intro k hk0 hk hpk hpos
  rw [Qct _ _ _ _ hi hjl,Qct _ _ _ _ hi hjl]
  rw [hp]
  have e1 : k ≠ j:=by omega
  have e2 : k ≠ i:=by omega
  simp only [e1,e2,hij,if_false,if_true]
  have:=h.1 k hk0 hk (by omega)
  rw [hpk] at this
  exact this
theorem HeapUp.start {l : List Int} {n : Nat} (h : Qdl l n) (hn : n = l.length) (x : Int) : HeapUp (l ++ [x]) (n + 1) n:=by
 have hat : ∀ k,k < n -> at0 (l ++ [x]) k = at0 l k:=by
  intro k hk; unfold at0; rw [List.getD_eq_getElem?_getD,List.getD_eq_getElem?_getD,List.getElem?_append_left (by omega)]
 constructor
 ·intro k h0 hk hne
  rw [hat k (by omega),hat _ (by omega)]
  exact h k h0 (by omega)
 ·intro k h0 hk hp hpos
  omega
theorem HeapDn.start {l : List Int} {n : Nat} (h : Qdl l (n + 1)) (hn : n + 1 = l.length) : HeapDn (Qcv l 0 n) n 0:=by
 constructor
 ·intro k h0 hk hp
  rw [Qct _ _ _ _ (by omega) (by omega),Qct _ _ _ _ (by omega) (by omega)]
  have e1 : k ≠ n:=by omega
  have e2 : k ≠ 0:=by omega
  have e3 : (k - 1) / 2 ≠ n:=by omega
  simp only [e1,e2,e3,hp,if_false]
  exact h k h0 (by omega)
 ·intro k h0 hk hp hpos
  omega
theorem Qdl.take {l : List Int} {n : Nat} (h : Qdl l n) : Qdl (l.take n) n:=by
 have hat : ∀ k,k < n -> at0 (l.take n) k = at0 l k:=by
  intro k hk; unfold at0; simp only [List.getD_eq_getElem?_getD,List.getElem?_take,hk,if_true]
 intro k h0 hk
 rw [hat k hk,hat _ (by omega)]
 exact h k h0 hk
end
section
theorem m_Push (n p : Nat) (w : World) : (method (n + 1) 149 (.pointer (some ⟨p, 0, none⟩)) "Push").run Tryz.prog w = .ok (166, .pointer (some ⟨p, 0, none⟩)) w := by kernel_rfl
theorem m_Pop (n p : Nat) (w : World) : (method (n + 1) 149 (.pointer (some ⟨p, 0, none⟩)) "Pop").run Tryz.prog w = .ok (165, .pointer (some ⟨p, 0, none⟩)) w := by kernel_rfl
theorem load_hung (p : Nat) (w : World) (v : Value) (f : Nat) (hc : w.cell? ⟨p,0,none⟩ = some v) : (do let v <- loadVar 150 ⟨p,0,none⟩; pure (f,v) : Sem (FuncId × Value)).run Tryz.prog w = .ok (f,v) w:=by
 have h : (loadVar 150 ⟨p,0,none⟩).run Tryz.prog w = (load ⟨p,0,none⟩).run Tryz.prog w:=by kernel_rfl
 simp [h,hc]
theorem m_Len (n p : Nat) (w : World) (v : Value) (hc : w.cell? ⟨p, 0, none⟩ = some v) : (method (n + 1) 149 (.pointer (some ⟨p, 0, none⟩)) "Len").run Tryz.prog w = .ok (143, v) w := by
 have h : (method (n + 1) 149 (.pointer (some ⟨p, 0, none⟩)) "Len").run Tryz.prog w = (do let v ← loadVar 150 ⟨p, 0, none⟩; pure (143, v) : Sem _).run Tryz.prog w := by kernel_rfl
 exact h.trans (load_hung p w v _ hc)
theorem m_Less (n p : Nat) (w : World) (v : Value) (hc : w.cell? ⟨p, 0, none⟩ = some v) : (method (n + 1) 149 (.pointer (some ⟨p, 0, none⟩)) "Less").run Tryz.prog w = .ok (164, v) w := by
 have h : (method (n + 1) 149 (.pointer (some ⟨p, 0, none⟩)) "Less").run Tryz.prog w = (do let v ← loadVar 150 ⟨p, 0, none⟩; pure (164, v) : Sem _).run Tryz.prog w := by kernel_rfl
 exact h.trans (load_hung p w v _ hc)
theorem m_Swap (n p : Nat) (w : World) (v : Value) (hc : w.cell? ⟨p, 0, none⟩ = some v) : (method (n + 1) 149 (.pointer (some ⟨p, 0, none⟩)) "Swap").run Tryz.prog w = .ok (167, v) w := by
 have h : (method (n + 1) 149 (.pointer (some ⟨p, 0, none⟩)) "Swap").run Tryz.prog w = (do let v ← loadVar 150 ⟨p, 0, none⟩; pure (167, v) : Sem _).run Tryz.prog w := by kernel_rfl
 exact h.trans (load_hung p w v _ hc)
attribute [local go_sem] m_Push m_Pop
theorem hung_Len (A : Option Addr) (n c : Nat) (w : World) : Calls Tryz.prog 143 #[.slice A n c] w fun e w' => e = .returned (.int .i64 n) /\ w = w':=by
 go_enter Tryz.func143,Tryz.ntmps143
 go_wp2
 go_ret
 exact ⟨rfl,rfl⟩
theorem hung_Less (g n c i j : Nat) (x y : Int) (w : World) (hi : i < n) (hj : j < n) (hx : w.cell? ⟨g,i,none⟩ = some (.int .i64 x)) (hy : w.cell? ⟨g,j,none⟩ = some (.int .i64 y)) :
  Calls Tryz.prog 164 #[.slice (some ⟨g,0,none⟩) n c, .int .i64 i, .int .i64 j] w fun e w' => e = .returned (.bool (decide (y < x))) /\ w' = w.drew:=by
 have hi0 : (0 : Int) <= (i : Int):=by omega
 have hj0 : (0 : Int) <= (j : Int):=by omega
 have hi1 : (i : Int) < (n : Int):=by omega
 have hj1 : (j : Int) < (n : Int):=by omega
 go_enter Tryz.func164,Tryz.ntmps164
 go_wp2
 refine stR (S:=fun w' => w'.cell? ⟨g,i,none⟩ = some (.int .i64 x) /\ w'.cell? ⟨g,j,none⟩ = some (.int .i64 y)) 10 t_tree_hung_Less.bits1 t_tree_hung_Less.tab1 (hS:=⟨hx,hy⟩) (h:=fun hS HT HW => ?_)
 refine pu HT 0 7 1 (h := ?_)
 refine pu HT 1 8 3 (h := ?_)
 refine pu HT 2 9 7 (h := ?_)
 refine tk HT HW hS 3 10 15 (h := ?_)
 refine pu HT 4 11 31 (h := ?_)
 refine pu HT 5 12 63 (h := ?_)
 refine pu HT 6 13 127 (h := ?_)
 refine tk HT HW hS 7 14 255 (h := ?_)
 refine pu HT 8 15 511 (h := ?_)
 refine pu HT 9 6 1023 (h := ?_)
 refine dn HT (h := ?_)
 clear HT HW hS
 go_wp2
 go_ret
 exact ⟨rfl,rfl⟩
theorem hung_Swap (g n c i j : Nat) (x y : Int) (w : World) (hi : i < n) (hj : j < n) (hx : w.cell? ⟨g,i,none⟩ = some (.int .i64 x)) (hy : w.cell? ⟨g,j,none⟩ = some (.int .i64 y)) (fz : ∀ k,w.frozen? ⟨g,k,none⟩ = false) :
  Calls Tryz.prog 167 #[.slice (some ⟨g,0,none⟩) n c, .int .i64 i, .int .i64 j] w fun e w' => e = .returned (.tuple #[]) /\ w' = (w.drew.setCell ⟨g,i,none⟩ (.int .i64 y)).setCell ⟨g,j,none⟩ (.int .i64 x):=by
 have hi0 : (0 : Int) <= (i : Int):=by omega
 have hj0 : (0 : Int) <= (j : Int):=by omega
 have hi1 : (i : Int) < (n : Int):=by omega
 have hj1 : (j : Int) < (n : Int):=by omega
 go_enter Tryz.func167,Tryz.ntmps167
 go_wp2
 refine stL (S:=fun w' => w'.cell? ⟨g,i,none⟩ = some (.int .i64 x) /\ w'.cell? ⟨g,j,none⟩ = some (.int .i64 y)) [13,15] 16 t_tree_hung_Swap.bits0 t_tree_hung_Swap.tab0 (hS:=⟨hx,hy⟩) (h:=fun hS HT HW => ?_)
 refine pu HT 0 6 1 (h := ?_)
 refine pu HT 1 7 3 (h := ?_)
 refine pu HT 2 8 7 (h := ?_)
 refine pu HT 3 9 15 (h := ?_)
 refine pu HT 4 10 31 (h := ?_)
 refine pu HT 5 11 63 (h := ?_)
 refine pu HT 6 12 127 (h := ?_)
 refine tk HT HW hS 7 13 255 (h := ?_)
 refine pu HT 8 14 511 (h := ?_)
 refine pu HT 9 15 1023 (h := ?_)
 refine pu HT 10 16 2047 (h := ?_)
 refine tk HT HW hS 11 17 4095 (h := ?_)
 refine pu HT 12 18 8191 (h := ?_)
 have hf1 : w.drew.frozen? ⟨g,i,none⟩ = false:=fz i
 refine skL HT 13 16383 (w.drew.setCell ⟨g,i,none⟩ (.int .i64 y)) (hrun := ?_) (h := ?_)
 ·clear HT HW
  obtain ⟨hx',hy'⟩:=hS
  go_simp
 refine pu HT 14 19 32767 (h := ?_)
 refine skL HT 15 65535 ((w.drew.setCell ⟨g,i,none⟩ (.int .i64 y)).setCell ⟨g,j,none⟩ (.int .i64 x)) (hrun := ?_) (h := ?_)
 ·clear HT HW
  obtain ⟨hx',hy'⟩:=hS
  obtain ⟨v',hv'⟩:=cell?_setCell_some (p:=⟨g,i,none⟩) (x:=.int .i64 y) hy
  have hf2 : (w.setCell ⟨g,i,none⟩ (.int .i64 y)).frozen? ⟨g,j,none⟩ = false:=by rw [World.frozen?_setCell]; exact fz j
  go_simp
 refine dn HT (h := ?_)
 clear HT HW hS
 go_end0
 exact ⟨rfl,rfl⟩
abbrev encs (arr : List Int) : List Value:=arr.map (.int .i64)
abbrev RowI (w : World) (base g c : Nat) (arr : List Int) : Prop:=w.ownsRow base 3 1 (.slice (some ⟨g,0,none⟩) arr.length c) arr.length (encs arr)
theorem RowI.block {w : World} {base g c : Nat} {arr : List Int} (h : RowI w base g c arr) : ∃ cur,w.heap[g]? = some (.cells cur 3 (0,0)) /\ arr.length <= c /\ c <= maxLen /\ cur.size = c * 1 /\ cur.toList.take (arr.length * 1) = encs arr /\ base <= g:=by
 rcases h.2 with ⟨h,_⟩ | ⟨g',cap,cur,he,hb,hg,h1,h2,h3,h4⟩
 ·cases h
 ·injection he with e1 e2 e3
  injection e1 with e1
  injection e1 with e1
  subst e1; subst e3
  exact ⟨cur,hg,h1,h2,h3,h4,hb⟩
theorem RowI.cell {w : World} {base g c : Nat} {arr : List Int} (h : RowI w base g c arr) (k : Nat) (hk : k < arr.length) : w.cell? ⟨g,k,none⟩ = some (.int .i64 (at0 arr k)):=by
 have:=h.cells (g:=g) rfl k (.int .i64 (at0 arr k)) (by simp [at0,List.getD_eq_getElem?_getD,List.getElem?_eq_getElem hk])
 rw [show (⟨g,0,none⟩ : Addr).add k = ⟨g,k,none⟩ from Qcy g k] at this
 exact this
theorem RowI.frozen {w : World} {base g c : Nat} {arr : List Int} (h : RowI w base g c arr) (k : Nat) : w.frozen? ⟨g,k,none⟩ = false:=by
 obtain ⟨cur,hg,_⟩:=h.block
 simp [World.frozen?,hg]
theorem setCell_block {w : World} {g : Nat} {cur : Array Value} {t : TypeId} (hg : w.heap[g]? = some (.cells cur t (0,0))) (i : Nat) (u : Value) : (w.setCell ⟨g,i,none⟩ u).heap[g]? = some (.cells (cur.setIfInBounds i u) t (0,0)):=by
 simp [World.setCell,Array.getElem?_modify,hg]
theorem setCell_other {w : World} {g : Nat} (i : Nat) (u : Value) (k : Nat) (hk : k ≠ g) : (w.setCell ⟨g,i,none⟩ u).heap[k]? = w.heap[k]?:=by
 simp [World.setCell,Array.getElem?_modify,Ne.symm hk]
theorem Qcl (w : World) (g i : Nat) (u : Value) : w.grownBy (w.setCell ⟨g,i,none⟩ u) (some g) :=
 ⟨rfl,rfl,rfl,by simp [World.setCell],fun k _ hk => setCell_other i u k (fun e => hk (by rw [e]))⟩
theorem RowI.set {w : World} {base g c : Nat} {arr : List Int} (h : RowI w base g c arr) (i : Nat) (x : Int) (hi : i < arr.length) : RowI (w.setCell ⟨g,i,none⟩ (.int .i64 x)) base g c (arr.set i x):=by
 obtain ⟨cur,hg,h1,h2,h3,h4,hb⟩:=h.block
 refine ⟨by simp [encs], .inr ⟨g,c,_,by simp,hb,setCell_block hg i _,by simpa using h1,h2,by simpa using h3, ?_⟩⟩
 simp only [Nat.mul_one,List.length_set,Array.toList_setIfInBounds,encs,List.map_set] at h4 ⊢
 rw [<- h4,List.take_set]
theorem cell_grown' {w w' : World} {row : Option Nat} {a : Addr} {v : Value} (hg : w.grownBy w' row) (hne : some a.block ≠ row) (hc : w.cell? a = some v) : w'.cell? a = some v:=(World.cell?_of_block (hg.block _ (World.block_lt_of_cell? w a hc) hne)).trans hc
theorem drewG (w : World) (row : Option Nat) : w.grownBy w.drew row:=⟨rfl,rfl,rfl,Nat.le_refl _,fun _ _ _ => rfl⟩
theorem RowI.swap {w : World} {base g c : Nat} {arr : List Int} (h : RowI w base g c arr) (i j : Nat) (hi : i < arr.length) (hj : j < arr.length) :
  RowI ((w.drew.setCell ⟨g,i,none⟩ (.int .i64 (at0 arr j))).setCell ⟨g,j,none⟩ (.int .i64 (at0 arr i))) base g c (Qcv arr i j) /\ w.grownBy ((w.drew.setCell ⟨g,i,none⟩ (.int .i64 (at0 arr j))).setCell ⟨g,j,none⟩ (.int .i64 (at0 arr i))) (some g):=by
 have h0 : RowI w.drew base g c arr:=h
 exact ⟨(h0.set i _ hi).set j _ (by simpa using hj),((drewG w _).trans (Qcl _ _ _ _)).trans (Qcl _ _ _ _)⟩
theorem hung_Less' (base g c : Nat) (arr : List Int) (i j : Nat) (w : World) (h : RowI w base g c arr) (hi : i < arr.length) (hj : j < arr.length) :
  Calls Tryz.prog 164 #[.slice (some ⟨g,0,none⟩) arr.length c, .int .i64 i, .int .i64 j] w fun e w' => e = .returned (.bool (decide (at0 arr j < at0 arr i))) /\ w' = w.drew :=
 hung_Less g arr.length c i j _ _ w hi hj (h.cell i hi) (h.cell j hj)
theorem hung_Swap' (base g c : Nat) (arr : List Int) (i j : Nat) (w : World) (h : RowI w base g c arr) (hi : i < arr.length) (hj : j < arr.length) :
  Calls Tryz.prog 167 #[.slice (some ⟨g,0,none⟩) arr.length c, .int .i64 i, .int .i64 j] w fun e w' => e = .returned (.tuple #[]) /\ RowI w' base g c (Qcv arr i j) /\ w.grownBy w' (some g) :=
 (hung_Swap g arr.length c i j _ _ w hi hj (h.cell i hi) (h.cell j hj) h.frozen).mono (fun e w' hh => ⟨hh.1,by rw [hh.2]; exact h.swap i j hi hj⟩)
end
section
attribute [local go_sem] m_Push m_Pop m_Len m_Less m_Swap
abbrev hungP (p : Nat) : Value:=.iface 149 (.pointer (some ⟨p,0,none⟩))
theorem ta_int (x : Int) (w : World) : (Instr.typeAssert (.iface 3 (.int .i64 x)) 20 3 false).run Tryz.prog w = .ok (.int .i64 x) w:=by kernel_rfl
attribute [local go_sem] ta_int
structure Fr (w w' : World) (S : Nat -> Prop) : Prop where
 os : w'.os = w.os
 tape : w'.tape = w.tape
 output : w'.output = w.output
 size : w.heap.size <= w'.heap.size
 block : ∀ k,k < w.heap.size -> ¬ S k -> w'.heap[k]? = w.heap[k]?
theorem Fr.refl (w : World) (S : Nat -> Prop) : Fr w w S:=⟨rfl,rfl,rfl,Nat.le_refl _,fun _ _ _ => rfl⟩
theorem Fr.of_grown {w w' : World} {row : Option Nat} (hg : w.grownBy w' row) : Fr w w' (fun k => row = some k):=⟨hg.os,hg.tape,hg.output,hg.size,fun k hk hn => hg.block k hk (fun e => hn e.symm)⟩
theorem Fr.of_below {w w' : World} (h : Below w.heap.size w w') (S : Nat -> Prop) : Fr w w' S:=⟨h.os,h.tape,h.output,h.size,fun k hk _ => h.block k hk⟩
theorem Fr.mono {w w' : World} {S S' : Nat -> Prop} (h : Fr w w' S) (hs : ∀ k,S k -> k < w.heap.size -> S' k) : Fr w w' S':=⟨h.os,h.tape,h.output,h.size,fun k hk hn => h.block k hk (fun e => hn (hs k e hk))⟩
theorem Fr.trans {w w1 w2 : World} {S S2 : Nat -> Prop} (h : Fr w w1 S) (k : Fr w1 w2 S2) (hs : ∀ k,S2 k -> k < w.heap.size -> S k) : Fr w w2 S :=
 ⟨k.os.trans h.os,k.tape.trans h.tape,k.output.trans h.output,Nat.le_trans h.size k.size,fun i hi hn => (k.block i (Nat.lt_of_lt_of_le hi h.size) (fun e => hn (hs i e hi))).trans (h.block i hi hn)⟩
theorem Fr.below {w w' : World} {S : Nat -> Prop} (h : Fr w w' S) {B : Nat} (hS : ∀ k,S k -> B <= k) (hB : B <= w.heap.size) : Below B w w':=⟨h.os,h.tape,h.output,h.size,fun k hk => h.block k (Nat.lt_of_lt_of_le hk hB) (fun e => by have:=hS k e; omega)⟩
theorem Fr.cell {w w' : World} {S : Nat -> Prop} (h : Fr w w' S) {a : Addr} {v : Value} (hn : ¬ S a.block) (hc : w.cell? a = some v) : w'.cell? a = some v:=(World.cell?_of_block (h.block _ (World.block_lt_of_cell? w a hc) hn)).trans hc
theorem Fr.frozen {w w' : World} {S : Nat -> Prop} (h : Fr w w' S) {a : Addr} (hlt : a.block < w.heap.size) (hn : ¬ S a.block) : w'.frozen? a = w.frozen? a:=World.frozen?_of_block (h.block _ hlt hn)
theorem Fr.row {w w' : World} {S : Nat -> Prop} (h : Fr w w' S) {base n size : Nat} {e : TypeId} {v : Value} {xs : List Value} (ho : w.ownsRow base e size v n xs) (hn : ∀ k,v.ownBlock = some k -> ¬ S k) : w'.ownsRow base e size v n xs:=by
 refine ⟨ho.1, ?_⟩
 rcases ho.2 with h2 | ⟨g,cap,cur,rfl,hb,hg,rest⟩
 ·exact .inl h2
 ·refine .inr ⟨g,cap,cur,rfl,hb, ?_,rest⟩
  rw [h.block g (Array.getElem?_eq_some_iff.1 hg).1 (hn g rfl)]
  exact hg
def Hun (w : World) (base p : Nat) (v : Value) (arr : List Int) : Prop:=w.cell? ⟨p,0,none⟩ = some v /\ w.frozen? ⟨p,0,none⟩ = false /\ v.ownBlock ≠ some p /\ w.ownsRow base 3 1 v arr.length (encs arr)
theorem Hun.fr {w w' : World} {S : Nat -> Prop} {base p : Nat} {v : Value} {arr : List Int} (h : Hun w base p v arr) (hf : Fr w w' S) (hp : ¬ S p) (hv : ∀ k,v.ownBlock = some k -> ¬ S k) : Hun w' base p v arr :=
 ⟨hf.cell hp h.1,(hf.frozen (World.block_lt_of_cell? w _ h.1) hp).trans h.2.1,h.2.2.1,hf.row h.2.2.2 hv⟩
abbrev Hg (w : World) (base p g c : Nat) (arr : List Int) : Prop:=Hun w base p (.slice (some ⟨g,0,none⟩) arr.length c) arr
theorem Hg.grown {w w' : World} {base p g c : Nat} {arr arr' : List Int} (h : Hg w base p g c arr) (hl : arr'.length = arr.length) (hr : RowI w' base g c arr') (hg : w.grownBy w' (some g)) : Hg w' base p g c arr' :=
 ⟨by rw [hl]; exact cell_grown' hg (fun e => h.2.2.1 e.symm) h.1,(World.frozen?_of_block (hg.block _ (World.block_lt_of_cell? w _ h.1) (fun e => h.2.2.1 e.symm))).trans h.2.1,by rw [hl]; exact h.2.2.1,by exact hr⟩
theorem heap_up (base p g c j : Nat) (arr : List Int) (w : World) (hH : Hg w base p g c arr) (hup : HeapUp arr arr.length j) (hj : j < arr.length) (hn : arr.length < 4611686018427387904) :
  Calls Tryz.prog 142 #[hungP p, .int .i64 j] w fun e w' => e = .returned (.tuple #[]) /\ ∃ arr',arr'.Perm arr /\ Qdl arr' arr'.length /\ Hg w' base p g c arr' /\ w.grownBy w' (some g):=by
 have HU:=Zz.k hup
 clear hup
 go_enter Tryz.func142,Tryz.ntmps142
 go_wp2
 go_loopg [1] (j + 1) (fun gg s1 wr => ∃ (jn : Nat) (ar : List Int),s1 = .int .i64 jn /\ jn < gg /\ jn < ar.length /\ Zz (ar.length = arr.length) /\ Zz (ar.Perm arr) /\ Zz (HeapUp ar ar.length jn) /\ Zz (Hg wr base p g c ar) /\ Zz (w.grownBy wr (some g)))
 case atStart => exact ⟨j,arr,rfl,by omega,hj,⟨rfl⟩,⟨List.Perm.refl _⟩,HU,⟨hH⟩,⟨⟨rfl,rfl,rfl,Nat.le_refl _,fun _ _ _ => rfl⟩⟩⟩
 case round =>
  obtain ⟨jn,ar,rfl,hlt,hjl,HAL,HP,HU',HG,HB⟩:=hrel
  have hcell:=HG.out.1
  have hmx : ar.length < 4611686018427387904:=by rw [HAL.out]; exact hn
  by_cases h0 : jn = 0
  ·subst h0
   have HX:=Zz.k (HU'.out.stop (.inl rfl))
   go_wp2
   go_end0
   exact ⟨rfl,ar,HP.out,HX.out,HG.out,HB.out⟩
  ·have hdv : ((jn : Int) - 1) / 2 = (((jn - 1) / 2 : Nat) : Int):=by omega
   have hdn : ¬ ((jn : Int) - 1) / 2 = (jn : Int):=by omega
   have hdv2 : ((jn - 1 : Nat) : Int) / 2 = (((jn - 1) / 2 : Nat) : Int):=by omega
   have HDV:=Zz.k hdv
   have HDV2:=Zz.k hdv2
   clear hdv hdv2
   have hil : (jn - 1) / 2 < ar.length:=by omega
   have hls:=hung_Less' base g c ar jn ((jn - 1) / 2) wr HG.out.2.2.2 (by omega) hil
   by_cases hb : at0 ar ((jn - 1) / 2) < at0 ar jn
   ·have hbd : decide (at0 ar ((jn - 1) / 2) < at0 ar jn) = true:=Zd hb
    have HS:=Zz.k (HU'.out.step (Nat.le_refl _) (by omega) (by omega) hb)
    have HSW:=Zz.k (fun (hX : RowI wr base g c ar) => hung_Swap' base g c ar ((jn - 1) / 2) jn wr.drew hX hil hjl)
    rw [hbd] at hls
    clear hb hbd
    go_wp2_with fail
    rw [HDV.out]
    with_reducible refine hls.mono ?_
    rintro e w' ⟨rfl,rfl⟩
    go_wp2_with fail
    rw [HDV2.out]
    have hsw:=HSW.out HG.out.2.2.2
    with_reducible refine hsw.mono ?_
    rintro e w' ⟨rfl,hr,hg⟩
    have HR:=Zz.k hr
    have HGR:=Zz.k hg
    clear hr hg hls hcell hsw
    obtain ⟨g',rfl⟩ : ∃ g',gk = g' + 1:=⟨gk - 1,by omega⟩
    go_wp2
    go_roundg g'
    case measure => omega
    case rel =>
     refine ⟨(jn - 1) / 2,Qcv ar ((jn - 1) / 2) jn, ?_,by omega,by rw [Qav]; omega,⟨by rw [Qav]; exact HAL.out⟩,⟨(swapAt_perm ar _ _ hil hjl).trans HP.out⟩,⟨by rw [Qav]; exact HS.out⟩,⟨HG.out.grown (Qav _ _ _) HR.out ((drewG _ _).trans HGR.out)⟩,⟨HB.out.trans ((drewG _ _).trans HGR.out)⟩⟩
     rw [HDV2.out]
   ·have hbd : decide (at0 ar ((jn - 1) / 2) < at0 ar jn) = false:=Ze hb
    have HX:=Zz.k (HU'.out.stop (.inr (by omega)))
    rw [hbd] at hls
    clear hb hbd
    go_wp2_with fail
    rw [HDV.out]
    with_reducible refine hls.mono ?_
    rintro e w' ⟨rfl,rfl⟩
    go_wp2
    go_end0
    exact ⟨rfl,ar,HP.out,HX.out,HG.out,HB.out.trans (drewG _ _)⟩
theorem hung_Push (base p : Nat) (v : Value) (arr : List Int) (x : Int) (w : World) (h : Hun w base p v arr) (hlen : arr.length < 1000000) (hb : base <= w.heap.size) :
  Calls Tryz.prog 166 #[.pointer (some ⟨p,0,none⟩), .iface 3 (.int .i64 x)] w fun e w' => e = .returned (.tuple #[]) /\ ∃ v',Hun w' base p v' (arr ++ [x]) /\ (v'.ownBlock = v.ownBlock \/ ∃ b,v'.ownBlock = some b /\ w.heap.size <= b) /\ Fr w w' (fun k => k = p \/ v.ownBlock = some k):=by
 obtain ⟨hc,hf,hne,hrow⟩:=h
 have HROW:=Zz.k hrow
 have HNE:=Zz.k hne
 clear hrow hne
 go_enter Tryz.func166,Tryz.ntmps166
 refine stL (S:=fun w' => w'.cell? ⟨p,0,none⟩ = some v) [7,9] 10 t_tree_hung_Push.bits0 t_tree_hung_Push.tab0 (hS:=hc) (h:=fun hS HT HW => ?_)
 refine pu HT 0 4 1 (h := ?_)
 refine pu HT 1 5 3 (h := ?_)
 refine pu HT 2 6 7 (h := ?_)
 refine tk HT HW hS 3 7 15 (h := ?_)
 refine pu HT 4 8 31 (h := ?_)
 refine pu HT 5 9 63 (h := ?_)
 refine exS HT 6 (some 10) 127 (.slice (some ⟨w.drew.heap.size,0,none⟩) 1 1) (w.drew.alloc (.cells [.int .i64 x].toArray 3)) (hrun := ?_) (hS := ?_) (h:=fun hS => ?_)
 ·clear HT HW hS
  go_simp
 ·exact Qab (Qag (Below.refl _ w.drew) _) hS
 refine nm (h := ?_)
 refine apL HT 7 11 255 base w.drew info3 Tryz.underlying150 v arr.length (encs arr) [.int .i64 x] HROW.out hb (by omega) rfl (by simp [Value.oneCell']) (h:=fun v1 w1 hown hg hat => ?_)
 have hnp : some p ≠ v.ownBlock:=fun e => HNE.out e.symm
 have hc1:=cell_grown' hg hnp (show w.drew.cell? ⟨p,0,none⟩ = some v from hc)
 have hf1 : w1.frozen? ⟨p,0,none⟩ = false:=(World.frozen?_of_block (hg.block _ (World.block_lt_of_cell? w _ hc) hnp)).trans hf
 have lp:=World.block_lt_of_cell? w _ hc
 simp only at lp
 obtain ⟨g1,c1,rfl⟩ : ∃ g c,v1 = .slice (some ⟨g,0,none⟩) (arr.length + 1) c:=by
  rcases hown.2 with ⟨_,h0⟩ | ⟨g,c,_,h0,_⟩
  ·omega
  ·exact ⟨g,c,h0⟩
 have HOWN:=Zz.k hown
 have HG:=Zz.k hg
 have HAT:=Zz.k hat
 clear hown hg hS hc hat
 refine nm (h := ?_)
 refine pu HT 8 12 511 (h := ?_)
 refine skL HT 9 1023 (w1.setCell ⟨p,0,none⟩ (.slice (some ⟨g1,0,none⟩) (arr.length + 1) c1)) (hrun := ?_) (h := ?_)
 ·clear HT HW
  go_simp
 refine dn HT (h := ?_)
 clear HT HW
 go_end0
 have hne1 : (Value.slice (some ⟨g1,0,none⟩) (arr.length + 1) c1).ownBlock ≠ some p:=by
  rcases HAT.out with hat | ⟨b,hb1,hle⟩
  ·rw [hat]; exact HNE.out
  ·rw [hb1]; intro e; cases e
   have : w.heap.size <= p:=hle
   omega
 refine ⟨rfl,_,⟨World.cell?_setCell_same w1 _ _ hc1,by rw [World.frozen?_setCell]; exact hf1,hne1, ?_⟩,HAT.out, ?_⟩
 ·have e : encs arr ++ [.int .i64 x] = encs (arr ++ [x]):=by simp [encs]
  have h2:=HOWN.out
  rw [e] at h2
  have h3:=(Fr.of_grown (Qcl w1 p 0 (.slice (some ⟨g1,0,none⟩) (arr.length + 1) c1))).row h2 (fun k hk e => hne1 (by rw [hk,<- e]))
  simpa using h3
 ·have f0 : Fr w w.drew (fun k => v.ownBlock = some k):=(Fr.of_grown (drewG w v.ownBlock))
  have f1 : Fr w w1 (fun k => k = p \/ v.ownBlock = some k):=(f0.trans (Fr.of_grown HG.out) (fun k hk _ => hk)).mono (fun k hk _ => .inr hk)
  exact f1.trans (Fr.of_grown (Qcl w1 p 0 _)) (fun k hk _ => .inl (Zo hk).symm)
end
section
attribute [local go_sem] m_Push m_Pop m_Len m_Less m_Swap ta_int
theorem hung_Pop (base p g c n : Nat) (arr : List Int) (w : World) (h : Hg w base p g c arr) (hn : arr.length = n + 1) (hlen : arr.length < 1000000) :
  Calls Tryz.prog 165 #[.pointer (some ⟨p,0,none⟩)] w fun e w' => e = .returned (.iface 3 (.int .i64 (at0 arr n))) /\ Hg w' base p g c (arr.take n) /\ Fr w w' (fun k => k = p):=by
 obtain ⟨hc,hf,hne,hrow⟩:=h
 have hx:=RowI.cell hrow n (by omega)
 have hcap : n <= c:=by obtain ⟨_,_,h1,_⟩:=RowI.block hrow; omega
 have HROW:=Zz.k hrow
 have HNE:=Zz.k hne
 have HN:=Zz.k hn
 rw [hn] at hc
 have hnl : (n : Int) < ((n + 1 : Nat) : Int):=by omega
 have hn0 : (0 : Int) <= (n : Int):=by omega
 have hnm : n < 1000000:=by omega
 clear hrow hne hn hlen
 generalize at0 arr n = x at hx ⊢
 go_enter Tryz.func165,Tryz.ntmps165
 go_wp2
 go_ret
 have hlt : (arr.take n).length = n:=by rw [List.length_take,HN.out]; omega
 refine ⟨rfl,⟨?_, ?_, ?_, ?_⟩,(Fr.of_grown (Qcl w p 0 _)).mono (fun k hk _ => (Zo hk).symm)⟩
 ·rw [hlt]; exact World.cell?_setCell_same w _ _ hc
 ·rw [World.frozen?_setCell]; exact hf
 ·exact HNE.out
 ·have h1 : RowI w base g c (arr.take n):=by
   obtain ⟨cur,hg,h1,h2,h3,h4,hb⟩:=RowI.block HROW.out
   refine ⟨by simp [encs], .inr ⟨g,c,cur,rfl,hb,hg,by omega,h2,h3, ?_⟩⟩
   rw [hlt,Nat.mul_one]
   rw [Nat.mul_one] at h4
   have e : encs (arr.take n) = (encs arr).take n:=by simp [encs,List.map_take]
   rw [e,<- h4,List.take_take,Nat.min_eq_left (by rw [HN.out]; omega)]
  exact (Fr.of_grown (Qcl w p 0 _)).row h1 (fun k hk e => HNE.out (by rw [e]; exact hk))
theorem hung_LessZ (base g c : Nat) (arr : List Int) (i j : Nat) (zi zj : Int) (w : World) (ei : zi = (i : Int)) (ej : zj = (j : Int)) (h : RowI w base g c arr) (hi : i < arr.length) (hj : j < arr.length) :
  Calls Tryz.prog 164 #[.slice (some ⟨g,0,none⟩) arr.length c, .int .i64 zi, .int .i64 zj] w fun e w' => e = .returned (.bool (decide (at0 arr j < at0 arr i))) /\ w' = w.drew:=by
 subst ei ej; exact hung_Less' base g c arr i j w h hi hj
theorem hung_SwapZ (base g c : Nat) (arr : List Int) (i j : Nat) (zi zj : Int) (w : World) (ei : zi = (i : Int)) (ej : zj = (j : Int)) (h : RowI w base g c arr) (hi : i < arr.length) (hj : j < arr.length) :
  Calls Tryz.prog 167 #[.slice (some ⟨g,0,none⟩) arr.length c, .int .i64 zi, .int .i64 zj] w fun e w' => e = .returned (.tuple #[]) /\ RowI w' base g c (Qcv arr i j) /\ w.grownBy w' (some g):=by
 subst ei ej; exact hung_Swap' base g c arr i j w h hi hj
def LeafOr (l : List Int) (n i j : Nat) : Prop:=∀ k,0 < k -> k < n -> (k - 1) / 2 = i -> at0 l k <= at0 l j
theorem leaf_two {l : List Int} {n i : Nat} (h2 : 2 * i + 2 < n) (hb : at0 l (2 * i + 1) < at0 l (2 * i + 2)) : LeafOr l n i (2 * i + 2):=by
 intro k h0 hk hp
 rcases (show k = 2 * i + 1 \/ k = 2 * i + 2 by omega) with rfl | rfl <;> omega
theorem leaf_one {l : List Int} {n i : Nat} (hb : ¬ at0 l (2 * i + 1) < at0 l (2 * i + 2)) : LeafOr l n i (2 * i + 1):=by
 intro k h0 hk hp
 rcases (show k = 2 * i + 1 \/ k = 2 * i + 2 by omega) with rfl | rfl <;> omega
theorem leaf_end {l : List Int} {n i : Nat} (h2 : ¬ 2 * i + 2 < n) : LeafOr l n i (2 * i + 1):=by
 intro k h0 hk hp
 obtain rfl : k = 2 * i + 1:=by omega
 exact Int.le_refl _
theorem heap_down (base p g c n : Nat) (arr : List Int) (w : World) (hH : Hg w base p g c arr) (hdn : HeapDn arr n 0) (hn : n <= arr.length) (h0 : 0 < arr.length) (hmx : arr.length < 1000000) :
  Calls Tryz.prog 147 #[hungP p, .int .i64 0, .int .i64 n] w fun e w' => (∃ u,e = .returned u) /\ ∃ arr',arr'.length = arr.length /\ arr'.Perm arr /\ (∀ k,n <= k -> at0 arr' k = at0 arr k) /\ Qdl arr' n /\ Hg w' base p g c arr' /\ w.grownBy w' (some g):=by
 have HD:=Zz.k hdn
 clear hdn
 go_enter Tryz.func147,Tryz.ntmps147
 go_wp2
 go_loopg [7] (n + 1) (fun gg s7 wr => ∃ (i : Nat) (ar : List Int),s7 = .int .i64 i /\ n < gg + i /\ i < ar.length /\ n <= ar.length /\ ar.length < 1000000 /\ Zz (ar.length = arr.length) /\ Zz (ar.Perm arr) /\ Zz (∀ k,n <= k -> at0 ar k = at0 arr k) /\ Zz (HeapDn ar n i) /\ Zz (Hg wr base p g c ar) /\ Zz (w.grownBy wr (some g)))
 case atStart => exact ⟨0,arr,rfl,by omega,h0,hn,hmx,⟨rfl⟩,⟨List.Perm.refl _⟩,⟨fun _ _ => rfl⟩,HD,⟨hH⟩,⟨⟨rfl,rfl,rfl,Nat.le_refl _,fun _ _ _ => rfl⟩⟩⟩
 case round =>
  obtain ⟨i,ar,rfl,hgg,hil,hnl,hal,HAL,HP,HF,HD',HG,HB⟩:=hrel
  have hcell:=HG.out.1
  by_cases h1 : 2 * i + 1 < n
  ·have h1z : ¬ (n : Int) <= 2 * (i : Int) + 1:=by omega
   have h1y : ¬ 2 * (i : Int) + 1 < 0:=by omega
   by_cases h2 : 2 * i + 2 < n
   ·have h2z : 2 * (i : Int) + 1 + 1 < (n : Int):=by omega
    have hls:=hung_LessZ base g c ar (2 * i + 2) (2 * i + 1) (2 * (i : Int) + 1 + 1) (2 * (i : Int) + 1) wr (by omega) (by omega) HG.out.2.2.2 (by omega) (by omega)
    by_cases hb : at0 ar (2 * i + 1) < at0 ar (2 * i + 2)
    ·have HL:=Zz.k (leaf_two h2 hb)
     rw [Zd hb] at hls
     clear hb
     go_wp2_with fail
     with_reducible refine hls.mono ?_
     rintro e w' ⟨rfl,rfl⟩
     clear hls
     have hl2:=hung_LessZ base g c ar (2 * i + 2) i (2 * (i : Int) + 1 + 1) (i : Int) wr.drew (by omega) rfl HG.out.2.2.2 (by omega) hil
     by_cases hb2 : at0 ar i < at0 ar (2 * i + 2)
     ·have HS:=Zz.k (HD'.out.step hnl (by omega) (by omega) (by omega) HL.out hb2)
      have hsw:=hung_SwapZ base g c ar i (2 * i + 2) (i : Int) (2 * (i : Int) + 1 + 1) wr.drew.drew rfl (by omega) HG.out.2.2.2 hil (by omega)
      rw [Zd hb2] at hl2
      have HPp:=Zz.k (swapAt_perm ar i (2 * i + 2) hil (by omega))
      have HFf:=Zz.k (fun (k : Nat) (hk : n <= k) => (show at0 (Qcv ar i (2 * i + 2)) k = at0 ar k by rw [Qct _ _ _ _ hil (by omega),if_neg (by omega),if_neg (by omega)]))
      clear hb2
      go_wp2_with fail
      with_reducible refine hl2.mono ?_
      rintro e w' ⟨rfl,rfl⟩
      go_wp2_with fail
      with_reducible refine hsw.mono ?_
      rintro e w' ⟨rfl,hr,hg⟩
      have HR:=Zz.k hr
      have HGR:=Zz.k hg
      clear hr hg hl2 hcell hsw
      obtain ⟨g',rfl⟩ : ∃ g',gk = g' + 1:=⟨gk - 1,by omega⟩
      go_wp2
      go_roundg g'
      case measure => omega
      case rel =>
       refine ⟨2 * i + 2,Qcv ar i (2 * i + 2),by go_num,by omega,by rw [Qav]; omega,by rw [Qav]; omega,by rw [Qav]; omega,⟨by rw [Qav]; exact HAL.out⟩,⟨HPp.out.trans HP.out⟩,⟨fun k hk => (HFf.out k hk).trans (HF.out k hk)⟩,HS,⟨HG.out.grown (Qav _ _ _) HR.out ((drewG _ _).trans ((drewG _ _).trans HGR.out))⟩,⟨HB.out.trans ((drewG _ _).trans ((drewG _ _).trans HGR.out))⟩⟩
     ·have HX:=Zz.k (HD'.out.stop (fun k h0 hk hp => Int.le_trans (HL.out k h0 hk hp) (by omega)))
      rw [Ze hb2] at hl2
      clear hb2
      go_wp2_with fail
      with_reducible refine hl2.mono ?_
      rintro e w' ⟨rfl,rfl⟩
      go_wp2
      go_ret
      exact ⟨⟨_,rfl⟩,ar,HAL.out,HP.out,HF.out,HX.out,HG.out,HB.out.trans ((drewG _ _).trans (drewG _ _))⟩
    ·have HL:=Zz.k (leaf_one (n:=n) hb)
     rw [Ze hb] at hls
     clear hb
     go_wp2_with fail
     with_reducible refine hls.mono ?_
     rintro e w' ⟨rfl,rfl⟩
     clear hls
     have hl2:=hung_LessZ base g c ar (2 * i + 1) i (2 * (i : Int) + 1) (i : Int) wr.drew (by omega) rfl HG.out.2.2.2 (by omega) hil
     by_cases hb2 : at0 ar i < at0 ar (2 * i + 1)
     ·have HS:=Zz.k (HD'.out.step hnl (by omega) (by omega) (by omega) HL.out hb2)
      have hsw:=hung_SwapZ base g c ar i (2 * i + 1) (i : Int) (2 * (i : Int) + 1) wr.drew.drew rfl (by omega) HG.out.2.2.2 hil (by omega)
      rw [Zd hb2] at hl2
      have HPp:=Zz.k (swapAt_perm ar i (2 * i + 1) hil (by omega))
      have HFf:=Zz.k (fun (k : Nat) (hk : n <= k) => (show at0 (Qcv ar i (2 * i + 1)) k = at0 ar k by rw [Qct _ _ _ _ hil (by omega),if_neg (by omega),if_neg (by omega)]))
      clear hb2
      go_wp2_with fail
      with_reducible refine hl2.mono ?_
      rintro e w' ⟨rfl,rfl⟩
      go_wp2_with fail
      with_reducible refine hsw.mono ?_
      rintro e w' ⟨rfl,hr,hg⟩
      have HR:=Zz.k hr
      have HGR:=Zz.k hg
      clear hr hg hl2 hcell hsw
      obtain ⟨g',rfl⟩ : ∃ g',gk = g' + 1:=⟨gk - 1,by omega⟩
      go_wp2
      go_roundg g'
      case measure => omega
      case rel =>
       refine ⟨2 * i + 1,Qcv ar i (2 * i + 1),by go_num,by omega,by rw [Qav]; omega,by rw [Qav]; omega,by rw [Qav]; omega,⟨by rw [Qav]; exact HAL.out⟩,⟨HPp.out.trans HP.out⟩,⟨fun k hk => (HFf.out k hk).trans (HF.out k hk)⟩,HS,⟨HG.out.grown (Qav _ _ _) HR.out ((drewG _ _).trans ((drewG _ _).trans HGR.out))⟩,⟨HB.out.trans ((drewG _ _).trans ((drewG _ _).trans HGR.out))⟩⟩
     ·have HX:=Zz.k (HD'.out.stop (fun k h0 hk hp => Int.le_trans (HL.out k h0 hk hp) (by omega)))
      rw [Ze hb2] at hl2
      clear hb2
      go_wp2_with fail
      with_reducible refine hl2.mono ?_
      rintro e w' ⟨rfl,rfl⟩
      go_wp2
      go_ret
      exact ⟨⟨_,rfl⟩,ar,HAL.out,HP.out,HF.out,HX.out,HG.out,HB.out.trans ((drewG _ _).trans (drewG _ _))⟩
   ·have HL:=Zz.k (leaf_end (l:=ar) h2)
    have h2z : ¬ 2 * (i : Int) + 1 + 1 < (n : Int):=by omega
    have hl2:=hung_LessZ base g c ar (2 * i + 1) i (2 * (i : Int) + 1) (i : Int) wr (by omega) rfl HG.out.2.2.2 (by omega) hil
    by_cases hb2 : at0 ar i < at0 ar (2 * i + 1)
    ·have HS:=Zz.k (HD'.out.step hnl (by omega) (by omega) (by omega) HL.out hb2)
     have hsw:=hung_SwapZ base g c ar i (2 * i + 1) (i : Int) (2 * (i : Int) + 1) wr.drew rfl (by omega) HG.out.2.2.2 hil (by omega)
     rw [Zd hb2] at hl2
     have HPp:=Zz.k (swapAt_perm ar i (2 * i + 1) hil (by omega))
     have HFf:=Zz.k (fun (k : Nat) (hk : n <= k) => (show at0 (Qcv ar i (2 * i + 1)) k = at0 ar k by rw [Qct _ _ _ _ hil (by omega),if_neg (by omega),if_neg (by omega)]))
     clear hb2
     go_wp2_with fail
     with_reducible refine hl2.mono ?_
     rintro e w' ⟨rfl,rfl⟩
     go_wp2_with fail
     with_reducible refine hsw.mono ?_
     rintro e w' ⟨rfl,hr,hg⟩
     have HR:=Zz.k hr
     have HGR:=Zz.k hg
     clear hr hg hl2 hcell hsw
     obtain ⟨g',rfl⟩ : ∃ g',gk = g' + 1:=⟨gk - 1,by omega⟩
     go_wp2
     go_roundg g'
     case measure => omega
     case rel =>
      refine ⟨2 * i + 1,Qcv ar i (2 * i + 1),by go_num,by omega,by rw [Qav]; omega,by rw [Qav]; omega,by rw [Qav]; omega,⟨by rw [Qav]; exact HAL.out⟩,⟨HPp.out.trans HP.out⟩,⟨fun k hk => (HFf.out k hk).trans (HF.out k hk)⟩,HS,⟨HG.out.grown (Qav _ _ _) HR.out ((drewG _ _).trans HGR.out)⟩,⟨HB.out.trans ((drewG _ _).trans HGR.out)⟩⟩
    ·have HX:=Zz.k (HD'.out.stop (fun k h0 hk hp => Int.le_trans (HL.out k h0 hk hp) (by omega)))
     rw [Ze hb2] at hl2
     clear hb2
     go_wp2_with fail
     with_reducible refine hl2.mono ?_
     rintro e w' ⟨rfl,rfl⟩
     go_wp2
     go_ret
     exact ⟨⟨_,rfl⟩,ar,HAL.out,HP.out,HF.out,HX.out,HG.out,HB.out.trans (drewG _ _)⟩
  ·have HX:=Zz.k (HD'.out.stop (fun k _ hk hp => absurd hk (by omega)))
   have h1z : (n : Int) <= 2 * (i : Int) + 1:=by omega
   go_wp2
   go_ret
   exact ⟨⟨_,rfl⟩,ar,HAL.out,HP.out,HF.out,HX.out,HG.out,HB.out⟩
end
section
attribute [local go_sem] m_Push m_Pop m_Len m_Less m_Swap ta_int
theorem Hun.len {w : World} {base p : Nat} {v : Value} {arr : List Int} (h : Hun w base p v arr) : (v = .slice none 0 0 /\ arr = []) \/ ∃ g c,v = .slice (some ⟨g,0,none⟩) arr.length c:=by
 rcases h.2.2.2.2 with ⟨h1,h2⟩ | ⟨g,c,_,h1,_⟩
 ·exact .inl ⟨h1,List.length_eq_zero_iff.1 h2⟩
 ·exact .inr ⟨g,c,h1⟩
theorem Hun.snoc {w : World} {base p : Nat} {v : Value} {arr : List Int} {x : Int} (h : Hun w base p v (arr ++ [x])) : ∃ g c,v = .slice (some ⟨g,0,none⟩) (arr ++ [x]).length c:=by
 rcases h.len with ⟨_,h2⟩ | h
 ·simp at h2
 ·exact h
theorem heap_Push (base p : Nat) (v : Value) (arr : List Int) (x : Int) (w : World) (h : Hun w base p v arr) (hh : Qdl arr arr.length) (hlen : arr.length < 900000) (hb : base <= w.heap.size) :
  Calls Tryz.prog 131 #[hungP p, .iface 3 (.int .i64 x)] w fun e w' => e = .returned (.tuple #[]) /\ ∃ v' arr',Hun w' base p v' arr' /\ Qdl arr' arr'.length /\ arr'.Perm (x :: arr) /\ (v'.ownBlock = v.ownBlock \/ ∃ b,v'.ownBlock = some b /\ w.heap.size <= b) /\ Fr w w' (fun k => k = p \/ v.ownBlock = some k):=by
 have hp:=hung_Push base p v arr x w h (by omega) hb
 have HH:=Zz.k hh
 clear hh h
 go_enter Tryz.func131,Tryz.ntmps131
 go_wp2_with fail
 with_reducible refine hp.mono ?_
 rintro e w1 ⟨rfl,v',hH,hat,hf⟩
 obtain ⟨g,c,rfl⟩:=hH.snoc
 have hc:=hH.1
 have hll : (arr ++ [x]).length = arr.length + 1:=by simp
 have hu:=heap_up base p g c arr.length (arr ++ [x]) w1 hH (by rw [hll]; exact HeapUp.start HH.out rfl x) (by omega) (by omega)
 have hlz:=hung_Len (some ⟨g,0,none⟩) (arr.length + 1) c w1
 rw [hll] at hc
 have HHH:=Zz.k hH
 have HAT:=Zz.k hat
 have HF:=Zz.k hf
 clear hp hH hat hf hll
 go_wp2_with fail
 with_reducible refine hlz.mono ?_
 rintro e w' ⟨rfl,rfl⟩
 go_wp2_with fail
 with_reducible refine hu.mono ?_
 rintro e w2 ⟨rfl,ar,hpe,hhe,hg,hgr⟩
 go_wp2
 go_end0
 refine ⟨rfl,_,ar,hg,hhe,hpe.trans (List.perm_append_comm (l₁:=arr) (l₂:=[x])),HAT.out,HF.out.trans (Fr.of_grown hgr) (fun k hk hlt => ?_)⟩
 have hgk : g = k:=Zo hk
 subst hgk
 rcases HAT.out with h | ⟨b,h,hle⟩
 ·exact .inr h.symm
 ·have : g = b:=Zo h
  omega
theorem take_perm {l : List Int} {n : Nat} (h : l.length = n + 1) : l.Perm (at0 l n :: l.take n):=by
 have e : l = l.take n ++ [at0 l n]:=by
  have h1 : l.drop n = [at0 l n]:=by
   rw [List.drop_eq_getElem_cons (by omega : n < l.length),List.drop_eq_nil_of_le (by omega)]
   simp [at0,List.getD_eq_getElem?_getD,List.getElem?_eq_getElem (by omega : n < l.length)]
  rw [<- h1,List.take_append_drop]
 exact (List.Perm.of_eq e).trans (List.perm_append_comm (l₁:=l.take n) (l₂:=[at0 l n]))
theorem heap_Pop (base p g c n : Nat) (arr : List Int) (w : World) (h : Hg w base p g c arr) (hh : Qdl arr arr.length) (hn : arr.length = n + 1) (hlen : arr.length < 900000) :
  Calls Tryz.prog 144 #[hungP p] w fun e w' => e = .returned (.iface 3 (.int .i64 (at0 arr 0))) /\ ∃ arr',Hg w' base p g c arr' /\ Qdl arr' arr'.length /\ arr.Perm (at0 arr 0 :: arr') /\ Fr w w' (fun k => k = p \/ k = g):=by
 have hnm : n < 900000:=by omega
 have hlz:=hung_Len (some ⟨g,0,none⟩) (n + 1) c w
 have hsw:=hung_SwapZ base g c arr 0 n 0 (n : Int) w rfl rfl h.2.2.2 (by omega) (by omega)
 have hc:=h.1
 rw [hn] at hc hsw hh
 have HH:=Zz.k h
 have HI:=Zz.k hh
 have HN:=Zz.k hn
 clear hh h hn
 go_enter Tryz.func144,Tryz.ntmps144
 go_wp2_with fail
 with_reducible refine hlz.mono ?_
 rintro e w' ⟨rfl,rfl⟩
 go_wp2_with fail
 with_reducible refine hsw.mono ?_
 rintro e w1 ⟨rfl,hr,hg⟩
 have H1 : Hg w1 base p g c (Qcv arr 0 n):=HH.out.grown (Qav _ _ _) hr hg
 have hl1 : (Qcv arr 0 n).length = n + 1:=by rw [Qav]; exact HN.out
 have hdn:=heap_down base p g c n (Qcv arr 0 n) w1 H1 (HeapDn.start HI.out HN.out.symm) (by omega) (by omega) (by omega)
 have HG:=Zz.k hg
 clear hr hg hsw hlz hc
 go_wp2_with fail
 with_reducible refine hdn.mono ?_
 rintro e w2 ⟨⟨u,rfl⟩,ar,hla,hpe,hfx,hhe,hgg,hgr⟩
 have hpp:=hung_Pop base p g c n ar w2 hgg (by omega) (by omega)
 have e0 : at0 ar n = at0 arr 0:=by
  rw [hfx n (Nat.le_refl _),Qct _ _ _ _ (by have:=HN.out; omega) (by have:=HN.out; omega),if_pos rfl]
 have hpa : arr.Perm (at0 arr 0 :: ar.take n):=by
  have h1:=(swapAt_perm arr 0 n (by have:=HN.out; omega) (by have:=HN.out; omega)).symm.trans (hpe.symm.trans (take_perm (n:=n) (hla.trans hl1)))
  rw [e0] at h1
  exact h1
 have hht : Qdl (ar.take n) (ar.take n).length:=by
  rw [show (ar.take n).length = n by rw [List.length_take]; omega]
  exact Qdl.take hhe
 have HX:=Zz.k (And.intro hpa (And.intro hht hgr))
 rw [e0] at hpp
 clear hla hpe hfx hhe hgg hdn hl1 H1 e0 hpa hht hgr
 go_wp2_with fail
 with_reducible refine hpp.mono ?_
 rintro e w3 ⟨rfl,h3,hf3⟩
 have H3:=Zz.k (And.intro h3 hf3)
 clear h3 hf3 hpp
 go_wp2
 go_ret
 refine ⟨rfl,ar.take n,H3.out.1,HX.out.2.1,HX.out.1, ?_⟩
 have f1:=(Fr.of_grown HG.out).trans (Fr.of_grown HX.out.2.2) (fun k hk _ => hk)
 exact (f1.mono (S':=fun k => k = p \/ k = g) (fun k hk _ => .inr (Zo hk).symm)).trans H3.out.2 (fun k hk _ => .inl hk)
end
section
open Go.Maps (Keyed IsMap has)
def ptrV : Option Nat -> Value
 | none => .pointer none
 | some p => .pointer (some ⟨p,0,none⟩)
def ptrC : Option Nat -> Int
 | none => -1
 | some p => (p : Int)
def ptrR : Value -> Option (DataW Unit × List MemPlace)
 | .pointer none => some (.lit (.int .i64 (-1)),[])
 | .pointer (some ⟨b,0,none⟩) => some (.lit (.int .i64 (b : Int)),[])
 | _ => none
theorem ptrR_V (o : Option Nat) : ptrR (ptrV o) = some (.lit (.int .i64 (ptrC o)),[]):=by cases o <;> rfl
theorem ptrR_inv {v : Value} {o : Option Nat} {ps : List MemPlace} (h : ptrR v = some (.lit (.int .i64 (ptrC o)),ps)) : v = ptrV o:=by
 unfold ptrR at h
 split at h
 ·simp only [Option.some.injEq,Prod.mk.injEq,DataW.lit.injEq,Lit.int.injEq,true_and] at h
  cases o with
  | none => rfl
  | some p => have:=h.1; simp [ptrC] at this
 ·simp only [Option.some.injEq,Prod.mk.injEq,DataW.lit.injEq,Lit.int.injEq,true_and] at h
  cases o with
  | none => have:=h.1; simp [ptrC] at this
  | some p =>
   have:=h.1
   simp only [ptrC] at this
   have:=Int.ofNat_inj.1 this
   subst this
   rfl
 ·cases h
section
variable {κ : Type} [DecidableEq κ]
def MapP (enc : κ -> Value) (K : TypeId) (w : World) (b n : Nat) (S : κ -> Option Nat) : Prop :=
 ∃ D : DataW Unit,w.ownsMap Tryz.prog K ptrR b n D /\ IsMap D /\ ∀ x kl,keyOf Tryz.prog K (enc x) = some kl -> D.atKey kl (.lit (.int .i64 (-1))) = .lit (.int .i64 (ptrC (S x)))
def updP (S : κ -> Option Nat) (x : κ) (p : Nat) : κ -> Option Nat:=fun y => if y = x then some p else S y
variable {enc : κ -> Value} {T K E : TypeId} {w w' : World} {b n : Nat} {S : κ -> Option Nat}
omit [DecidableEq κ] in
theorem MapP.made (enc : κ -> Value) (K : TypeId) (w : World) : MapP enc K (w.alloc (.map #[] 0)) w.heap.size 0 (fun _ => none) :=
 ⟨_,World.ownsMap_made _ _ _ _,Go.Maps.isMap_empty,fun x kl _ => rfl⟩
omit [DecidableEq κ] in
theorem MapP.lt (h : MapP enc K w b n S) : b < w.heap.size:=by obtain ⟨D,ho,_⟩:=h; exact ho.lt
omit [DecidableEq κ] in
theorem MapP.fr {T : Nat -> Prop} (h : MapP enc K w b n S) (hf : Fr w w' T) (hb : ¬ T b) : MapP enc K w' b n S:=by
 have hl:=h.lt
 obtain ⟨D,⟨es,clock,h1,h2⟩,hi,hD⟩:=h
 exact ⟨D,⟨es,clock,(hf.block b hl hb).trans h1,h2⟩,hi,hD⟩
omit [DecidableEq κ] in
theorem MapP.look (h : MapP enc K w b n S) (law : Keyed Tryz.prog K) (ht : Tryz.prog.underlying T = some (.map K E)) (hz : ∀ w,(zeroValue E).run Tryz.prog w = .ok (.pointer none) w)
  (x : κ) {kl : Lit} (hk : keyOf Tryz.prog K (enc x) = some kl) : (Instr.lookup T (.map (some b)) (enc x) false).run Tryz.prog w = .ok (ptrV (S x)) w:=by
 obtain ⟨D,ho,hi,hD⟩:=h
 obtain ⟨v,ps,hrun,hv⟩:=ho.lookup law ht (hz w) (ptrR_V none) hk
 have e : D.atKey kl (.lit (.int .i64 (ptrC none))) = .lit (.int .i64 (ptrC (S x))):=hD x kl hk
 rw [e] at hv
 rw [hrun,ptrR_inv hv]
theorem MapP.store (h : MapP enc K w b n S) (law : Keyed Tryz.prog K) (ht : Tryz.prog.underlying T = some (.map K E)) (hn : n < maxLen) (hinj : ∀ x y,enc x = enc y -> x = y)
  (x : κ) (p : Nat) {kl : Lit} (hk : keyOf Tryz.prog K (enc x) = some kl) :
  ∃ w',(Instr.mapUpdate T (.map (some b)) (enc x) (.pointer (some ⟨p,0,none⟩))).run Tryz.prog w = .ok () w' /\ MapP enc K w' b (n + 1) (updP S x p) /\ w.grownBy w' (some b):=by
 obtain ⟨D,ho,hi,hD⟩:=h
 obtain ⟨w',hrun,ho',hg⟩:=ho.update law ht hn hk (ptrR_V (some p))
 refine ⟨w',hrun,⟨_,ho',hi.put _ _,fun y kl' hk' => ?_⟩,hg⟩
 by_cases hy : y = x
 ·subst hy
  obtain rfl : kl = kl':=by rw [hk] at hk'; exact Zo hk'
  simp only [updP,if_true]
  exact Go.Maps.atKey_put_same hi (law.key hk) _ _
 ·have hne : kl' ≠ kl:=fun e => hy (hinj _ _ (law.inj hk' (by rw [e]; exact hk)))
  simp only [updP,hy,if_false]
  rw [Go.Maps.atKey_put_other hne]
  exact hD y kl' hk'
end
theorem zeroH (w : World) : (zeroValue 149).run Tryz.prog w = .ok (.pointer none) w:=by kernel_rfl
abbrev K3:=Int × Int × Int
def key3 (e : SElem) : K3:=(e.f0,e.f1,e.f2)
def Foot (S : K3 -> Option Nat) (V : K3 -> Value) (x : K3) (k : Nat) : Prop:=∃ p,S x = some p /\ (k = p \/ (V x).ownBlock = some k)
structure Forest (w : World) (base bU n : Nat) (S : K3 -> Option Nat) (V : K3 -> Value) (U : K3 -> List Int) : Prop where
 map : MapP encE 32 w bU n S
 some_ : ∀ x p,S x = some p -> ∃ arr,Hun w base p (V x) arr /\ Qdl arr arr.length /\ arr.Perm (U x)
 none_ : ∀ x,S x = none -> U x = []
 apart : ∀ x y k,x ≠ y -> Foot S V x k -> ¬ Foot S V y k
 rows : ∀ x k,Foot S V x k -> base <= k /\ k < w.heap.size /\ k ≠ bU
 base_ : base <= bU
def updV (V : K3 -> Value) (x : K3) (v : Value) : K3 -> Value:=fun y => if y = x then v else V y
def updU (U : K3 -> List Int) (x : K3) (l : List Int) : K3 -> List Int:=fun y => if y = x then l else U y
section
variable {w w' : World} {base bU n : Nat} {S : K3 -> Option Nat} {V : K3 -> Value} {U : K3 -> List Int}
theorem Forest.fr {T : Nat -> Prop} (h : Forest w base bU n S V U) (hf : Fr w w' T) (hb : ¬ T bU) (hT : ∀ x k,Foot S V x k -> ¬ T k) : Forest w' base bU n S V U :=
 ⟨h.map.fr hf hb,fun x p hp => by
   obtain ⟨arr,h1,h2,h3⟩:=h.some_ x p hp
   exact ⟨arr,h1.fr hf (hT x p ⟨p,hp, .inl rfl⟩) (fun k hk => hT x k ⟨p,hp, .inr hk⟩),h2,h3⟩,
  h.none_,h.apart,fun x k hk => ⟨(h.rows x k hk).1,Nat.lt_of_lt_of_le (h.rows x k hk).2.1 hf.size,(h.rows x k hk).2.2⟩,h.base_⟩
theorem Forest.below (h : Forest w base bU n S V U) (hf : Below w.heap.size w w') : Forest w' base bU n S V U :=
 h.fr (Fr.of_below hf (fun _ => False)) (fun h => h) (fun _ _ _ h => h)
theorem Forest.drew (h : Forest w base bU n S V U) : Forest w.drew base bU n S V U:=h.below (Qae (Below.refl _ w))
theorem Forest.at {x : K3} {p : Nat} {v' : Value} {arr' : List Int} {ys : List Int} (h : Forest w base bU n S V U) (hS : S x = some p) (hf : Fr w w' (fun k => k = p \/ (V x).ownBlock = some k))
  (hH : Hun w' base p v' arr') (hh : Qdl arr' arr'.length) (hp : arr'.Perm ys) (hv : v'.ownBlock = (V x).ownBlock \/ ∃ b,v'.ownBlock = some b /\ w.heap.size <= b /\ b < w'.heap.size) (hbase : base <= w.heap.size) : Forest w' base bU n S (updV V x v') (updU U x ys):=by
 have hTx : ∀ k,(k = p \/ (V x).ownBlock = some k) -> Foot S V x k:=fun k hk => ⟨p,hS,hk⟩
 have hbU : ¬ (bU = p \/ (V x).ownBlock = some bU):=fun e => (h.rows x bU (hTx bU e)).2.2 rfl
 have hfoot : ∀ y k,Foot S (updV V x v') y k -> (y ≠ x /\ Foot S V y k) \/ (y = x /\ (Foot S V x k \/ (w.heap.size <= k /\ k < w'.heap.size))):=by
  rintro y k ⟨q,hq,hk⟩
  by_cases e : y = x
  ·subst e
   refine .inr ⟨rfl, ?_⟩
   simp only [updV,if_true] at hk
   rcases hk with rfl | hk
   ·exact .inl ⟨_,hq, .inl rfl⟩
   ·rcases hv with hv | ⟨b,hb,hle,hlt⟩
    ·exact .inl ⟨_,hq, .inr (by rw [<- hv]; exact hk)⟩
    ·rw [hb] at hk; cases hk; exact .inr ⟨hle,hlt⟩
  ·simp only [updV,e,if_false] at hk
   exact .inl ⟨e,q,hq,hk⟩
 refine ⟨h.map.fr hf hbU, ?_, ?_, ?_, ?_,h.base_⟩
 ·intro y q hq
  by_cases e : y = x
  ·subst e
   rw [hS] at hq; cases hq
   simp only [updV,updU,if_true]
   exact ⟨arr',hH,hh,hp⟩
  ·simp only [updV,updU,e,if_false]
   obtain ⟨arr,h1,h2,h3⟩:=h.some_ y q hq
   have hn : ∀ k,Foot S V y k -> ¬ (k = p \/ (V x).ownBlock = some k):=fun k hk hk2 => h.apart y x k e hk (hTx k hk2)
   exact ⟨arr,h1.fr hf (hn q ⟨q,hq, .inl rfl⟩) (fun k hk => hn k ⟨q,hq, .inr hk⟩),h2,h3⟩
 ·intro y hy
  have e : y ≠ x:=by rintro rfl; rw [hS] at hy; cases hy
  simp only [updU,e,if_false]
  exact h.none_ y hy
 ·intro y z k hyz hy hz
  rcases hfoot y k hy with ⟨e1,f1⟩ | ⟨rfl,f1⟩ <;> rcases hfoot z k hz with ⟨e2,f2⟩ | ⟨rfl,f2⟩
  ·exact h.apart y z k hyz f1 f2
  ·rcases f2 with f2 | ⟨f2,_⟩
   ·exact h.apart y _ k hyz f1 f2
   ·have:=(h.rows y k f1).2.1; omega
  ·rcases f1 with f1 | ⟨f1,_⟩
   ·exact h.apart _ z k hyz f1 f2
   ·have:=(h.rows z k f2).2.1; omega
  ·exact hyz rfl
 ·intro y k hy
  rcases hfoot y k hy with ⟨_,f1⟩ | ⟨_,f1 | ⟨f1,f2⟩⟩
  ·exact ⟨(h.rows y k f1).1,Nat.lt_of_lt_of_le (h.rows y k f1).2.1 hf.size,(h.rows y k f1).2.2⟩
  ·exact ⟨(h.rows x k f1).1,Nat.lt_of_lt_of_le (h.rows x k f1).2.1 hf.size,(h.rows x k f1).2.2⟩
  ·exact ⟨by omega,f2,by have:=h.map.lt; omega⟩
theorem Forest.new {w1 w2 : World} {x : K3} {p : Nat} {v' : Value} (h : Forest w base bU n S V U) (hS : S x = none) (hf : Fr w w1 (fun _ => False)) (hp : w.heap.size <= p) (hpl : p < w1.heap.size) (hH : Hun w1 base p v' []) (hv : ∀ k,v'.ownBlock = some k -> w.heap.size <= k /\ k < w1.heap.size)
  (hm : MapP encE 32 w2 bU (n + 1) (updP S x p)) (hg : w1.grownBy w2 (some bU)) (hbase : base <= w.heap.size) : Forest w2 base bU (n + 1) (updP S x p) (updV V x v') U:=by
 have hbl:=h.map.lt
 have hf2 : Fr w w2 (fun k => k = bU):=(hf.mono (S':=fun k => k = bU) (fun _ e _ => e.elim)).trans (Fr.of_grown hg) (fun k hk _ => (Zo hk).symm)
 have hfoot : ∀ y k,Foot (updP S x p) (updV V x v') y k -> (y ≠ x /\ Foot S V y k) \/ (y = x /\ w.heap.size <= k /\ k < w1.heap.size):=by
  rintro y k ⟨q,hq,hk⟩
  by_cases e : y = x
  ·subst e
   simp only [updV,updP,if_true,Option.some.injEq] at hk hq
   subst hq
   rcases hk with rfl | hk
   ·exact .inr ⟨rfl,hp,hpl⟩
   ·exact .inr ⟨rfl,hv k hk⟩
  ·simp only [updV,updP,e,if_false] at hk hq
   exact .inl ⟨e,q,hq,hk⟩
 refine ⟨hm, ?_, ?_, ?_, ?_,h.base_⟩
 ·intro y q hq
  by_cases e : y = x
  ·subst e
   simp only [updP,if_true,Option.some.injEq] at hq
   subst hq
   simp only [updV,if_true]
   refine ⟨[],hH.fr (Fr.of_grown hg) (fun e => ?_) (fun k hk e => ?_),(fun k _ hk => absurd hk (Nat.not_lt_zero _)),by rw [h.none_ _ hS]⟩
   ·have:=Zo e; omega
   ·have:=Zo e
    have:=(hv k hk).1
    omega
  ·simp only [updV,updP,e,if_false] at hq ⊢
   obtain ⟨arr,h1,h2,h3⟩:=h.some_ y q hq
   have hn : ∀ k,Foot S V y k -> ¬ k = bU:=fun k hk => (h.rows y k hk).2.2
   exact ⟨arr,h1.fr hf2 (hn q ⟨q,hq, .inl rfl⟩) (fun k hk => hn k ⟨q,hq, .inr hk⟩),h2,h3⟩
 ·intro y hy
  by_cases e : y = x
  ·subst e; simp [updP] at hy
  ·simp only [updP,e,if_false] at hy
   exact h.none_ y hy
 ·intro y z k hyz hy hz
  rcases hfoot y k hy with ⟨e1,f1⟩ | ⟨rfl,f1⟩ <;> rcases hfoot z k hz with ⟨e2,f2⟩ | ⟨rfl,f2⟩
  ·exact h.apart y z k hyz f1 f2
  ·have:=(h.rows y k f1).2.1; omega
  ·have:=(h.rows z k f2).2.1; omega
  ·exact hyz rfl
 ·intro y k hy
  rcases hfoot y k hy with ⟨_,f1⟩ | ⟨_,f1,f2⟩
  ·exact ⟨(h.rows y k f1).1,Nat.lt_of_lt_of_le (h.rows y k f1).2.1 hf2.size,(h.rows y k f1).2.2⟩
  ·exact ⟨by omega,Nat.lt_of_lt_of_le f2 hg.size,by omega⟩
end
theorem Hun.own_lt {w : World} {base p : Nat} {v : Value} {arr : List Int} (h : Hun w base p v arr) : ∀ k,v.ownBlock = some k -> base <= k /\ k < w.heap.size:=World.ownsRow.lt h.2.2.2
theorem foot_updV {S : K3 -> Option Nat} {V : K3 -> Value} {x y : K3} {v' : Value} {k B : Nat} (hv : v'.ownBlock = (V x).ownBlock \/ ∃ b,v'.ownBlock = some b /\ B <= b) (h : Foot S (updV V x v') y k) : Foot S V y k \/ B <= k:=by
 obtain ⟨q,hq,hk⟩:=h
 by_cases e : y = x
 ·subst e
  simp only [updV,if_true] at hk
  rcases hk with rfl | hk
  ·exact .inl ⟨_,hq, .inl rfl⟩
  ·rcases hv with hv | ⟨b,hb,hle⟩
   ·exact .inl ⟨q,hq, .inr (by rw [<- hv]; exact hk)⟩
   ·rw [hb] at hk; cases hk; exact .inr hle
 ·simp only [updV,e,if_false] at hk
  exact .inl ⟨q,hq,hk⟩
theorem foot_updP {S : K3 -> Option Nat} {V : K3 -> Value} {x y : K3} {v' : Value} {p k B : Nat} (hp : B <= p) (hv : ∀ k,v'.ownBlock = some k -> B <= k) (h : Foot (updP S x p) (updV V x v') y k) : Foot S V y k \/ B <= k:=by
 obtain ⟨q,hq,hk⟩:=h
 by_cases e : y = x
 ·subst e
  simp only [updV,updP,if_true,Option.some.injEq] at hk hq
  subst hq
  rcases hk with rfl | hk
  ·exact .inr hp
  ·exact .inr (hv k hk)
 ·simp only [updV,updP,e,if_false] at hk hq
  exact .inl ⟨q,hq,hk⟩
theorem Forest.push {w : World} {base bU n : Nat} {S : K3 -> Option Nat} {V : K3 -> Value} {U : K3 -> List Int} {x : K3} {p : Nat} (h : Forest w base bU n S V U) (hS : S x = some p) (hlen : (U x).length < 900000) (hb : base <= w.heap.size) (z : Int) :
  Calls Tryz.prog 131 #[hungP p, .iface 3 (.int .i64 z)] w fun e w' => e = .returned (.tuple #[]) /\ ∃ v',Forest w' base bU n S (updV V x v') (updU U x (z :: U x)) /\ Fr w w' (fun k => k = p \/ (V x).ownBlock = some k) /\ (v'.ownBlock = (V x).ownBlock \/ ∃ b,v'.ownBlock = some b /\ w.heap.size <= b):=by
 obtain ⟨arr,h1,h2,h3⟩:=h.some_ x p hS
 refine (heap_Push base p (V x) arr z w h1 h2 (by rw [h3.length_eq]; exact hlen) hb).mono ?_
 rintro e w' ⟨rfl,v',arr',hH,hh,hp,hv,hf⟩
 refine ⟨rfl,v',h.at hS hf hH hh (hp.trans (h3.cons z)) ?_ hb,hf,hv⟩
 rcases hv with hv | ⟨b,hb',hle⟩
 ·exact .inl hv
 ·exact .inr ⟨b,hb',hle,(hH.own_lt b hb').2⟩
def gU (l : List SOp) : Nat -> K3 -> List Int
 | 0 => fun _ => []
 | i + 1 => if (Qad l i).f4.toList.isEmpty then gU l i else updU (gU l i) (key3 (Qad l i).f3) ((i : Int) :: gU l i (key3 (Qad l i).f3))
theorem gU_lt (l : List SOp) : ∀ i x k,k ∈ gU l i x -> 0 <= k /\ k < (i : Int)
 | 0,x,k,h => by simp [gU] at h
 | i + 1,x,k,h => by
  unfold gU at h
  split at h
  ·have:=gU_lt l i x k h; omega
  ·unfold updU at h
   split at h
   ·rcases List.mem_cons.1 h with rfl | h
    ·omega
    ·have:=gU_lt l i _ k h; omega
   ·have:=gU_lt l i x k h; omega
theorem gU_len (l : List SOp) : ∀ i x,(gU l i x).length <= i
 | 0,x => by simp [gU]
 | i + 1,x => by
  unfold gU
  split
  ·have:=gU_len l i x; omega
  ·unfold updU
   split
   ·have:=gU_len l i (key3 (Qad l i).f3); simp; omega
   ·have:=gU_len l i x; omega
end
section
attribute [local go_sem] mk_run
structure GrowI (w wr : World) (A : Option Addr) (c : Nat) (l : List SOp) (G bU i : Nat) (S : K3 -> Option Nat) (V : K3 -> Value) (n : Nat) : Prop where
 forest : Forest wr w.heap.size bU n S V (gU l i)
 below : Below w.heap.size w wr
 n_ : n <= i
 G_ : w.heap.size <= G
 GbU : G ≠ bU
 far : ∀ x k,Foot S V x k -> k ≠ G
 c0 : wr.cell? ⟨G,0,none⟩ = some (.slice A l.length c)
 c1 : wr.cell? ⟨G,1,none⟩ = some (.map (some bU))
 c2 : wr.cell? ⟨G,2,none⟩ = some (.slice none 0 0)
 fz : wr.frozen? ⟨G,2,none⟩ = false
theorem one_box {Q : World -> Prop} (W : World) (cs : Array Value) (t : TypeId) (h : ∀ w2,(∀ j,w2.cell? ⟨W.heap.size,j,none⟩ = cs[j]?) -> Below W.heap.size W w2 -> w2.heap.size = W.heap.size + 1 -> Q w2) : Q (W.alloc (.cells cs t)) :=
 h _ (fun j => by simp) (Qag (Below.refl _ _) _) (by simp)
theorem GrowI.next {w wr w' : World} {A : Option Addr} {c : Nat} {l : List SOp} {G bU i n n' : Nat} {S S' : K3 -> Option Nat} {V V' : K3 -> Value} {T : Nat -> Prop} (h : GrowI w wr A c l G bU i S V n) (hF : Forest w' w.heap.size bU n' S' V' (gU l (i + 1))) (hf : Fr wr w' T) (hTb : ∀ k,T k -> w.heap.size <= k /\ k ≠ G)
  (hfar : ∀ x k,Foot S' V' x k -> Foot S V x k \/ wr.heap.size <= k) (hn : n' <= i + 1) : GrowI w w' A c l G bU (i + 1) S' V' n' :=
 have hG : G < wr.heap.size:=World.block_lt_of_cell? wr _ h.c0
 have hTG : ¬ T G:=fun e => (hTb G e).2 rfl
 ⟨hF,h.below.trans (hf.below (fun k hk => (hTb k hk).1) h.below.size),hn,h.G_,h.GbU,fun x k hk => (hfar x k hk).elim (fun e => h.far x k e) (fun e => by omega),hf.cell hTG h.c0,hf.cell hTG h.c1,hf.cell hTG h.c2,(hf.frozen hG hTG).trans h.fz⟩
theorem gU_skip {l : List SOp} {i : Nat} {o : SOp} (ho : Qad l (i : Int) = o) (he : o.f4.toList.isEmpty = true) : gU l (i + 1) = gU l i:=by
 show (if (Qad l i).f4.toList.isEmpty then gU l i else _) = gU l i
 rw [ho,he]; rfl
theorem gU_push {l : List SOp} {i : Nat} {o : SOp} (ho : Qad l (i : Int) = o) (he : o.f4.toList.isEmpty = false) : gU l (i + 1) = updU (gU l i) (key3 o.f3) ((i : Int) :: gU l i (key3 o.f3)):=by
 show (if (Qad l i).f4.toList.isEmpty then gU l i else _) = _
 rw [ho,he]; rfl
theorem afterKey {o : SOp} (h : opOk o = true) : ∃ kl,keyOf Tryz.prog 32 (encE (key3 o.f3)) = some kl:=by
 have hb : (Qaq o.f3 = false -> inI o.f3.f0 /\ inI o.f3.f1 /\ inI o.f3.f2):=fun hz => by
  rcases opOk_kind h with ⟨_,h⟩ | ⟨_,h⟩
  ·unfold editOk at h; simp only [Bool.and_eq_true] at h
   have h1:=h.1.1.1.1.1.1.1.1.1
   unfold Qco at h1; rw [hz] at h1; simp at h1
   refine ⟨(nameOk_in h1.1.1).1,(nameOk_in h1.1.1).2, ?_⟩
   unfold inI; omega
  ·unfold Qch at h; simp only [Bool.and_eq_true] at h; rw [hz] at h; simp at h
 cases hz : Qaq o.f3 with
 | false => exact keyE (hb hz).1 (hb hz).2.1 (hb hz).2.2
 | true =>
  have hz' : (o.f3.f0 == 0 && (o.f3.f1 == 0 && (o.f3.f2 == 0))) = true:=hz
  simp at hz'
  refine keyE (x:=key3 o.f3) ?_ ?_ ?_ <;> simp only [key3,hz'] <;> (unfold inI; omega)
def okRow (l : List SOp) : Bool:=smalls l && decide (l.length <= 40) && l.all opOk
theorem okRow_at {l : List SOp} (h : okRow l = true) {i : Nat} (hi : i < l.length) : Sm (Qad l i) /\ opOk (Qad l i) = true:=by
 unfold okRow at h; simp only [Bool.and_eq_true] at h
 refine ⟨smalls_at h.1.1 hi, ?_⟩
 rw [Qar _ _ hi]
 exact List.all_eq_true.1 h.2 _ (List.getElem_mem hi)
theorem okRow_len {l : List SOp} (h : okRow l = true) : l.length <= 40:=by
 unfold okRow at h; simp only [Bool.and_eq_true,decide_eq_true_eq] at h; exact h.1.2
theorem grown_calls (A : Option Addr) (c : Nat) (l : List SOp) (w : World) (hr : Kd.C kOp w A l.length l) (hc : l.length <= c) (hok : okRow l = true) :
  Calls Tryz.prog 111 #[.slice A l.length c] w fun e w' => ∃ (G bU n : Nat) (S : K3 -> Option Nat) (V : K3 -> Value),e = .returned (.pointer (some ⟨G,0,none⟩)) /\ GrowI w w' A c l G bU l.length S V n:=by
 have HR:=Zz.k hr
 have HOK:=Zz.k hok
 have h40:=okRow_len hok
 clear hr hok
 go_enter Tryz.func111,Tryz.ntmps111
 go_wp2
 go_loopg [12] l.length (fun gg s12 wr => ∃ (i n : Nat) (S : K3 -> Option Nat) (V : K3 -> Value),s12 = .int .i64 i /\ i <= l.length /\ l.length <= gg + i /\ Zz (GrowI w wr A c l (w.heap.size + 1) w.heap.size i S V n))
 case atStart =>
  have hb1 : Below w.heap.size w (w.alloc (.map #[] 0)):=Qag (Below.refl _ _) _
  have hs1 : (w.alloc (.map #[] 0)).heap.size = w.heap.size + 1:=by simp
  have hm:=MapP.made encE 32 w
  have hb2:=Qag hb1 (.cells #[.slice A l.length c, .map (some w.heap.size), .slice none 0 0] 131)
  have hb3:=Qag (Below.refl _ (w.alloc (.map #[] 0))) (.cells #[.slice A l.length c, .map (some w.heap.size), .slice none 0 0] 131)
  have hc2:=fun j => top_cell (w.alloc (.map #[] 0)) #[.slice A l.length c, .map (some w.heap.size), .slice none 0 0] 131 _ j hs1
  have hf2:=top_frozen (w.alloc (.map #[] 0)) #[.slice A l.length c, .map (some w.heap.size), .slice none 0 0] 131 _ 2 hs1
  have hno : ∀ (V : K3 -> Value) x k,¬ Foot (fun _ => none) V x k:=fun V x k hk => by obtain ⟨p,hp,_⟩:=hk; cases hp
  exact ⟨0,0,fun _ => none,fun _ => .pointer none,rfl,Nat.zero_le _,by omega,⟨⟨⟨hm.fr (Fr.of_below hb3 (fun _ => False)) (fun h => h),fun x p hp => (by cases hp),fun x _ => rfl,fun x y k _ hk => (hno _ _ _ hk).elim,fun x k hk => (hno _ _ _ hk).elim,Nat.le_refl _⟩,hb2,Nat.le_refl _,by omega,by omega,fun x k hk => (hno _ _ _ hk).elim,hc2 0,hc2 1,hc2 2,hf2⟩⟩⟩
 case round =>
  obtain ⟨i,n,S,V,rfl,hi,hgg,HG⟩:=hrel
  by_cases hlt : i < l.length
  ·have hltz : (i : Int) < (l.length : Int):=by omega
   have h0z : (0 : Int) <= (i : Int):=by omega
   obtain ⟨ad,A7,c7,rfl,x0,x1,x2,x3,x4,x5,x6,x7,x8,x9,x10,l7,g7⟩:=Qcg (Kd.C_below HR.out HG.out.below) (i : Int) h0z hltz
   clear l7 g7
   simp only [Int.toNat_natCast] at x0 x1 x2 x3 x4 x5 x6 x7 x8 x9 x10
   have HSM:=Zz.k (okRow_at HOK.out hlt)
   generalize ho : Qad l (i : Int) = o at x0 x1 x2 x3 x4 x5 x6 x7 x8 x9 x10 HSM
   have HO:=Zz.k ho
   clear ho
   cases he : o.f4.toList.isEmpty with
   | true =>
    have HGU:=Zz.k (gU_skip HO.out he)
    go_wp2
    obtain ⟨g',rfl⟩ : ∃ g',gk = g' + 1:=⟨gk - 1,by omega⟩
    go_roundg g'
    case measure => omega
    case rel =>
     refine ⟨i + 1,n,S,V,by go_num,by omega,by omega,⟨?_⟩⟩
     exact HG.out.next (by rw [HGU.out]; exact HG.out.forest.below (Qag (Below.refl _ _) _)) (Fr.of_below (Qag (Below.refl _ _) _) (fun _ => False)) (fun _ h => h.elim) (fun _ _ h => .inl h) (by have:=HG.out.n_; omega)
   | false =>
    have HGU:=Zz.k (gU_push HO.out he)
    obtain ⟨kl,hkl⟩:=afterKey HSM.out.2
    go_upto_if 19 with (fail)
    refine one_box (Q:=Code.wp _ _ _ _) wr _ _ (fun w3 g2 gB gS => ?_)
    have o3:=g2 3; have o4:=g2 4; have o5:=g2 5
    simp only [List.getElem?_toArray,List.getElem?_cons_zero,List.getElem?_cons_succ] at o3 o4 o5
    have d1:=Qab gB HG.out.c1
    have HGB:=Zz.k gB
    have hF3:=HG.out.forest.below gB
    have hlk:=fun (X : World) (hX : Forest X w.heap.size w.heap.size n S V (gU l i)) => hX.map.look lawE Tryz.underlying129 zeroH (key3 o.f3) hkl
    simp only [encE,key3] at hlk
    have HLK:=Zz.k hlk
    have lw3 : w.heap.size <= w3.heap.size:=Nat.le_trans HG.out.below.size gB.size
    have lG : w.heap.size + 1 < wr.heap.size:=World.block_lt_of_cell? wr _ HG.out.c1
    clear g2 gB x0 x1 x2 x3 x4 x5 x6 x7 x8 x9 x10 hlk
    cases hS : S (o.f3.f0,o.f3.f1,o.f3.f2) with
    | some p =>
     have hL:=HLK.out w3.drew hF3.drew
     rw [hS] at hL
     simp only [ptrV] at hL
     have HF3:=Zz.k hF3
     have HP:=Zz.k (Forest.push (w:=w3.drew.drew) hF3.drew.drew hS (by have:=gU_len l i (key3 o.f3); show (gU l i (key3 o.f3)).length < 900000; omega) lw3 (i : Int))
     clear hF3
     go_wp2
     refine stR (S:=fun w' => w'.cell? ⟨w.heap.size + 1,1,none⟩ = some (.map (some w.heap.size)) /\ w'.cell? ⟨wr.heap.size,3,none⟩ = some (.int .i64 o.f3.f0) /\ w'.cell? ⟨wr.heap.size,4,none⟩ = some (.int .i64 o.f3.f1) /\ w'.cell? ⟨wr.heap.size,5,none⟩ = some (.int .i64 o.f3.f2) /\ (Instr.lookup 129 (.map (some w.heap.size)) (.agg #[.int .i64 o.f3.f0, .int .i64 o.f3.f1, .int .i64 o.f3.f2]) false).run Tryz.prog w' = .ok (.pointer (some ⟨p,0,none⟩)) w')
      8 t_tree_grown.bits6 t_tree_grown.tab6 (hS:=⟨d1,o3,o4,o5,hL⟩) (h:=fun hS' HT HW => ?_)
     refine pu HT 0 20 1 (h := ?_)
     refine pu HT 1 21 3 (h := ?_)
     refine pu HT 2 22 7 (h := ?_)
     refine tk HT HW hS' 3 23 15 (h := ?_)
     refine pu HT 4 24 31 (h := ?_)
     refine tk HT HW hS' 5 25 63 (h := ?_)
     refine tk HT HW hS' 6 26 127 (h := ?_)
     refine pu HT 7 27 255 (h := ?_)
     refine dn HT (h := ?_)
     clear HT HW hS'
     go_wp2
     have hL2 : (Instr.lookup 129 (.map (some w.heap.size)) (.agg #[.int .i64 o.f3.f0, .int .i64 o.f3.f1, .int .i64 o.f3.f2]) false).run Tryz.prog w3.drew.drew = .ok (.pointer (some ⟨p,0,none⟩)) w3.drew.drew:=by
      have:=HLK.out w3.drew.drew HF3.out.drew.drew
      rw [hS] at this
      exact this
     refine stL (S:=fun w' => w'.cell? ⟨w.heap.size + 1,1,none⟩ = some (.map (some w.heap.size)) /\ w'.cell? ⟨wr.heap.size,3,none⟩ = some (.int .i64 o.f3.f0) /\ w'.cell? ⟨wr.heap.size,4,none⟩ = some (.int .i64 o.f3.f1) /\ w'.cell? ⟨wr.heap.size,5,none⟩ = some (.int .i64 o.f3.f2) /\ (Instr.lookup 129 (.map (some w.heap.size)) (.agg #[.int .i64 o.f3.f0, .int .i64 o.f3.f1, .int .i64 o.f3.f2]) false).run Tryz.prog w' = .ok (.pointer (some ⟨p,0,none⟩)) w')
      [10] 11 t_tree_grown.bits8 t_tree_grown.tab8 (hS:=⟨d1,o3,o4,o5,hL2⟩) (h:=fun hS' HT HW => ?_)
     refine pu HT 0 36 1 (h := ?_)
     refine pu HT 1 37 3 (h := ?_)
     refine pu HT 2 38 7 (h := ?_)
     refine tk HT HW hS' 3 39 15 (h := ?_)
     refine pu HT 4 40 31 (h := ?_)
     refine tk HT HW hS' 5 41 63 (h := ?_)
     refine tk HT HW hS' 6 42 127 (h := ?_)
     refine pu HT 7 43 255 (h := ?_)
     refine pu HT 8 44 511 (h := ?_)
     refine pu HT 9 45 1023 (h := ?_)
     refine caL HT 10 (some 46) 2047 #[hungP p, .iface 3 (.int .i64 (i : Int))] Tryz.func131 (h := ?_)
     refine HP.out.mono ?_
     rintro e w8 ⟨rfl,v',hF8,hf8,hv8⟩
     refine ⟨_,rfl, ?_⟩
     have HF8:=Zz.k hF8
     have Hf8:=Zz.k hf8
     have HV8:=Zz.k hv8
     clear hF8 hf8 hv8 hS' hL hL2
     refine nm (h := ?_)
     refine dn HT (h := ?_)
     clear HT HW
     go_wp2
     obtain ⟨g',rfl⟩ : ∃ g',gk = g' + 1:=⟨gk - 1,by omega⟩
     go_roundg g'
     case measure => omega
     case rel =>
      refine ⟨i + 1,n,S,_,by go_num,by omega,by omega,⟨HG.out.next (by rw [HGU.out]; exact HF8.out) ((Fr.of_below (Qae (Qae HGB.out)) _).trans Hf8.out (fun k hk _ => hk)) (fun k hk => ?_) (fun x k hk => ?_) (by have:=HG.out.n_; omega)⟩⟩
      ·have:=HG.out.forest.rows _ k ⟨p,hS,hk⟩
       exact ⟨this.1,HG.out.far _ k ⟨p,hS,hk⟩⟩
      ·rcases foot_updV HV8.out hk with h | h
       ·exact .inl h
       ·exact .inr (Nat.le_trans HGB.out.size h)
    | none =>
     have hL:=HLK.out w3.drew hF3.drew
     rw [hS] at hL
     simp only [ptrV] at hL
     have HF3:=Zz.k hF3
     clear hF3
     go_wp2
     refine stR (S:=fun w' => w'.cell? ⟨w.heap.size + 1,1,none⟩ = some (.map (some w.heap.size)) /\ w'.cell? ⟨wr.heap.size,3,none⟩ = some (.int .i64 o.f3.f0) /\ w'.cell? ⟨wr.heap.size,4,none⟩ = some (.int .i64 o.f3.f1) /\ w'.cell? ⟨wr.heap.size,5,none⟩ = some (.int .i64 o.f3.f2) /\ (Instr.lookup 129 (.map (some w.heap.size)) (.agg #[.int .i64 o.f3.f0, .int .i64 o.f3.f1, .int .i64 o.f3.f2]) false).run Tryz.prog w' = .ok (.pointer none) w')
      8 t_tree_grown.bits6 t_tree_grown.tab6 (hS:=⟨d1,o3,o4,o5,hL⟩) (h:=fun hS' HT HW => ?_)
     refine pu HT 0 20 1 (h := ?_)
     refine pu HT 1 21 3 (h := ?_)
     refine pu HT 2 22 7 (h := ?_)
     refine tk HT HW hS' 3 23 15 (h := ?_)
     refine pu HT 4 24 31 (h := ?_)
     refine tk HT HW hS' 5 25 63 (h := ?_)
     refine tk HT HW hS' 6 26 127 (h := ?_)
     refine pu HT 7 27 255 (h := ?_)
     refine dn HT (h := ?_)
     clear HT HW hS' hL
     go_wp2
     refine stL (S:=fun w' => w'.cell? ⟨w.heap.size + 1,1,none⟩ = some (.map (some w.heap.size)) /\ w'.cell? ⟨wr.heap.size,3,none⟩ = some (.int .i64 o.f3.f0) /\ w'.cell? ⟨wr.heap.size,4,none⟩ = some (.int .i64 o.f3.f1) /\ w'.cell? ⟨wr.heap.size,5,none⟩ = some (.int .i64 o.f3.f2))
      [8] 9 t_tree_grown.bits7 t_tree_grown.tab7 (hS:=⟨d1,o3,o4,o5⟩) (h:=fun hS' HT HW => ?_)
     refine pu HT 0 28 1 (h := ?_)
     refine pu HT 1 29 3 (h := ?_)
     refine pu HT 2 30 7 (h := ?_)
     refine tk HT HW hS' 3 31 15 (h := ?_)
     refine pu HT 4 32 31 (h := ?_)
     refine tk HT HW hS' 5 33 63 (h := ?_)
     refine exS HT 6 (some 34) 127 (.slice (some ⟨w3.drew.drew.heap.size,0,none⟩) 0 0) (w3.drew.drew.alloc (.cells #[] 3)) (hrun := ?_) (hS := ?_) (h:=fun hS' => ?_)
     ·clear HT HW hS'
      go_simp
     ·have hb:=Qag (Below.refl _ w3.drew.drew) (.cells #[] 3)
      exact ⟨Qab hb hS'.1,Qab hb hS'.2.1,Qab hb hS'.2.2.1,Qab hb hS'.2.2.2⟩
     refine nm (h := ?_)
     have hsz : (w3.drew.drew.alloc (.cells #[] 3)).heap.size = w3.drew.drew.heap.size + 1:=by simp
     refine exS HT 7 (some 35) 255 (.pointer (some ⟨w3.drew.drew.heap.size + 1,0,none⟩)) ((w3.drew.drew.alloc (.cells #[] 3)).alloc (.cells #[.slice (some ⟨w3.drew.drew.heap.size,0,none⟩) 0 0] 150)) (hrun := ?_) (hS := ?_) (h:=fun hS' => ?_)
     ·clear HT HW hS'
      go_simp
     ·have hb:=Qag (Below.refl _ (w3.drew.drew.alloc (.cells #[] 3))) (.cells #[.slice (some ⟨w3.drew.drew.heap.size,0,none⟩) 0 0] 150)
      exact ⟨Qab hb hS'.1,Qab hb hS'.2.1,Qab hb hS'.2.2.1,Qab hb hS'.2.2.2⟩
     refine nm (h := ?_)
     have hb5 : Below w3.drew.drew.heap.size w3.drew.drew (w3.drew.drew.alloc (.cells #[] 3)):=Qag (Below.refl _ w3.drew.drew) _
     have hr5 : RowI (w3.drew.drew.alloc (.cells #[] 3)) w.heap.size w3.drew.drew.heap.size 0 []:=World.ownsRow_made w3.drew.drew #[] 0 lw3 (by decide) rfl
     have hF5:=HF3.out.drew.drew.below hb5
     have hb6:=Qag (Below.refl _ (w3.drew.drew.alloc (.cells #[] 3))) (.cells #[.slice (some ⟨w3.drew.drew.heap.size,0,none⟩) 0 0] 150)
     have hc6:=top_cell (w3.drew.drew.alloc (.cells #[] 3)) #[.slice (some ⟨w3.drew.drew.heap.size,0,none⟩) 0 0] 150 _ 0 hsz
     have hf6:=top_frozen (w3.drew.drew.alloc (.cells #[] 3)) #[.slice (some ⟨w3.drew.drew.heap.size,0,none⟩) 0 0] 150 _ 0 hsz
     have hsz6 : ((w3.drew.drew.alloc (.cells #[] 3)).alloc (.cells #[.slice (some ⟨w3.drew.drew.heap.size,0,none⟩) 0 0] 150)).heap.size = w3.drew.drew.heap.size + 1 + 1:=by simp
     have hH6 : Hun ((w3.drew.drew.alloc (.cells #[] 3)).alloc (.cells #[.slice (some ⟨w3.drew.drew.heap.size,0,none⟩) 0 0] 150)) w.heap.size (w3.drew.drew.heap.size + 1) (.slice (some ⟨w3.drew.drew.heap.size,0,none⟩) 0 0) [] :=
      ⟨hc6,hf6,(by simp [Value.ownBlock]),(Fr.of_below hb6 (fun _ => False)).row hr5 (fun _ _ h => h)⟩
     have hb46:=Qas hb5 hb6
     have hd1:=Qab hb46 (show w3.drew.drew.cell? _ = _ from d1)
     have ho3:=Qab hb46 (show w3.drew.drew.cell? _ = _ from o3)
     have ho4:=Qab hb46 (show w3.drew.drew.cell? _ = _ from o4)
     have ho5:=Qab hb46 (show w3.drew.drew.cell? _ = _ from o5)
     generalize (w3.drew.drew.alloc (.cells #[] 3)).alloc (.cells #[.slice (some ⟨w3.drew.drew.heap.size,0,none⟩) 0 0] 150) = w6 at *
     have hF6:=HF3.out.drew.drew.below hb46
     obtain ⟨w7,hrun7,hm7,hg7⟩:=hF6.map.store lawE Tryz.underlying129 (Nat.lt_of_le_of_lt HG.out.n_ (Nat.lt_of_lt_of_le hlt (Nat.le_trans h40 (by decide)))) encE_inj (key3 o.f3) (w3.drew.drew.heap.size + 1) hkl
     simp only [encE,key3] at hrun7
     have hF7:=Forest.new (p:=w3.drew.drew.heap.size + 1) HF3.out.drew.drew hS (Fr.of_below hb46 _) (Nat.le_succ _) (by rw [hsz6]; omega) hH6 (fun k hk => by cases hk; exact ⟨Nat.le_refl _,by rw [hsz6]; exact Nat.lt_succ_of_lt (Nat.lt_succ_self _)⟩) hm7 hg7 lw3
     refine mu HT 8 511 w7 (hrun:=hrun7) (h := ?_)
     refine dn HT (h := ?_)
     have e1:=cell_grown' hg7 (fun e => by have:=Zo e; simp only at this; omega) hd1
     have e3:=cell_grown' hg7 (fun e => by have:=Zo e; simp only at this; omega) ho3
     have e4:=cell_grown' hg7 (fun e => by have:=Zo e; simp only at this; omega) ho4
     have e5:=cell_grown' hg7 (fun e => by have:=Zo e; simp only at this; omega) ho5
     have hup : updP S (o.f3.f0,o.f3.f1,o.f3.f2) (w3.drew.drew.heap.size + 1) (o.f3.f0,o.f3.f1,o.f3.f2) = some (w3.drew.drew.heap.size + 1):=by simp [updP]
     have HF7:=Zz.k hF7
     have HG7:=Zz.k (And.intro hb46 (And.intro hg7 hsz6))
     have lw7 : w.heap.size <= w7.drew.heap.size:=Nat.le_trans lw3 (Nat.le_trans (show w3.heap.size <= w6.heap.size from hb46.size) hg7.size)
     have HP:=Zz.k (Forest.push (w:=w7.drew) hF7.drew hup (by have:=gU_len l i (key3 o.f3); show (gU l i (key3 o.f3)).length < 900000; omega) lw7 (i : Int))
     have hL:=(hF7.drew).map.look lawE Tryz.underlying129 zeroH (key3 o.f3) hkl
     simp only [encE,key3] at hL
     rw [hup] at hL
     simp only [ptrV] at hL
     clear HT HW hS' hF7 hb46 hg7 hsz6 hm7 hF6 hb5 hr5 hF5 hb6 hc6 hf6 hH6 hd1 ho3 ho4 ho5 hrun7 hsz d1 o3 o4 o5 hup
     generalize hpp : w3.drew.drew.heap.size + 1 = pp at *
     go_wp2
     refine stL (S:=fun w' => w'.cell? ⟨w.heap.size + 1,1,none⟩ = some (.map (some w.heap.size)) /\ w'.cell? ⟨wr.heap.size,3,none⟩ = some (.int .i64 o.f3.f0) /\ w'.cell? ⟨wr.heap.size,4,none⟩ = some (.int .i64 o.f3.f1) /\ w'.cell? ⟨wr.heap.size,5,none⟩ = some (.int .i64 o.f3.f2) /\ (Instr.lookup 129 (.map (some w.heap.size)) (.agg #[.int .i64 o.f3.f0, .int .i64 o.f3.f1, .int .i64 o.f3.f2]) false).run Tryz.prog w' = .ok (.pointer (some ⟨pp,0,none⟩)) w')
      [10] 11 t_tree_grown.bits8 t_tree_grown.tab8 (hS:=⟨e1,e3,e4,e5,hL⟩) (h:=fun hS' HT HW => ?_)
     refine pu HT 0 36 1 (h := ?_)
     refine pu HT 1 37 3 (h := ?_)
     refine pu HT 2 38 7 (h := ?_)
     refine tk HT HW hS' 3 39 15 (h := ?_)
     refine pu HT 4 40 31 (h := ?_)
     refine tk HT HW hS' 5 41 63 (h := ?_)
     refine tk HT HW hS' 6 42 127 (h := ?_)
     refine pu HT 7 43 255 (h := ?_)
     refine pu HT 8 44 511 (h := ?_)
     refine pu HT 9 45 1023 (h := ?_)
     refine caL HT 10 (some 46) 2047 #[hungP pp, .iface 3 (.int .i64 (i : Int))] Tryz.func131 (h := ?_)
     refine HP.out.mono ?_
     rintro e w8 ⟨rfl,v',hF8,hf8,hv8⟩
     refine ⟨_,rfl, ?_⟩
     have HF8:=Zz.k hF8
     have Hf8:=Zz.k hf8
     have HV8:=Zz.k hv8
     clear hF8 hf8 hv8 hS' hL e1 e3 e4 e5
     refine nm (h := ?_)
     refine dn HT (h := ?_)
     clear HT HW
     go_wp2
     obtain ⟨g',rfl⟩ : ∃ g',gk = g' + 1:=⟨gk - 1,by omega⟩
     go_roundg g'
     case measure => omega
     case rel =>
      have hlp : wr.heap.size <= pp:=by rw [<- hpp]; exact Nat.le_succ_of_le HGB.out.size
      have f1 : Fr wr w6 (fun k => k = w.heap.size \/ wr.heap.size <= k):=Fr.of_below (Qas (Qae (Qae HGB.out)) HG7.out.1) _
      have f2 : Fr wr w7 (fun k => k = w.heap.size \/ wr.heap.size <= k):=f1.trans (Fr.of_grown HG7.out.2.1) (fun k hk _ => .inl (Zo hk).symm)
      have f3 : Fr wr w7.drew (fun k => k = w.heap.size \/ wr.heap.size <= k):=f2.trans (Fr.of_below (Qae (Below.refl _ w7)) (fun _ => False)) (fun _ h _ => h.elim)
      have hfo : ∀ x k,Foot (updP S (o.f3.f0,o.f3.f1,o.f3.f2) pp) (updV V (o.f3.f0,o.f3.f1,o.f3.f2) (.slice (some ⟨w3.drew.drew.heap.size,0,none⟩) 0 0)) x k -> Foot S V x k \/ wr.heap.size <= k:=fun x k hk => foot_updP hlp (fun k hk => by cases hk; exact HGB.out.size) hk
      refine ⟨i + 1,n + 1,_,_,by go_num,by omega,by omega,⟨HG.out.next (T:=fun k => k = w.heap.size \/ wr.heap.size <= k) (by rw [HGU.out]; exact HF8.out) (f3.trans Hf8.out (fun k hk hlt => ?_)) (fun k hk => ?_) (fun x k hk => ?_) (by have:=HG.out.n_; omega)⟩⟩
      ·rcases hk with rfl | hk
       ·exact .inr hlp
       ·simp only [updV,if_true,Value.ownBlock,Option.some.injEq] at hk
        exact .inr (by rw [<- hk]; exact HGB.out.size)
      ·rcases hk with rfl | hk
       ·exact ⟨Nat.le_refl _,by omega⟩
       ·exact ⟨Nat.le_trans HG.out.below.size hk,by omega⟩
      ·rcases foot_updV HV8.out hk with h | h
       ·exact hfo x k h
       ·exact .inr (Nat.le_trans HGB.out.size (Nat.le_trans (show w3.heap.size <= w6.heap.size from HG7.out.1.size) (Nat.le_trans HG7.out.2.1.size h)))
  ·obtain rfl : i = l.length:=by omega
   have hltz : ¬ (l.length : Int) < (l.length : Int):=by omega
   go_wp2
   go_ret
   exact ⟨w.heap.size + 1,rfl,w.heap.size,n,S,V,HG.out⟩
end
section
def nameIs (site seq : Int) (o : SOp) : Bool:=o.f0 == site && o.f1 == seq
theorem Find1_calls (o : SOp) (A7 : Option Addr) (c7 b1 b2 : Nat) (site seq : Int) (W : World) (h1 : W.cell? ⟨b1,0,none⟩ = some (.int .i64 site)) (h2 : W.cell? ⟨b2,0,none⟩ = some (.int .i64 seq)) :
  Calls Tryz.prog 138 #[opV o A7 c7, .pointer (some ⟨b1,0,none⟩), .pointer (some ⟨b2,0,none⟩)] W fun e w' => e = .returned (.bool (nameIs site seq o)) /\ Below W.heap.size W w':=by
 have l1:=World.block_lt_of_cell? W _ h1
 have l2:=World.block_lt_of_cell? W _ h2
 simp only at l1 l2
 unfold opV
 cases hq : (o.f0 == site)
 ·have e : nameIs site seq o = false:=by simp [nameIs,hq]
  rw [e]
  go_enter Tryz.func138,Tryz.ntmps138
  go_wp2
  go_ret
  exact ⟨rfl,(Below.refl _ _).alloc (Nat.le_refl _) _⟩
 ·have e : nameIs site seq o = (o.f1 == seq):=by simp [nameIs,hq]
  rw [e]
  go_enter Tryz.func138,Tryz.ntmps138
  go_wp2
  go_ret
  exact ⟨rfl,(Below.refl _ _).alloc (Nat.le_refl _) _⟩
def Qbf (l : List SOp) (site seq : Int) : Int:=Qbg (fun i => nameIs site seq (Qad l i)) l.length l.length 0
def tree_Find.f (l0 : List (SOp)) (a1 : Int) (a2 : Int) : Option (Int):=if l0.length <= 9223372036854775807 then some (Qbf l0 a1 a2) else none
theorem tree_Find.calls (A0 : Option Addr) (c0 : Nat) (l0 : List (SOp)) (a1 : Int) (a2 : Int) (r : Int) (w : World) (hr0 : Kd.C kOp w A0 l0.length l0) (hc0 : l0.length <= c0) (h : tree_Find.f l0 a1 a2 = some r) :
  Calls Tryz.prog 125 #[.slice A0 l0.length c0, .int .i64 a1, .int .i64 a2] w fun e w' => e = .returned (.int .i64 r) /\ Below w.heap.size w w':=by
 unfold tree_Find.f at h
 split at h
 ·obtain rfl:=Zo h
  clear h
  have eg:=enters_at Tryz.func138 (by kernel_rfl) rfl
  have hm : l0.length <= 9223372036854775807:=‹_›
  have cI:=fun W => IndexFuncOp 138 #[.pointer (some ⟨w.heap.size,0,none⟩), .pointer (some ⟨w.heap.size + 1,0,none⟩)] A0 c0 l0 (fun i => nameIs a1 a2 (Qad l0 i))
   (fun _ W => Below w.heap.size w W /\ W.cell? ⟨w.heap.size,0,none⟩ = some (.int .i64 a1) /\ W.cell? ⟨w.heap.size + 1,0,none⟩ = some (.int .i64 a2))
   (fun _ W => Below w.heap.size w W) W eg hm
  have HC:=Zz.k cI
  have HR:=Zz.k hr0
  clear cI hr0 eg
  go_enter Tryz.func125,Tryz.ntmps125
  go_wp2_with fail
  refine (HC.out _ ⟨((Below.refl _ w).alloc (Nat.le_refl _) _).alloc (by simp) _,by simp,by simp⟩ (fun i W hI => Kd.C_below HR.out hI.1) ?_).mono ?_
  ·intro i W A7 c7 hi hI hl hC
   refine (Find1_calls (Qad l0 i) A7 c7 _ _ a1 a2 W hI.2.1 hI.2.2).mono ?_
   rintro e w' ⟨rfl,hb⟩
   have b:=hI.1.trans (hb.mono hI.1.size)
   exact ⟨rfl,fun _ => b,fun _ => ⟨b,(hb.cell (World.block_lt_of_cell? W _ hI.2.1)).trans hI.2.1,(hb.cell (World.block_lt_of_cell? W _ hI.2.2)).trans hI.2.2⟩⟩
  ·rintro e w' ⟨rfl,hp⟩
   have hb : Below w.heap.size w w':=by
    rcases hp with ⟨_,_,_,_,h⟩ | ⟨_,h,_⟩ <;> exact h
   clear hp
   go_wp2
   go_ret
   exact ⟨rfl,hb⟩
 ·cases h
end
section
def flatE (xs : List SElem) : List Value:=xs.flatMap (fun x => [.int .i64 x.f0, .int .i64 x.f1, .int .i64 x.f2])
abbrev RowE (w : World) (base : Nat) (v : Value) (xs : List SElem) : Prop:=w.ownsRow base 32 3 v xs.length (flatE xs)
theorem flatE_snoc (xs : List SElem) (x : SElem) : flatE (xs ++ [x]) = flatE xs ++ [.int .i64 x.f0, .int .i64 x.f1, .int .i64 x.f2]:=by simp [flatE]
theorem RowE.snoc {w : World} {base : Nat} {v : Value} {xs : List SElem} {x : SElem} (h : w.ownsRow base 32 3 v (xs.length + 1) (flatE xs ++ [.int .i64 x.f0, .int .i64 x.f1, .int .i64 x.f2])) : RowE w base v (xs ++ [x]):=by
 unfold RowE
 rw [flatE_snoc,List.length_append]
 exact h
theorem RowE.nil (w : World) (base : Nat) : RowE w base (.slice none 0 0) []:=World.ownsRow_nil w base _ _
theorem pop_max {arr : List Int} {m : Int} {us : List Int} (hh : Qdl arr arr.length) (hp : arr.Perm (m :: us)) (hs : (m :: us).Pairwise (fun a b => b <= a)) : at0 arr 0 = m:=by
 have hl : arr.length = us.length + 1:=hp.length_eq
 have hm0 : at0 arr 0 ∈ arr:=by
  unfold at0; rw [List.getD_eq_getElem?_getD,List.getElem?_eq_getElem (by omega)]; exact List.getElem_mem _
 have h1 : at0 arr 0 <= m:=by
  rcases List.mem_cons.1 (hp.mem_iff.1 hm0) with h | h
  ·omega
  ·exact (List.pairwise_cons.1 hs).1 _ h
 have hm : m ∈ arr:=hp.mem_iff.2 (List.mem_cons_self)
 obtain ⟨i,hi,rfl⟩:=List.getElem_of_mem hm
 have h2:=hh.root i hi
 have e : at0 arr i = arr[i]:=by unfold at0; rw [List.getD_eq_getElem?_getD,List.getElem?_eq_getElem hi]; rfl
 omega
theorem Forest.pop {w : World} {base bU n : Nat} {S : K3 -> Option Nat} {V : K3 -> Value} {U : K3 -> List Int} {x : K3} {p : Nat} {m : Int} {us : List Int} (h : Forest w base bU n S V U) (hS : S x = some p) (hU : U x = m :: us) (hs : (m :: us).Pairwise (fun a b => b <= a)) (hlen : us.length < 800000) (hb : base <= w.heap.size) :
  (∃ A c,V x = .slice A (us.length + 1) c) /\ w.cell? ⟨p,0,none⟩ = some (V x) /\
  Calls Tryz.prog 144 #[hungP p] w fun e w' => e = .returned (.iface 3 (.int .i64 m)) /\ ∃ v',Forest w' base bU n S (updV V x v') (updU U x us) /\ Fr w w' (fun k => k = p \/ (V x).ownBlock = some k) /\ v'.ownBlock = (V x).ownBlock:=by
 obtain ⟨arr,h1,h2,h3⟩:=h.some_ x p hS
 rw [hU] at h3
 have hl : arr.length = us.length + 1:=h3.length_eq
 have hm:=pop_max h2 h3 hs
 rcases h1.len with ⟨_,hz⟩ | ⟨g,c,hv⟩
 ·rw [hz] at hl; simp at hl
 ·refine ⟨⟨_,c,by rw [hv,hl]⟩,h1.1, ?_⟩
  rw [hv] at h1
  refine (heap_Pop base p g c us.length arr w h1 h2 hl (by omega)).mono ?_
  rintro e w' ⟨rfl,arr',hH,hh,hp,hf⟩
  rw [hm] at hp ⊢
  have hp' : arr'.Perm us:=((List.perm_cons m).1 (hp.symm.trans h3))
  have hf' : Fr w w' (fun k => k = p \/ (V x).ownBlock = some k):=by
   rw [hv]
   exact hf.mono (fun k hk _ => by rcases hk with rfl | rfl <;> simp [Value.ownBlock])
  refine ⟨rfl,_,h.at hS hf' hH hh hp' (.inl (by rw [hv]; rfl)) hb,hf',by rw [hv]; rfl⟩
theorem Forest.empty {w : World} {base bU n : Nat} {S : K3 -> Option Nat} {V : K3 -> Value} {U : K3 -> List Int} {x : K3} {p : Nat} (h : Forest w base bU n S V U) (hS : S x = some p) (hU : U x = []) : (∃ A c,V x = .slice A 0 c) /\ w.cell? ⟨p,0,none⟩ = some (V x):=by
 obtain ⟨arr,h1,h2,h3⟩:=h.some_ x p hS
 rw [hU] at h3
 have hl : arr = []:=List.perm_nil.1 h3
 refine ⟨?_,h1.1⟩
 rcases h1.len with ⟨hv,hz⟩ | ⟨g,c,hv⟩
 ·exact ⟨_,_,hv⟩
 ·exact ⟨_,c,by rw [hv,hl]; rfl⟩
end
end Go.Proofs.YtlllghajjamdpaaGreatDoor.L
end
