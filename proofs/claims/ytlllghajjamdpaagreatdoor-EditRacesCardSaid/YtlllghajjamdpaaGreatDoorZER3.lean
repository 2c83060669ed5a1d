/- Part 3 of the proof that for every argument the law EditRaces answers true: edits that two sites make of the same row, ordered one behind the other either way, leave what each wrote whole, side by side, and take away what each took -/
import Derived.Test.YtlllghajjamdpaaGreatDoorZER2
import Derived.Test.YtlllghajjamdpaaGreatDoorProg
import Derived.Laws.Runes
import Derived.Below
import Derived.Deep.Draws
import Derived.Deep.AppendLies
import Derived.Maps.AppendAt
import Derived.OwnWalk
import Derived.Laws.BytesArg
import Derived.Laws.MakeOwn
import Derived.Laws.OwnMore
import Derived.Deep.OwnRows
import Derived.Tactics
import Derived.Lib.ConvBytes
import Derived.Laws.Slices
import Derived.WalkKit
import Derived.KernelRfl
import Derived.RowKit3
import Derived.Deep.LoopGhost
import Derived.Deep.QuietTactic
import Derived.BigQuiet
import Derived.WideLaws
import Derived.Deep.DeepCutAuto
import Derived.Deep.CutBlock
import Derived.Deep.RegionHeld3
import Derived.Laws.Rows
import Derived.Lib.AppendStr
import Derived.ArgAppend
import Derived.Laws.IdiomCopy
import Derived.OrdersHeld
import Derived.Laws.BitsLemmas
import Derived.RowKit
import Derived.ProofKit
import Derived.DataReads
import Derived.Shelf.Unicode.DecodeSlow
import Derived.Laws.RangeString
import Derived.Laws.RangeAny
import Derived.Lib.OthersKept
import Derived.Lib.RuneCount
import Derived.Lib.TrimU
import Derived.LoopTactic
section
namespace Go.Proofs.YtlllghajjamdpaaGreatDoor
theorem Zo {α : Type _} {a b : α} (h : some a = some b) : a = b := Option.some.inj h
theorem Zd {p : Prop} [inst : Decidable p] (h : p) : decide p = true := decide_eq_true h
theorem Ze {p : Prop} [inst : Decidable p] (h : ¬ p) : decide p = false := decide_eq_false h
theorem Zf {b : Bool} (h : b ≠ true) : b = false := Bool.eq_false_iff.mpr h
end Go.Proofs.YtlllghajjamdpaaGreatDoor
end
section
namespace Go.Proofs.YtlllghajjamdpaaGreatDoor.L
open Go.RowKit Go.Proofs.YtlllghajjamdpaaGreatDoorW.PrintWords Go.Proofs.YtlllghajjamdpaaGreatDoorW.PrintLast Go.Proofs.YtlllghajjamdpaaGreatDoorW.PrintMore
set_option linter.unusedVariables false
set_option linter.unusedSimpArgs false
set_option maxHeartbeats 40000000
set_option maxRecDepth 1000000
section
attribute [local go_sem] Qbm Qbk Qbu Qbt Qbc Qbb Qbl Qbj
def errW : Option Int -> Value
 | none => .nilIface
 | some c => .iface 0 (.int .i64 c)
theorem errW_none : errW none = .nilIface:=rfl
theorem errW_some (c : Int) : errW (some c) = .iface 0 (.int .i64 c):=rfl
theorem info3 : (Tryz.prog.info? 3).map (fun i => (i.zero,i.size,i.bytes)) = some (some (.int .i64 0),1,8):=by kernel_rfl
theorem info4 : (Tryz.prog.info? 4).map (fun i => (i.zero,i.size,i.bytes)) = some (some (.bool false),1,1):=by kernel_rfl
theorem info21 : (Tryz.prog.info? 21).map (fun i => (i.zero,i.size,i.bytes)) = some (some (.int .i32 0),1,4):=by kernel_rfl
theorem info32 : (Tryz.prog.info? 32).map (fun i => (i.zero,i.size,i.bytes)) = some (some (.agg #[(.int .i64 0),(.int .i64 0),(.int .i64 0)]),3,24):=by kernel_rfl
theorem info34 : (Tryz.prog.info? 34).map (fun i => (i.zero,i.size,i.bytes)) = some (some (.agg #[(.int .i64 0),(.int .i64 0),(.int .i64 0),(.int .i64 0),(.int .i64 0),(.int .i64 0),(.string ⟨#[]⟩),(.slice none 0 0),(.int .i64 0),(.int .i64 0),(.int .i64 0)]),11,112):=by kernel_rfl
structure SElem where
 f0 : Int
 f1 : Int
 f2 : Int
def zElem : SElem:=⟨(0 : Int),(0 : Int),(0 : Int)⟩
def Qap : Kd SElem:=Kd.iso (Kd.pair (Kd.int .i64) (Kd.pair (Kd.int .i64) (Kd.int .i64))) (fun x : SElem => (x.f0,x.f1,x.f2))
theorem kElem_open {w : World} {x : SElem} {cs : List Value} (h : Qap.K w x cs) : cs = [.int .i64 x.f0, .int .i64 x.f1, .int .i64 x.f2] := by
 obtain ⟨_,_,rfl,rfl,⟨_,_,rfl,rfl,rfl⟩⟩:=h
 exact rfl
theorem kElem_openM {w : World} {base : Nat} {ok : Nat -> Prop} {x : SElem} {cs : List Value} (h : Qap.M w base ok x cs) : cs = [.int .i64 x.f0, .int .i64 x.f1, .int .i64 x.f2]:=by
 obtain ⟨_,_,rfl,rfl,⟨_,_,rfl,rfl,rfl⟩⟩:=h
 exact rfl
theorem kElem_mk (w : World) (x : SElem)  : Qap.K w x [.int .i64 x.f0, .int .i64 x.f1, .int .i64 x.f2]:=⟨[.int .i64 x.f0],[.int .i64 x.f1, .int .i64 x.f2],rfl,rfl,⟨[.int .i64 x.f1],[.int .i64 x.f2],rfl,rfl,rfl⟩⟩
theorem Qcd (w : World) (base : Nat) (ok : Nat -> Prop) (x : SElem)  : Qap.M w base ok x [.int .i64 x.f0, .int .i64 x.f1, .int .i64 x.f2]:=⟨[.int .i64 x.f0],[.int .i64 x.f1, .int .i64 x.f2],rfl,rfl,⟨[.int .i64 x.f1],[.int .i64 x.f2],rfl,rfl,rfl⟩⟩
def Qaa (xs : List SElem) (i : Int) : SElem:=xs.getD i.toNat zElem
theorem Qbd {w : World} {A : Option Addr} {n : Nat} {xs : List SElem} (h : Kd.C Qap w A n xs) (i : Int) (h0 : 0 <= i) (h1 : i < n) : ∃ ad ,A = some ad /\ w.cell? (ad.add (i.toNat * 3)) = some (.int .i64 (Qaa xs i).f0) /\ w.cell? ⟨(ad.add (i.toNat * 3)).block,(ad.add (i.toNat * 3)).off + 1,none⟩ = some (.int .i64 (Qaa xs i).f1) /\ w.cell? ⟨(ad.add (i.toNat * 3)).block,(ad.add (i.toNat * 3)).off + 2,none⟩ = some (.int .i64 (Qaa xs i).f2):=by
 obtain ⟨ad,c,e,_,hK,hc0⟩:=Kd.C_get h zElem i h0 h1
 have hc : ∀ j u,c[j]? = some u -> w.cell? (ad.add (i.toNat * 3 + j)) = some u:=hc0
 obtain rfl := kElem_open hK
 exact ⟨ad,e,hc 0 _ rfl,by rw [<- Qcq _ _ 1 (by omega)]; exact hc 1 _ rfl,by rw [<- Qcq _ _ 2 (by omega)]; exact hc 2 _ rfl⟩
def Qam (xs : List (List SElem)) (i : Int) : (List SElem):=xs.getD i.toNat ([] : List SElem)
theorem at_LElem {w : World} {A : Option Addr} {n : Nat} {xs : List (List SElem)} (h : Kd.C (Kd.slice 32 Qap) w A n xs) (i : Int) (h0 : 0 <= i) (h1 : i < n) : ∃ ad A0 c0,A = some ad /\ w.cell? (ad.add i.toNat) = some (.slice A0 (Qam xs i).length c0) /\ (Qam xs i).length <= c0 /\ Qap.C w A0 (Qam xs i).length (Qam xs i):=by
 obtain ⟨ad,c,e,_,hK,hc0⟩:=Kd.C_get h ([] : List SElem) i h0 h1
 have hc : ∀ j u,c[j]? = some u -> w.cell? (ad.add (i.toNat * 1 + j)) = some u:=hc0
 obtain ⟨A0,c0,rfl,l0,g0⟩:=hK
 exact ⟨ad,A0,c0,e,by have hq:=hc 0 _ rfl; rwa [Nat.mul_one,Nat.add_zero] at hq,l0,g0⟩
structure SOp where
 f0 : Int
 f1 : Int
 f2 : Int
 f3 : SElem
 f4 : ByteArray
 f5 : (List SElem)
 f6 : Int
 f7 : Int
 f8 : Int
def zOp : SOp:=⟨(0 : Int),(0 : Int),(0 : Int),zElem,(⟨#[]⟩ : ByteArray),([] : List SElem),(0 : Int),(0 : Int),(0 : Int)⟩
def kOp : Kd SOp:=Kd.iso (Kd.pair (Kd.int .i64) (Kd.pair (Kd.int .i64) (Kd.pair (Kd.int .i64) (Kd.pair Qap (Kd.pair Kd.string (Kd.pair (Kd.slice 32 Qap) (Kd.pair (Kd.int .i64) (Kd.pair (Kd.int .i64) (Kd.int .i64))))))))) (fun x : SOp => (x.f0,x.f1,x.f2,x.f3,x.f4,x.f5,x.f6,x.f7,x.f8))
theorem kOp_open {w : World} {x : SOp} {cs : List Value} (h : kOp.K w x cs) : ∃ A7 c7, cs = [.int .i64 x.f0, .int .i64 x.f1, .int .i64 x.f2, .int .i64 x.f3.f0, .int .i64 x.f3.f1, .int .i64 x.f3.f2, .string x.f4, .slice A7 x.f5.length c7, .int .i64 x.f6, .int .i64 x.f7, .int .i64 x.f8] /\ x.f5.length <= c7 /\ Qap.C w A7 x.f5.length x.f5 := by
 obtain ⟨_,_,rfl,rfl,⟨_,_,rfl,rfl,⟨_,_,rfl,rfl,⟨_,_,rfl,s3,⟨_,_,rfl,rfl,⟨_,_,rfl,⟨A7,c7,rfl,l7,g7⟩,⟨_,_,rfl,rfl,⟨_,_,rfl,rfl,rfl⟩⟩⟩⟩⟩⟩⟩⟩:=h
 obtain rfl := kElem_open s3
 exact ⟨A7,c7,rfl,l7,g7⟩
theorem kOp_mk (w : World) (x : SOp) {A7 : Option Addr} {c7 : Nat} (l7 : x.f5.length <= c7) (g7 : Qap.C w A7 x.f5.length x.f5) : kOp.K w x [.int .i64 x.f0, .int .i64 x.f1, .int .i64 x.f2, .int .i64 x.f3.f0, .int .i64 x.f3.f1, .int .i64 x.f3.f2, .string x.f4, .slice A7 x.f5.length c7, .int .i64 x.f6, .int .i64 x.f7, .int .i64 x.f8]:=⟨[.int .i64 x.f0],[.int .i64 x.f1, .int .i64 x.f2, .int .i64 x.f3.f0, .int .i64 x.f3.f1, .int .i64 x.f3.f2, .string x.f4, .slice A7 x.f5.length c7, .int .i64 x.f6, .int .i64 x.f7, .int .i64 x.f8],rfl,rfl,⟨[.int .i64 x.f1],[.int .i64 x.f2, .int .i64 x.f3.f0, .int .i64 x.f3.f1, .int .i64 x.f3.f2, .string x.f4, .slice A7 x.f5.length c7, .int .i64 x.f6, .int .i64 x.f7, .int .i64 x.f8],rfl,rfl,⟨[.int .i64 x.f2],[.int .i64 x.f3.f0, .int .i64 x.f3.f1, .int .i64 x.f3.f2, .string x.f4, .slice A7 x.f5.length c7, .int .i64 x.f6, .int .i64 x.f7, .int .i64 x.f8],rfl,rfl,⟨[.int .i64 x.f3.f0, .int .i64 x.f3.f1, .int .i64 x.f3.f2],[.string x.f4, .slice A7 x.f5.length c7, .int .i64 x.f6, .int .i64 x.f7, .int .i64 x.f8],rfl,(kElem_mk w x.f3 ),⟨[.string x.f4],[.slice A7 x.f5.length c7, .int .i64 x.f6, .int .i64 x.f7, .int .i64 x.f8],rfl,rfl,⟨[.slice A7 x.f5.length c7],[.int .i64 x.f6, .int .i64 x.f7, .int .i64 x.f8],rfl,⟨A7,c7,rfl,l7,g7⟩,⟨[.int .i64 x.f6],[.int .i64 x.f7, .int .i64 x.f8],rfl,rfl,⟨[.int .i64 x.f7],[.int .i64 x.f8],rfl,rfl,rfl⟩⟩⟩⟩⟩⟩⟩⟩
theorem kOp_mkM (w : World) (base : Nat) (ok : Nat -> Prop) (x : SOp) {v7 : Value} (g7 : Qap.R 32 w base ok v7 x.f5) : kOp.M w base ok x [.int .i64 x.f0, .int .i64 x.f1, .int .i64 x.f2, .int .i64 x.f3.f0, .int .i64 x.f3.f1, .int .i64 x.f3.f2, .string x.f4,v7, .int .i64 x.f6, .int .i64 x.f7, .int .i64 x.f8]:=⟨[.int .i64 x.f0],[.int .i64 x.f1, .int .i64 x.f2, .int .i64 x.f3.f0, .int .i64 x.f3.f1, .int .i64 x.f3.f2, .string x.f4,v7, .int .i64 x.f6, .int .i64 x.f7, .int .i64 x.f8],rfl,rfl,⟨[.int .i64 x.f1],[.int .i64 x.f2, .int .i64 x.f3.f0, .int .i64 x.f3.f1, .int .i64 x.f3.f2, .string x.f4,v7, .int .i64 x.f6, .int .i64 x.f7, .int .i64 x.f8],rfl,rfl,⟨[.int .i64 x.f2],[.int .i64 x.f3.f0, .int .i64 x.f3.f1, .int .i64 x.f3.f2, .string x.f4,v7, .int .i64 x.f6, .int .i64 x.f7, .int .i64 x.f8],rfl,rfl,⟨[.int .i64 x.f3.f0, .int .i64 x.f3.f1, .int .i64 x.f3.f2],[.string x.f4,v7, .int .i64 x.f6, .int .i64 x.f7, .int .i64 x.f8],rfl,(Qcd w base ok x.f3 ),⟨[.string x.f4],[v7, .int .i64 x.f6, .int .i64 x.f7, .int .i64 x.f8],rfl,rfl,⟨[v7],[.int .i64 x.f6, .int .i64 x.f7, .int .i64 x.f8],rfl,⟨v7,rfl,g7⟩,⟨[.int .i64 x.f6],[.int .i64 x.f7, .int .i64 x.f8],rfl,rfl,⟨[.int .i64 x.f7],[.int .i64 x.f8],rfl,rfl,rfl⟩⟩⟩⟩⟩⟩⟩⟩
def Qad (xs : List SOp) (i : Int) : SOp:=xs.getD i.toNat zOp
theorem Qcg {w : World} {A : Option Addr} {n : Nat} {xs : List SOp} (h : Kd.C kOp w A n xs) (i : Int) (h0 : 0 <= i) (h1 : i < n) : ∃ ad A7 c7,A = some ad /\ w.cell? (ad.add (i.toNat * 11)) = some (.int .i64 (Qad xs i).f0) /\ w.cell? ⟨(ad.add (i.toNat * 11)).block,(ad.add (i.toNat * 11)).off + 1,none⟩ = some (.int .i64 (Qad xs i).f1) /\ w.cell? ⟨(ad.add (i.toNat * 11)).block,(ad.add (i.toNat * 11)).off + 2,none⟩ = some (.int .i64 (Qad xs i).f2) /\ w.cell? ⟨(ad.add (i.toNat * 11)).block,(ad.add (i.toNat * 11)).off + 3,none⟩ = some (.int .i64 (Qad xs i).f3.f0) /\ w.cell? ⟨(ad.add (i.toNat * 11)).block,(ad.add (i.toNat * 11)).off + 4,none⟩ = some (.int .i64 (Qad xs i).f3.f1) /\ w.cell? ⟨(ad.add (i.toNat * 11)).block,(ad.add (i.toNat * 11)).off + 5,none⟩ = some (.int .i64 (Qad xs i).f3.f2) /\ w.cell? ⟨(ad.add (i.toNat * 11)).block,(ad.add (i.toNat * 11)).off + 6,none⟩ = some (.string (Qad xs i).f4) /\ w.cell? ⟨(ad.add (i.toNat * 11)).block,(ad.add (i.toNat * 11)).off + 7,none⟩ = some (.slice A7 (Qad xs i).f5.length c7) /\ w.cell? ⟨(ad.add (i.toNat * 11)).block,(ad.add (i.toNat * 11)).off + 8,none⟩ = some (.int .i64 (Qad xs i).f6) /\ w.cell? ⟨(ad.add (i.toNat * 11)).block,(ad.add (i.toNat * 11)).off + 9,none⟩ = some (.int .i64 (Qad xs i).f7) /\ w.cell? ⟨(ad.add (i.toNat * 11)).block,(ad.add (i.toNat * 11)).off + 10,none⟩ = some (.int .i64 (Qad xs i).f8) /\ (Qad xs i).f5.length <= c7 /\ Qap.C w A7 (Qad xs i).f5.length (Qad xs i).f5:=by
 obtain ⟨ad,c,e,_,hK,hc0⟩:=Kd.C_get h zOp i h0 h1
 have hc : ∀ j u,c[j]? = some u -> w.cell? (ad.add (i.toNat * 11 + j)) = some u:=hc0
 obtain ⟨A7, c7, rfl, l7, g7⟩ := kOp_open hK
 exact ⟨ad,A7,c7,e,hc 0 _ rfl,by rw [<- Qcq _ _ 1 (by omega)]; exact hc 1 _ rfl,by rw [<- Qcq _ _ 2 (by omega)]; exact hc 2 _ rfl,by rw [<- Qcq _ _ 3 (by omega)]; exact hc 3 _ rfl,by rw [<- Qcq _ _ 4 (by omega)]; exact hc 4 _ rfl,by rw [<- Qcq _ _ 5 (by omega)]; exact hc 5 _ rfl,by rw [<- Qcq _ _ 6 (by omega)]; exact hc 6 _ rfl,by rw [<- Qcq _ _ 7 (by omega)]; exact hc 7 _ rfl,by rw [<- Qcq _ _ 8 (by omega)]; exact hc 8 _ rfl,by rw [<- Qcq _ _ 9 (by omega)]; exact hc 9 _ rfl,by rw [<- Qcq _ _ 10 (by omega)]; exact hc 10 _ rfl,l7,g7⟩
def Qbx (xs : List (List SOp)) (i : Int) : (List SOp):=xs.getD i.toNat ([] : List SOp)
theorem at_LOp {w : World} {A : Option Addr} {n : Nat} {xs : List (List SOp)} (h : Kd.C (Kd.slice 34 kOp) w A n xs) (i : Int) (h0 : 0 <= i) (h1 : i < n) : ∃ ad A0 c0,A = some ad /\ w.cell? (ad.add i.toNat) = some (.slice A0 (Qbx xs i).length c0) /\ (Qbx xs i).length <= c0 /\ kOp.C w A0 (Qbx xs i).length (Qbx xs i):=by
 obtain ⟨ad,c,e,_,hK,hc0⟩:=Kd.C_get h ([] : List SOp) i h0 h1
 have hc : ∀ j u,c[j]? = some u -> w.cell? (ad.add (i.toNat * 1 + j)) = some u:=hc0
 obtain ⟨A0,c0,rfl,l0,g0⟩:=hK
 exact ⟨ad,A0,c0,e,by have hq:=hc 0 _ rfl; rwa [Nat.mul_one,Nat.add_zero] at hq,l0,g0⟩
end
section
section
variable {H : Type} {enc : TypeId × Value -> H} {P : Program} {W : World} {base : Nat} {sp : Nat -> Bool} {held : Bool}
def lightW (P : Program) (t : TypeId) (x : DataW H) : Prop:=∀ n ∈ x.weights P t,n <= reachBytes
def Qdk (H : Type) (P : Program) {α : Type} (d : Kd α) (t : TypeId) (good : α -> Prop) : Prop :=
 ∀ (enc : TypeId × Value -> H) (W : World) (base : Nat) (sp : Nat -> Bool) (held : Bool) (fuel : Nat) (cs : List Value) (x : DataW H × List MemPlace),DataW.trod enc P W base sp held fuel t cs = some x -> lightW P t x.1 -> ∃ p,d.K W p cs /\ good p
def Qdg (H : Type) (P : Program) {α : Type} (d : Kd α) (off : Nat) (fs : List Field) (good : α -> Prop) : Prop :=
 ∀ (enc : TypeId × Value -> H) (W : World) (base : Nat) (sp : Nat -> Bool) (held : Bool) (fuel : Nat) (cs : List Value) (xs : List (DataW H × List MemPlace)),fs.mapM (fun f => DataW.trod enc P W base sp held fuel f.type ((cs.drop f.offset).take (P.cellsOf f.type))) = some xs ->
  (∀ n ∈ DataW.weightsEach P (fs.map (·.type)) (xs.map (·.1)),n <= reachBytes) -> (cs.drop off).length = d.sz -> ∃ p,d.K W p (cs.drop off) /\ good p
theorem Qdk.int {t : TypeId} {k : IntKind} (hu : P.underlying t = some (.int k)) : Qdk H P (Kd.int k) t (fun a => (Lit.int k a).wf = true):=by
 intro enc W base sp held fuel cs x h _
 cases fuel with
 | zero => simp [DataW.trod] at h
 | succ n =>
  unfold DataW.trod at h
  rw [hu] at h
  split at h <;> try (first | contradiction | (simp_all; done))
  rename_i hq
  injection hq with hq
  injection hq with hq
  subst hq
  split at h
  ·rename_i hc
   obtain ⟨rfl,hw⟩:=hc
   exact ⟨_,rfl,hw⟩
  ·cases h
theorem Qdk.string {t : TypeId} (hu : P.underlying t = some .string) : Qdk H P Kd.string t (fun s => s.size <= reachBytes):=by
 intro enc W base sp held fuel cs x h hl
 cases fuel with
 | zero => simp [DataW.trod] at h
 | succ n =>
  unfold DataW.trod at h
  rw [hu] at h
  split at h <;> try (first | contradiction | (simp_all; done))
  split at h
  ·cases h
   rename_i s _ _
   refine ⟨s,rfl, ?_⟩
   have:=hl (s.data.toList.length) (by simp [DataW.weights])
   rwa [data_length] at this
  ·cases h
theorem weightsAll_mem {e : TypeId} : ∀ (l : List (DataW H)) (y : DataW H),y ∈ l -> ∀ n ∈ y.weights P e,n ∈ DataW.weightsAll P e l
 | z :: l,y,hy,n,hn => by
  unfold DataW.weightsAll
  rcases List.mem_cons.1 hy with rfl | hy
  ·exact List.mem_append_left _ hn
  ·exact List.mem_append_right _ (weightsAll_mem l y hy n hn)
theorem choose_row {α : Type} {d : Kd α} {a : Addr} (good : α -> Prop) : ∀ (len : Nat),(∀ i,i < len -> ∃ cs,cs.length = d.sz /\ (∀ j u,cs[j]? = some u -> W.cell? (a.add (i * d.sz + j)) = some u) /\ ∃ p,d.K W p cs /\ good p) ->
  ∃ ps : List α,ps.length = len /\ (∀ i p,ps[i]? = some p -> ∃ cs,cs.length = d.sz /\ d.K W p cs /\ ∀ j u,cs[j]? = some u -> W.cell? (a.add (i * d.sz + j)) = some u) /\ ∀ p ∈ ps,good p
 | 0,_ => ⟨[],rfl,by simp,by simp⟩
 | m + 1,hel => by
  obtain ⟨ps,h1,h2,h3⟩:=choose_row good m (fun i hi => hel i (by omega))
  obtain ⟨cs,c1,c2,p,hp,hg⟩:=hel m (by omega)
  refine ⟨ps ++ [p],by simp [h1],fun i q hq => ?_,fun q hq => ?_⟩
  ·rcases Nat.lt_or_ge i ps.length with hi | hi
   ·rw [List.getElem?_append_left hi] at hq; exact h2 i q hq
   ·rw [List.getElem?_append_right hi] at hq
    rcases Nat.eq_zero_or_pos (i - ps.length) with e0 | h
    ·rw [e0] at hq
     simp at hq
     subst hq
     obtain rfl : i = m:=by omega
     exact ⟨cs,c1,hp,c2⟩
    ·rw [List.getElem?_eq_none (by simp; omega)] at hq; cases hq
  ·rcases List.mem_append.1 hq with hq | hq
   ·exact h3 q hq
   ·simp at hq; subst hq; exact hg
theorem Qdk.slice {α : Type} {d : Kd α} {t e : TypeId} {good : α -> Prop} (hu : P.underlying t = some (.slice e)) (hs : P.cellsOf e = d.sz) (hd : Qdk H P d e good) : Qdk H P (Kd.slice e d) t (fun l => l.length * P.bytesOf e <= reachBytes /\ ∀ x ∈ l,good x):=by
 intro enc W base sp held fuel cs x h hl
 cases fuel with
 | zero => simp [DataW.trod] at h
 | succ n =>
  unfold DataW.trod at h
  rw [hu] at h
  split at h <;> try (first | contradiction | (simp_all; done))
  ·exact ⟨[],⟨none,0,rfl,Nat.le_refl _,Kd.C_nil d W⟩,by simp,by simp⟩
  ·rename_i a len cap hq
   injection hq with hq
   injection hq with hq
   subst hq
   split at h
   ·rename_i hc
    obtain ⟨elems,he,h⟩:=Option.bind_eq_some_iff.1 h
    obtain ⟨rest,hr,rfl⟩:=Option.map_eq_some_iff.1 h
    have hlen : elems.length = len:=by simpa using mapM_some_length he
    have hw : lightW P t (DataW.slice (elems.map (·.1)) (rest.map (·.1))):=hl
    unfold lightW at hw
    rw [DataW.weights,hu] at hw
    have hw0:=hw _ (List.mem_cons_self)
    have hel : ∀ i,i < len -> ∃ cs,cs.length = d.sz /\ (∀ j u,cs[j]? = some u -> W.cell? (a.add (i * d.sz + j)) = some u) /\ ∃ p,d.K W p cs /\ good p:=by
     intro i hi
     have hi':=mapM_some_get he i i (by simp [hi])
     obtain ⟨cs,h1,h2⟩:=Option.bind_eq_some_iff.1 (hi'.trans (List.getElem?_eq_getElem (by omega : i < elems.length)))
     obtain ⟨_,h3,h4⟩:=World.cells?_some h1
     obtain ⟨p,hp,hg⟩:=hd enc W base sp held n cs elems[i] h2 (fun n hn => hw n (List.mem_cons_of_mem _ (List.mem_append_left _ (weightsAll_mem _ elems[i].1 (List.mem_map_of_mem (List.getElem_mem _)) n hn))))
     refine ⟨cs,h3.trans hs,fun j u hj => ?_,p,hp,hg⟩
     have hjl : j < P.cellsOf e:=by rw [<- h3]; exact (List.getElem?_eq_some_iff.1 hj).1
     have:=h4 j hjl
     rw [Addr.add_add,hs] at this
     exact this.trans hj
    have hch:=choose_row (W:=W) (a:=a) good len hel
    obtain ⟨ps,hp1,hp2,hp3⟩:=hch
    have hmax : len <= 9223372036854775807:=Nat.le_trans hc.2.1 (Nat.le_trans hc.2.2 (by decide))
    refine ⟨ps,⟨some a,cap,by rw [hp1],by rw [hp1]; exact hc.2.1,rfl,by rw [hp1]; exact hmax,fun _ => ⟨a,rfl,fun j p hj => ?_⟩⟩, ?_,hp3⟩
    ·exact hp2 j p hj
    ·rw [hp1,<- hlen]
     refine Nat.le_trans ?_ hw0
     simp only [List.length_map]
     exact Nat.mul_le_mul_right _ (Nat.le_add_right _ _)
   ·cases h
theorem Qdk.iso {α β : Type} {d : Kd α} {t : TypeId} {good : α -> Prop} (hd : Qdk H P d t good) (f : β -> α) (g : α -> β) (hfg : ∀ a,f (g a) = a) : Qdk H P (Kd.iso d f) t (fun x => good (f x)):=by
 intro enc W base sp held fuel cs x h hl
 obtain ⟨p,hp,hg⟩:=hd enc W base sp held fuel cs x h hl
 exact ⟨g p,by show d.K W (f (g p)) cs; rw [hfg]; exact hp,by show good (f (g p)); rw [hfg]; exact hg⟩
theorem Qdg.cons {α β : Type} {d : Kd α} {d2 : Kd β} {off : Nat} {f : Field} {fs : List Field} {good : α -> Prop} {good2 : β -> Prop} {t : TypeId} (hd : Qdk H P d t good) (hs : P.cellsOf t = d.sz) (ht : f.type = t) (ho : f.offset = off) (h2 : Qdg H P d2 (off + d.sz) fs good2) :
  Qdg H P (Kd.pair d d2) off (f :: fs) (fun p => good p.1 /\ good2 p.2):=by
 subst ht
 intro enc W base sp held fuel cs xs h hw hl
 rw [List.mapM_cons] at h
 obtain ⟨x,h0,h⟩:=Option.bind_eq_some_iff.1 h
 obtain ⟨xs',h1,h⟩:=Option.bind_eq_some_iff.1 h
 cases h
 simp only [List.map_cons,DataW.weightsEach] at hw
 rw [ho,hs] at h0
 obtain ⟨p,hp,hg⟩:=hd enc W base sp held fuel _ x h0 (fun n hn => hw n (List.mem_append_left _ hn))
 have hl2 : (cs.drop (off + d.sz)).length = d2.sz:=by
  have h3 : (cs.drop off).length = d.sz + d2.sz:=hl
  rw [List.length_drop] at h3 ⊢
  have h4:=d.K_len hp
  rw [List.length_take,List.length_drop] at h4
  omega
 obtain ⟨q,hq,hg2⟩:=h2 enc W base sp held fuel cs xs' h1 (fun n hn => hw n (List.mem_append_right _ hn)) hl2
 refine ⟨(p,q),⟨_,_, ?_,hp,hq⟩,hg,hg2⟩
 rw [<- List.drop_drop]
 exact (List.take_append_drop _ _).symm
theorem Qdg.last {α : Type} {d : Kd α} {off : Nat} {f : Field} {good : α -> Prop} {t : TypeId} (hd : Qdk H P d t good) (hs : P.cellsOf t = d.sz) (ht : f.type = t) (ho : f.offset = off) : Qdg H P d off [f] good:=by
 subst ht
 intro enc W base sp held fuel cs xs h hw hl
 rw [List.mapM_cons] at h
 obtain ⟨x,h0,h⟩:=Option.bind_eq_some_iff.1 h
 obtain ⟨xs',h1,h⟩:=Option.bind_eq_some_iff.1 h
 cases h
 simp only [List.map_cons,DataW.weightsEach] at hw
 rw [ho,hs,List.take_of_length_le (by rw [hl]; exact Nat.le_refl _)] at h0
 exact hd enc W base sp held fuel _ x h0 (fun n hn => hw n (List.mem_append_left _ hn))
theorem Qdk.struct {α : Type} {d : Kd α} {t : TypeId} {fs : Array Field} {good : α -> Prop} (hu : P.underlying t = some (.struct fs)) (hs : P.cellsOf t = d.sz) (hf : Qdg H P d 0 fs.toList good) : Qdk H P d t good:=by
 intro enc W base sp held fuel cs x h hl
 cases fuel with
 | zero => simp [DataW.trod] at h
 | succ n =>
  unfold DataW.trod at h
  rw [hu] at h
  simp only at h
  split at h
  ·rename_i hc
   obtain ⟨xs,h1,rfl⟩:=Option.map_eq_some_iff.1 h
   have hw : lightW P t (DataW.agg (xs.map (·.1))):=hl
   unfold lightW at hw
   rw [DataW.weights,hu] at hw
   exact hf enc W base sp held n cs xs h1 hw (by rw [List.drop_zero,hc,hs])
  ·cases h
end
end
section
set_option maxRecDepth 100000
theorem cInt : Tryz.prog.cellsOf 3 = 1:=by kernel_rfl
theorem cElem : Tryz.prog.cellsOf 32 = 3:=by kernel_rfl
theorem cOp : Tryz.prog.cellsOf 34 = 11:=by kernel_rfl
theorem oInt (H : Type) : Qdk H Tryz.prog (Kd.int .i64) 3 (fun a => (Lit.int .i64 a).wf = true):=Qdk.int Tryz.underlying3
theorem oString (H : Type) : Qdk H Tryz.prog Kd.string 9 (fun s => s.size <= reachBytes):=Qdk.string Tryz.underlying9
theorem opens_Elem (H : Type) : Qdk H Tryz.prog Qap 32 (fun x => (Lit.int .i64 x.f0).wf = true /\ (Lit.int .i64 x.f1).wf = true /\ (Lit.int .i64 x.f2).wf = true):=by
 refine Qdk.iso (d:=Kd.pair (Kd.int .i64) (Kd.pair (Kd.int .i64) (Kd.int .i64))) (good:=fun p : Int × Int × Int => (Lit.int .i64 p.1).wf = true /\ (Lit.int .i64 p.2.1).wf = true /\ (Lit.int .i64 p.2.2).wf = true) ?_ (fun x : SElem => (x.f0,x.f1,x.f2)) (fun p => ⟨p.1,p.2.1,p.2.2⟩) (fun _ => rfl)
 refine Qdk.struct Tryz.underlying32 cElem ?_
 exact Qdg.cons (oInt H) cInt rfl rfl (Qdg.cons (oInt H) cInt rfl rfl (Qdg.last (oInt H) cInt rfl rfl))
theorem opens_Elems (H : Type) : Qdk H Tryz.prog (Kd.slice 32 Qap) 23 (fun l => l.length * Tryz.prog.bytesOf 32 <= reachBytes /\ ∀ x ∈ l,(Lit.int .i64 x.f0).wf = true /\ (Lit.int .i64 x.f1).wf = true /\ (Lit.int .i64 x.f2).wf = true):=Qdk.slice Tryz.underlying23 cElem (opens_Elem H)
def GoodOp (x : SOp) : Prop:=x.f4.size <= reachBytes /\ x.f5.length * Tryz.prog.bytesOf 32 <= reachBytes
theorem opens_Op (H : Type) : Qdk H Tryz.prog kOp 34 GoodOp:=by
 intro enc W base sp held fuel cs x h hl
 have hS:=Qdk.struct (H:=H) Tryz.underlying34 cOp
  (Qdg.cons (oInt H) cInt rfl rfl (Qdg.cons (oInt H) cInt rfl rfl (Qdg.cons (oInt H) cInt rfl rfl (Qdg.cons (opens_Elem H) cElem rfl rfl (Qdg.cons (oString H) (by kernel_rfl) rfl rfl (Qdg.cons (opens_Elems H) (by kernel_rfl) rfl rfl (Qdg.cons (oInt H) cInt rfl rfl (Qdg.cons (oInt H) cInt rfl rfl (Qdg.last (oInt H) cInt rfl rfl)))))))))
 obtain ⟨p,hp,hg⟩:=hS enc W base sp held fuel cs x h hl
 exact ⟨⟨p.1,p.2.1,p.2.2.1,p.2.2.2.1,p.2.2.2.2.1,p.2.2.2.2.2.1,p.2.2.2.2.2.2.1,p.2.2.2.2.2.2.2.1,p.2.2.2.2.2.2.2.2⟩,hp,hg.2.2.2.2.1,hg.2.2.2.2.2.1.1⟩
theorem opens_Ops (H : Type) : Qdk H Tryz.prog (Kd.slice 34 kOp) 24 (fun l => l.length * Tryz.prog.bytesOf 34 <= reachBytes /\ ∀ x ∈ l,GoodOp x):=Qdk.slice Tryz.underlying24 cOp (opens_Op H)
theorem opens_LOps (H : Type) : Qdk H Tryz.prog (Kd.slice 24 (Kd.slice 34 kOp)) 22 (fun l => l.length * Tryz.prog.bytesOf 24 <= reachBytes /\ ∀ x ∈ l,x.length * Tryz.prog.bytesOf 34 <= reachBytes /\ ∀ o ∈ x,GoodOp o):=Qdk.slice Tryz.underlying22 (by kernel_rfl) (opens_Ops H)
theorem opens_Ints (H : Type) : Qdk H Tryz.prog (Kd.slice 3 (Kd.int .i64)) 25 (fun l => l.length * Tryz.prog.bytesOf 3 <= reachBytes /\ ∀ x ∈ l,(Lit.int .i64 x).wf = true):=Qdk.slice Tryz.underlying25 cInt (oInt H)
end
section
def bA (n m : Nat) : Array Bool:=((List.range n).map fun i => m.testBit i).toArray
section
variable {P : Program} {md : Region.Mode} {ops : Array Oper} {Q : Exit -> Act -> World -> Prop} {S : World -> Prop} {ds : List Nat} {T : Bool × List (List Nat × List Nat)} {B : List Nat} {n m fuel : Nat} {a a' : Act} {w : World} {oi : Oper} {v : Value}
theorem stL {id : Nat} (ds : List Nat) (n : Nat) (hB : Qay T.2 B = true) (hT : rtab .any ops = T) (hm : P.follows .mixedOrders = true:=by kernel_rfl) (hn : ops.size = n:=by rfl) (hl : Array.replicate n false = bA n 0:=by kernel_rfl) (hS : S w.drew)
  (h : S w.drew -> Zz (rtab .any ops = T) -> Zz (Qay T.2 B = true) -> Qai P .any ops Q S ds n (bA n 0) a w.drew) : (Code.region id ops true).wp P Q a w :=
 start_ (bA n 0) hm hn hl hS (fun hs => h hs ⟨hT⟩ ⟨hB⟩)
theorem stR {id : Nat} (n : Nat) (hB : Qay T.2 B = true) (hT : rtab .any ops = T) (hm : P.follows .mixedOrders = true:=by kernel_rfl) (hn : ops.size = n:=by rfl) (hl : Array.replicate n false = bA n 0:=by kernel_rfl) (hS : S w.drew)
  (h : S w.drew -> Zz (rtab .any ops = T) -> Zz (Qay T.2 B = true) -> Qai P .any ops Q S [] n (bA n 0) a w.drew) : (Code.region id ops true).wp P Q a w :=
 start_ (bA n 0) hm hn hl hS (fun hs => h hs ⟨hT⟩ ⟨hB⟩)
theorem pu (HT : Zz (rtab md ops = T)) (i N m' : Nat) (hi : ops[i]? = some oi:=by rfl) (hN : oi.dst = some N:=by rfl) (hc : anyT T (bA n m).toList (bA n m').toList i = true:=by kernel_rfl)
  (hQ : ∀ c a w,Q (.panic c) (a.put oi.dst v) w -> Q (.panic c) a w:=by exact fun _ _ _ h => h)
  (hy : Yields P ops oi v a:=by (refine Or.inl ⟨?_, ?_⟩; rfl; intro w'; go_simp; with_reducible rfl))
  (ha : a.put (some N) v = a':=by (simp only [Act.put,List.setIfInBounds_toArray,List.set_cons_zero,List.set_cons_succ,Qbe,Qbi]; rfl))
  (h : Qai P md ops Q S ds fuel (bA n m') a' w) : Qai P md ops Q S ds (fuel + 1) (bA n m) a w :=
 Qcc (bA n m') hi hN (Qbn HT.out hc) hQ hy ha h
theorem off (HT : Zz (rtab md ops = T)) (i N m' : Nat) (hi : ops[i]? = some oi:=by rfl) (hN : oi.dst = some N:=by rfl) (hc : anyT T (bA n m).toList (bA n m').toList i = true:=by kernel_rfl)
  (hQ : ∀ c a w,Q (.panic c) (a.put oi.dst undef) w -> Q (.panic c) a w:=by exact fun _ _ _ h => h)
  (hy : Region.wanted oi (yielded ops a.tmps) = false:=by rfl)
  (ha : a.put (some N) undef = a':=by (simp only [Act.put,List.setIfInBounds_toArray,List.set_cons_zero,List.set_cons_succ]; rfl))
  (h : Qai P md ops Q S ds fuel (bA n m') a' w) : Qai P md ops Q S ds (fuel + 1) (bA n m) a w :=
 Qcc (bA n m') hi hN (Qbn HT.out hc) hQ (Or.inr ⟨hy,rfl⟩) ha h
theorem tk (HT : Zz (rtab md ops = T)) (HW : Zz (Qay T.2 B = true)) (hS : S w) (i N m' : Nat) (hi : ops[i]? = some oi:=by rfl) (hN : oi.dst = some N:=by rfl) (hc : takeW T B ds (bA n m).toList (bA n m').toList i = true:=by kernel_rfl)
  (hQ : ∀ c a w,Q (.panic c) (a.put oi.dst v) w -> Q (.panic c) a w:=by exact fun _ _ _ h => h)
  (hy : YieldsIf P ops S oi v a:=by (refine Or.inl ⟨?_, ?_⟩; rfl; intro w' hs_; go_split_ands; go_simp; with_reducible rfl))
  (ha : a.put (some N) v = a':=by (simp only [Act.put,List.setIfInBounds_toArray,List.set_cons_zero,List.set_cons_succ,Qbe,Qbi]; rfl))
  (h : Qai P md ops Q S ds fuel (bA n m') a' w) : Qai P md ops Q S ds (fuel + 1) (bA n m) a w :=
 take_ (bA n m') hi hN (take_ofW HT.out HW.out hc) hQ hy hS ha h
theorem on (HT : Zz (rtab md ops = T)) (i : Nat) (N : Option Tmp) (m' : Nat) (hi : ops[i]? = some oi:=by rfl) (hN : oi.dst = N:=by rfl) (hc : (readyT T.2 (bA n m).toList == [i] && (bA n m).toList.set i true == (bA n m').toList) = true:=by kernel_rfl) (hd : i ∉ ds:=by decide)
  (h : ∀ K : Act -> World -> Prop,Shut (∀ a' w',S w' -> (S w' -> Qai P md ops Q S ds fuel (bA n m') a' w') -> K a' w') -> if Region.wanted oi (yielded ops a.tmps) = true then Oper.wp P oi a w K Q else K (a.put N undef) w) :
  Qai P md ops Q S ds (fuel + 1) (bA n m) a w :=
 one_ (bA n m') hi hN (one_of HT.out hc) hd h
theorem ca (HT : Zz (rtab md ops = T)) (i : Nat) (N : Option Tmp) (m' : Nat) {f : FuncId} {fn : Func} (args : Array Value) (hf : P.funcs[f]? = some fn) {os_ : Array Operand} {ts : Array TypeId} (hi : ops[i]? = some oi:=by rfl) (hN : oi.dst = N:=by rfl) (hc : (readyT T.2 (bA n m).toList == [i] && (bA n m).toList.set i true == (bA n m').toList) = true:=by kernel_rfl) (hd : i ∉ ds:=by decide)
  (hname : (fn.name == "runtime.NumGoroutine") = false := by kernel_rfl) (hb : fn.body.isSome = true := by rfl) (hw : Region.wanted oi (yielded ops a.tmps) = true := by rfl) (hop : oi.op = .call { callee := .value (.func f), args := os_, argTypes := ts } := by rfl)
  (hargs : os_.map a.eval = args:=by (try simp only [List.map_toArray,List.map_cons,List.map_nil]); first | done | rfl)
  (h : ∀ K : Act -> World -> Prop,Shut (∀ a' w',S w' -> (S w' -> Qai P md ops Q S ds fuel (bA n m') a' w') -> K a' w') -> Calls P f args w fun e w' => ∃ v,e = .returned v /\ K (a.put N v) w') :
  Qai P md ops Q S ds (fuel + 1) (bA n m) a w :=
 on HT i N m' hi hN hc hd (fun K hK => goes_ hf hname hb args hw hN hop hargs (h K hK))
theorem mu (HT : Zz (rtab md ops = T)) (i m' : Nat) {mt : TypeId} {mo ko vo : Operand} {mv kv vv : Value} (w' : World) (hi : ops[i]? = some oi:=by rfl) (hN : oi.dst = none:=by rfl) (hd : i ∈ ds:=by decide)
  (hc : (readyT T.2 (bA n m).toList == [i] && (bA n m).toList.set i true == (bA n m').toList) = true:=by kernel_rfl) (hw : Region.wanted oi (yielded ops a.tmps) = true:=by rfl) (hop : oi.op = .mapUpdate mt mo ko vo:=by rfl)
  (hmv : a.eval mo = mv:=by rfl) (hkv : a.eval ko = kv:=by rfl) (hvv : a.eval vo = vv:=by rfl)
  (hrun : (Instr.mapUpdate mt mv kv vv).run P w = .ok () w') (h : Qai P md ops Q S ds fuel (bA n m') a w') : Qai P md ops Q S ds (fuel + 1) (bA n m) a w:=by
 refine last_ (bA n m') hi hN (one_of HT.out hc) hd (fun K hK => ?_)
 rw [if_pos hw]
 have he : (execOp a.eval oi).run P w = .ok .skip w':=by
  unfold execOp
  simp [hop,hmv,hkv,hvv,hrun]
 unfold Oper.wp
 rw [he,Oper.upon_skip,hN]
 exact hK.out a w' h
theorem exS (HT : Zz (rtab md ops = T)) (i : Nat) (N : Option Tmp) (m' : Nat) (u : Value) (w' : World) (hi : ops[i]? = some oi:=by rfl) (hN : oi.dst = N:=by rfl) (hd : i ∉ ds:=by decide)
  (hc : (readyT T.2 (bA n m).toList == [i] && (bA n m).toList.set i true == (bA n m').toList) = true:=by kernel_rfl) (hw : Region.wanted oi (yielded ops a.tmps) = true:=by rfl)
  (hrun : (execOp a.eval oi).run P w = .ok (.value u) w') (hS : S w') (h : S w' -> Qai P md ops Q S ds fuel (bA n m') (a.put N u) w') : Qai P md ops Q S ds (fuel + 1) (bA n m) a w:=by
 refine one_ (bA n m') hi hN (one_of HT.out hc) hd (fun K hK => ?_)
 rw [if_pos hw]
 unfold Oper.wp
 rw [hrun,Oper.upon_value,hN]
 exact hK.out _ w' hS h
theorem exL (HT : Zz (rtab md ops = T)) (i : Nat) (N : Option Tmp) (m' : Nat) (u : Value) (w' : World) (hi : ops[i]? = some oi:=by rfl) (hN : oi.dst = N:=by rfl) (hd : i ∈ ds:=by decide)
  (hc : (readyT T.2 (bA n m).toList == [i] && (bA n m).toList.set i true == (bA n m').toList) = true:=by kernel_rfl) (hw : Region.wanted oi (yielded ops a.tmps) = true:=by rfl)
  (hrun : (execOp a.eval oi).run P w = .ok (.value u) w') (h : Qai P md ops Q S ds fuel (bA n m') (a.put N u) w') : Qai P md ops Q S ds (fuel + 1) (bA n m) a w:=by
 refine last_ (bA n m') hi hN (one_of HT.out hc) hd (fun K hK => ?_)
 rw [if_pos hw]
 unfold Oper.wp
 rw [hrun,Oper.upon_value,hN]
 exact hK.out _ w' h
theorem skL (HT : Zz (rtab md ops = T)) (i : Nat) (m' : Nat) (w' : World) (hi : ops[i]? = some oi:=by rfl) (hN : oi.dst = none:=by rfl) (hd : i ∈ ds:=by decide)
  (hc : (readyT T.2 (bA n m).toList == [i] && (bA n m).toList.set i true == (bA n m').toList) = true:=by kernel_rfl) (hw : Region.wanted oi (yielded ops a.tmps) = true:=by rfl)
  (hrun : (execOp a.eval oi).run P w = .ok .skip w') (h : Qai P md ops Q S ds fuel (bA n m') a w') : Qai P md ops Q S ds (fuel + 1) (bA n m) a w:=by
 refine last_ (bA n m') hi hN (one_of HT.out hc) hd (fun K hK => ?_)
 rw [if_pos hw]
 unfold Oper.wp
 rw [hrun,Oper.upon_skip,hN]
 exact hK.out _ w' h
theorem caL (HT : Zz (rtab md ops = T)) (i : Nat) (N : Option Tmp) (m' : Nat) {f : FuncId} {fn : Func} (args : Array Value) (hf : P.funcs[f]? = some fn) {os_ : Array Operand} {ts : Array TypeId} (hi : ops[i]? = some oi:=by rfl) (hN : oi.dst = N:=by rfl) (hd : i ∈ ds:=by decide) (hc : (readyT T.2 (bA n m).toList == [i] && (bA n m).toList.set i true == (bA n m').toList) = true:=by kernel_rfl)
  (hname : (fn.name == "runtime.NumGoroutine") = false := by kernel_rfl) (hb : fn.body.isSome = true := by rfl) (hw : Region.wanted oi (yielded ops a.tmps) = true := by rfl) (hop : oi.op = .call { callee := .value (.func f), args := os_, argTypes := ts } := by rfl)
  (hargs : os_.map a.eval = args:=by (try simp only [List.map_toArray,List.map_cons,List.map_nil]); first | done | rfl)
  (h : Calls P f args w fun e w' => ∃ v,e = .returned v /\ Qai P md ops Q S ds fuel (bA n m') (a.put N v) w') :
  Qai P md ops Q S ds (fuel + 1) (bA n m) a w :=
 last_ (bA n m') hi hN (one_of HT.out hc) hd (fun K hK => goes_ hf hname hb args hw hN hop hargs (h.mono (fun e w' hh => by obtain ⟨v,rfl,hv⟩:=hh; exact ⟨v,rfl,hK.out _ _ hv⟩)))
theorem apL (HT : Zz (rtab md ops = T)) (i N m' : Nat) (base : Nat) (W : World) {so xo : Operand} {t e : TypeId} {z : Value} {size bytes : Nat} (hinfo : (P.info? e).map (fun i => (i.zero,i.size,i.bytes)) = some (some z,size,bytes)) (ht : P.underlying t = some (.slice e)) (v : Value) (k : Nat) (xs ys : List Value)
  (HO : W.ownsRow base e size v k xs) (hbase : base <= W.heap.size) (hl : (k + 1) * bytes <= 140737488355328) (hys : ys.length = size) (h1 : ∀ u ∈ ys,u.oneCell' = true)
  (hi : ops[i]? = some oi:=by rfl) (hN : oi.dst = some N:=by rfl) (hd : i ∈ ds:=by decide)
  (hc : (readyT T.2 (bA n m).toList == [i] && (bA n m).toList.set i true == (bA n m').toList) = true:=by kernel_rfl) (hw : Region.wanted oi (yielded ops a.tmps) = true:=by rfl)
  (ho : oi.op = .call { callee:=.builtin .append,args:=#[so,xo],argTypes:=#[t,t] }:=by rfl) (hz : z.cells.size = size:=by rfl) (hs0 : 0 < size:=by decide) (hb0 : 0 < bytes:=by decide)
  (hs : a.eval so = v:=by rfl) (hx : a.eval xo = .slice (some ⟨W.heap.size,0,none⟩) 1 1:=by rfl)
  (h : ∀ v1 w1,w1.ownsRow base e size v1 (k + 1) (xs ++ ys) -> W.grownBy w1 v.ownBlock -> (v1.ownBlock = v.ownBlock \/ ∃ b,v1.ownBlock = some b /\ W.heap.size <= b) -> Qai P md ops Q S ds fuel (bA n m') (a.put (some N) v1) w1) :
  Qai P md ops Q S ds (fuel + 1) (bA n m) a (W.alloc (.cells ys.toArray e)):=by
 refine last_ (bA n m') hi hN (one_of HT.out hc) hd (fun K hK => ?_)
 have:=step_append_cells (P:=P) (ops:=ops) (o:=oi) (a:=a) (Q:=Q) (K:=K) (w0:=W) (W:=W) base hw so xo t e z size bytes ho ht hinfo hz hs0 hb0 v k xs ys hs hx hys h1 HO (Below.refl _ _) hbase hl (fun v1 w1 h1 h2 h3 h4 => by rw [hN]; exact hK.out _ _ (h v1 w1 h1 h3 h4))
 rw [hN] at this
 exact this
theorem nm (ha : a = a':=by (simp only [Act.put,List.setIfInBounds_toArray,List.set_cons_zero,List.set_cons_succ,Qbe,Qbi]; rfl)) (h : Qai P md ops Q S ds fuel (bA n m) a' w) : Qai P md ops Q S ds fuel (bA n m) a w:=ha ▸ h
theorem nn (N : Nat) {b0 : Act} {v0 : Value} (h0 : a = Act.put b0 (some N) v0:=by exact rfl) (h1 : Act.put b0 (some N) v0 = a':=by (simp only [Act.put,List.setIfInBounds_toArray,List.set_cons_zero,List.set_cons_succ,Qbe,Qbi]; rfl)) (h : Qai P md ops Q S ds fuel (bA n m) a' w) : Qai P md ops Q S ds fuel (bA n m) a w:=by rw [h0,h1]; exact h
theorem dn (HT : Zz (rtab md ops = T)) (hc : (readyT T.2 (bA n m).toList == []) = true:=by kernel_rfl) (h : Q .normal a w) : Qai P md ops Q S ds fuel (bA n m) a w :=
 done_ (done_of HT.out hc) h
end
end
section
section
variable {P : Program} {md : Region.Mode} {ops : Array Oper} {Q : Exit -> Act -> World -> Prop} {S : World -> Prop} {ds : List Nat} {T : Bool × List (List Nat × List Nat)} {B : List Nat} {n m fuel : Nat} {a a' : Act} {w : World} {oi : Oper} {v : Value}
theorem stP {id : Nat} (S : World -> Prop) (n : Nat) (hS : S w.drew) (h : S w.drew -> Qai P .any ops Q S [] n (bA n 0) a w.drew)
  (hm : P.follows .mixedOrders = true:=by kernel_rfl) (hn : ops.size = n:=by rfl) (hl : Array.replicate n false = bA n 0:=by kernel_rfl) : (Code.region id ops true).wp P Q a w :=
 start_ (bA n 0) hm hn hl hS h
end
end
section
theorem bc {w : World} {g : Nat} {t : TypeId} {cs : Array Value} {v : Value} (h : Zz (w.heap[g]? = some (.cells cs t (0,0)))) (i : Nat) (e : cs[i]? = some v:=by rfl) : w.cell? ⟨g,i,none⟩ = some v:=(Qdf h.out i).trans e
theorem bf {w : World} {g : Nat} {t : TypeId} {cs : Array Value} (h : Zz (w.heap[g]? = some (.cells cs t (0,0)))) (i : Nat) : w.frozen? ⟨g,i,none⟩ = false:=blk_frozen h.out i
theorem cl {w w1 : World} {a : Addr} {v : Value} (hb : Zz (Below w.heap.size w w1)) (h : w.cell? a = some v) : w1.cell? a = some v:=(hb.out.cell (World.block_lt_of_cell? w _ h)).trans h
theorem cW {w w1 W : World} {a : Addr} {v : Value} (hb : Zz (Below w.heap.size w w1)) (h : w.cell? a = some v) (e : w1.cell? a = W.cell? a:=by exact rfl) : W.cell? a = some v:=e.symm.trans (cl hb h)
section
variable {P : Program} {md : Region.Mode} {ops : Array Oper} {Q : Exit -> Act -> World -> Prop} {S : World -> Prop} {ds : List Nat} {n m fuel : Nat} {a a' : Act} {w : World} {oi : Oper} {v : Value}
theorem pu0 (i N m' : Nat) (hi : ops[i]? = some oi:=by rfl) (hN : oi.dst = N:=by rfl) (hc : anyB md ops (bA n m) (bA n m') i = true:=by kernel_rfl)
  (hQ : ∀ c a w,Q (.panic c) (a.put oi.dst v) w -> Q (.panic c) a w:=by exact fun _ _ _ h => h)
  (hy : Yields P ops oi v a:=by (refine Or.inl ⟨?_, ?_⟩; rfl; intro w'; go_simp; with_reducible rfl))
  (ha : a.put (some N) v = a':=by (simp only [Act.put,List.setIfInBounds_toArray,List.set_cons_zero,List.set_cons_succ,Qbe,Qbi]; rfl))
  (h : Qai P md ops Q S ds fuel (bA n m') a' w) : Qai P md ops Q S ds (fuel + 1) (bA n m) a w:=Qcc (bA n m') hi hN hc hQ hy ha h
theorem tk0 (hS : S w) (i N m' : Nat) (hi : ops[i]? = some oi:=by rfl) (hN : oi.dst = N:=by rfl) (hc : takeB md ops ds (bA n m) (bA n m') i = true:=by kernel_rfl)
  (hQ : ∀ c a w,Q (.panic c) (a.put oi.dst v) w -> Q (.panic c) a w:=by exact fun _ _ _ h => h)
  (hy : YieldsIf P ops S oi v a:=by (refine Or.inl ⟨?_, ?_⟩; rfl; intro w' hs_; go_split_ands; go_simp; with_reducible rfl))
  (ha : a.put (some N) v = a':=by (simp only [Act.put,List.setIfInBounds_toArray,List.set_cons_zero,List.set_cons_succ,Qbe,Qbi]; rfl))
  (h : Qai P md ops Q S ds fuel (bA n m') a' w) : Qai P md ops Q S ds (fuel + 1) (bA n m) a w:=take_ (bA n m') hi hN hc hQ hy hS ha h
theorem on0 (i : Nat) (N : Option Tmp) (m' : Nat) (hi : ops[i]? = some oi:=by rfl) (hN : oi.dst = N:=by rfl) (hc : readyB md ops (bA n m) (bA n m') i = true:=by kernel_rfl) (hd : i ∉ ds:=by decide)
  (h : ∀ K : Act -> World -> Prop,Shut (∀ a' w',S w' -> (S w' -> Qai P md ops Q S ds fuel (bA n m') a' w') -> K a' w') -> if Region.wanted oi (yielded ops a.tmps) = true then Oper.wp P oi a w K Q else K (a.put N undef) w) :
  Qai P md ops Q S ds (fuel + 1) (bA n m) a w:=one_ (bA n m') hi hN hc hd h
theorem dn0 (hc : (Region.ready md ops (bA n m) == []) = true:=by kernel_rfl) (h : Q .normal a w) : Qai P md ops Q S ds fuel (bA n m) a w:=done_ hc h
end
end
section
section
variable {w w1 W w2 : World} {g g' : Nat} {o : Obj}
theorem bw (hb : Zz (Below w.heap.size w w1)) (h : Below w.heap.size w w1 -> Below w.heap.size w W:=by intro hb_; repeat (first | (with_reducible first | exact hb_ | apply Qag | apply Qbr | apply Qae | refine Qdj ?_ (Zz.out (by assumption))) | exact hb_)) : Below w.heap.size w W:=h hb.out
theorem bs (hb : Zz (Below w.heap.size w w1)) (k : Below W.heap.size W w2) (h : Below w.heap.size w w1 -> Below w.heap.size w W:=by intro hb_; repeat (first | (with_reducible first | exact hb_ | apply Qag | apply Qbr | apply Qae | refine Qdj ?_ (Zz.out (by assumption))) | exact hb_)) : Zz (Below w.heap.size w w2):=⟨Qas (h hb.out) k⟩
theorem bz (hb : Zz (Below w.heap.size w w1)) (hg : g = W.heap.size) (h : Below w.heap.size w w1 -> Below w.heap.size w W:=by intro hb_; repeat (first | (with_reducible first | exact hb_ | apply Qag | apply Qbr | apply Qae | refine Qdj ?_ (Zz.out (by assumption))) | exact hb_)) : Zz (w.heap.size <= g):=⟨by rw [hg]; exact Qal (h hb.out)⟩
theorem kk (hk : Zz (w1.heap[g]? = some o)) (h : w1.heap[g]? = some o -> W.heap[g]? = some o:=by intro hk_; (with_reducible repeat (first | refine Qbp ?_ _ | refine Qao ?_ | refine Qax ?_ _ | refine Qcn ?_ (Zz.out (by assumption)) _)); exact hk_) : W.heap[g]? = some o:=h hk.out
theorem bl (hk : Zz (w1.heap[g]? = some o)) (hb : Below W.heap.size W w2) (h : w1.heap[g]? = some o -> W.heap[g]? = some o:=by intro hk_; (with_reducible repeat (first | refine Qbp ?_ _ | refine Qao ?_ | refine Qax ?_ _ | refine Qcn ?_ (Zz.out (by assumption)) _)); exact hk_) : Zz (w2.heap[g]? = some o):=⟨Qcp (h hk.out) hb⟩
theorem bn (hk : Zz (w1.heap[g]? = some o)) (hg : g' = W.heap.size) (h : w1.heap[g]? = some o -> W.heap[g]? = some o:=by intro hk_; (with_reducible repeat (first | refine Qbp ?_ _ | refine Qao ?_ | refine Qax ?_ _ | refine Qcn ?_ (Zz.out (by assumption)) _)); exact hk_) : Zz (g ≠ g'):=⟨by rw [hg]; exact Nat.ne_of_lt (blk_lt (h hk.out))⟩
theorem bm (hk : Zz (w1.heap[g]? = some o)) (hg : g' = W.heap.size) (h : w1.heap[g]? = some o -> W.heap[g]? = some o:=by intro hk_; (with_reducible repeat (first | refine Qbp ?_ _ | refine Qao ?_ | refine Qax ?_ _ | refine Qcn ?_ (Zz.out (by assumption)) _)); exact hk_) : Zz (g' ≠ g):=⟨by rw [hg]; exact Nat.ne_of_gt (blk_lt (h hk.out))⟩
theorem rf {α : Sort _} {a b : α} (h : a = b:=by first | rfl | (simp; done) | (simp [*]; done)) : a = b:=h
theorem re {α : Sort _} {a b : α} (h : a = b:=by first | rfl | (simp [errW_none,errW_some] <;> rfl) | (simp [*,errW_none,errW_some] <;> rfl)) : a = b:=h
end
section
variable {P : Program} {ops : Array Oper} {Q : Exit -> Act -> World -> Prop} {rest : List Oper} {oi : Oper} {a : Act} {w : World}
theorem gl (N : Option Tmp) {f : FuncId} {fn : Func} {as_ : Array Operand} {ts : Array TypeId} (hf : P.funcs[f]? = some fn) (args : Array Value)
  (hd : oi.dst = N := by rfl) (hg : oi.guard = none := by rfl) (hname : (fn.name == "runtime.NumGoroutine") = false := by kernel_rfl) (hb : fn.body.isSome = true := by rfl)
  (hop : oi.op = .call { callee:=.value (.func f),args:=as_,argTypes:=ts }:=by rfl) (hargs : as_.map a.eval = args:=by (try simp only [List.map_toArray,List.map_cons,List.map_nil]); first | done | rfl | (simp only [List.length_drop,List.length_take]; rfl))
  (h : Calls P f args w fun e w' => ∃ v,e = .returned v /\ wpList P ops Q rest (a.put N v) w') : wpList P ops Q (oi :: rest) a w:=goesL_ N hd hg hf hname hb args hop hargs h
theorem bx (N : Tmp) (cs : Array Value) (t : TypeId) (hgd : oi.guard = none:=by rfl) (hd : oi.dst = some N:=by rfl)
  (hrun : (execOp a.eval oi).run P w = .ok (.value (.pointer (some ⟨w.heap.size,0,none⟩))) (w.alloc (.cells cs t (0,0))):=by first | (go_simp; done) | (go_simp; rfl))
  (h : ∀ g,g = w.heap.size -> ∀ w1,w1.heap[g]? = some (.cells cs t (0,0)) -> Below w.heap.size w w1 -> wpList P ops Q rest (a.put oi.dst (.pointer (some ⟨g,0,none⟩))) w1) : wpList P ops Q (oi :: rest) a w:=box_event hgd hd hrun h
end
section
variable {w : World} {g : Nat} {t : TypeId} {a0 a1 a2 a3 a4 a5 a6 a7 a8 a9 a10 : Value}
theorem kc2 (h : Zz (w.heap[g]? = some (.cells #[a0,a1] t (0,0)))) : w.cell? ⟨g,0,none⟩ = some a0 /\ w.cell? ⟨g,1,none⟩ = some a1 /\ w.frozen? ⟨g,0,none⟩ = false /\ w.frozen? ⟨g,1,none⟩ = false:=⟨bc h 0,bc h 1,bf h 0,bf h 1⟩
theorem kc3 (h : Zz (w.heap[g]? = some (.cells #[a0,a1,a2] t (0,0)))) : w.cell? ⟨g,0,none⟩ = some a0 /\ w.cell? ⟨g,1,none⟩ = some a1 /\ w.cell? ⟨g,2,none⟩ = some a2 /\ w.frozen? ⟨g,0,none⟩ = false /\ w.frozen? ⟨g,1,none⟩ = false /\ w.frozen? ⟨g,2,none⟩ = false:=⟨bc h 0,bc h 1,bc h 2,bf h 0,bf h 1,bf h 2⟩
theorem kc4 (h : Zz (w.heap[g]? = some (.cells #[a0,a1,a2,a3] t (0,0)))) : w.cell? ⟨g,0,none⟩ = some a0 /\ w.cell? ⟨g,1,none⟩ = some a1 /\ w.cell? ⟨g,2,none⟩ = some a2 /\ w.cell? ⟨g,3,none⟩ = some a3 /\ w.frozen? ⟨g,0,none⟩ = false /\ w.frozen? ⟨g,1,none⟩ = false /\ w.frozen? ⟨g,2,none⟩ = false /\ w.frozen? ⟨g,3,none⟩ = false:=⟨bc h 0,bc h 1,bc h 2,bc h 3,bf h 0,bf h 1,bf h 2,bf h 3⟩
theorem kc11 (h : Zz (w.heap[g]? = some (.cells #[a0,a1,a2,a3,a4,a5,a6,a7,a8,a9,a10] t (0,0)))) : w.cell? ⟨g,0,none⟩ = some a0 /\ w.cell? ⟨g,1,none⟩ = some a1 /\ w.cell? ⟨g,2,none⟩ = some a2 /\ w.cell? ⟨g,3,none⟩ = some a3 /\ w.cell? ⟨g,4,none⟩ = some a4 /\ w.cell? ⟨g,5,none⟩ = some a5 /\ w.cell? ⟨g,6,none⟩ = some a6 /\ w.cell? ⟨g,7,none⟩ = some a7 /\ w.cell? ⟨g,8,none⟩ = some a8 /\ w.cell? ⟨g,9,none⟩ = some a9 /\ w.cell? ⟨g,10,none⟩ = some a10 /\ w.frozen? ⟨g,0,none⟩ = false /\ w.frozen? ⟨g,1,none⟩ = false /\ w.frozen? ⟨g,2,none⟩ = false /\ w.frozen? ⟨g,3,none⟩ = false /\ w.frozen? ⟨g,4,none⟩ = false /\ w.frozen? ⟨g,5,none⟩ = false /\ w.frozen? ⟨g,6,none⟩ = false /\ w.frozen? ⟨g,7,none⟩ = false /\ w.frozen? ⟨g,8,none⟩ = false /\ w.frozen? ⟨g,9,none⟩ = false /\ w.frozen? ⟨g,10,none⟩ = false:=⟨bc h 0,bc h 1,bc h 2,bc h 3,bc h 4,bc h 5,bc h 6,bc h 7,bc h 8,bc h 9,bc h 10,bf h 0,bf h 1,bf h 2,bf h 3,bf h 4,bf h 5,bf h 6,bf h 7,bf h 8,bf h 9,bf h 10⟩
end
section
abbrev B3 (w : World) (g : Nat) (a0 a1 a2 : Value) (R : Prop) : Prop:=w.cell? ⟨g,0,none⟩ = some a0 /\ w.cell? ⟨g,1,none⟩ = some a1 /\ w.cell? ⟨g,2,none⟩ = some a2 /\ R
abbrev E3 (w : World) (g : Nat) (a0 a1 a2 : Value) : Prop:=w.cell? ⟨g,0,none⟩ = some a0 /\ w.cell? ⟨g,1,none⟩ = some a1 /\ w.cell? ⟨g,2,none⟩ = some a2
theorem b3 {w : World} {g : Nat} {t : TypeId} {a0 a1 a2 : Value} (h : Zz (w.heap[g]? = some (.cells #[a0,a1,a2] t (0,0)))) {R : Prop} (r : R) : B3 w g a0 a1 a2 R:=⟨bc h 0,bc h 1,bc h 2,r⟩
theorem e3 {w : World} {g : Nat} {t : TypeId} {a0 a1 a2 : Value} (h : Zz (w.heap[g]? = some (.cells #[a0,a1,a2] t (0,0)))) : E3 w g a0 a1 a2:=⟨bc h 0,bc h 1,bc h 2⟩
abbrev B4 (w : World) (g : Nat) (a0 a1 a2 a3 : Value) (R : Prop) : Prop:=w.cell? ⟨g,0,none⟩ = some a0 /\ w.cell? ⟨g,1,none⟩ = some a1 /\ w.cell? ⟨g,2,none⟩ = some a2 /\ w.cell? ⟨g,3,none⟩ = some a3 /\ R
abbrev E4 (w : World) (g : Nat) (a0 a1 a2 a3 : Value) : Prop:=w.cell? ⟨g,0,none⟩ = some a0 /\ w.cell? ⟨g,1,none⟩ = some a1 /\ w.cell? ⟨g,2,none⟩ = some a2 /\ w.cell? ⟨g,3,none⟩ = some a3
theorem b4 {w : World} {g : Nat} {t : TypeId} {a0 a1 a2 a3 : Value} (h : Zz (w.heap[g]? = some (.cells #[a0,a1,a2,a3] t (0,0)))) {R : Prop} (r : R) : B4 w g a0 a1 a2 a3 R:=⟨bc h 0,bc h 1,bc h 2,bc h 3,r⟩
theorem e4 {w : World} {g : Nat} {t : TypeId} {a0 a1 a2 a3 : Value} (h : Zz (w.heap[g]? = some (.cells #[a0,a1,a2,a3] t (0,0)))) : E4 w g a0 a1 a2 a3:=⟨bc h 0,bc h 1,bc h 2,bc h 3⟩
abbrev B11 (w : World) (g : Nat) (a0 a1 a2 a3 a4 a5 a6 a7 a8 a9 a10 : Value) (R : Prop) : Prop:=w.cell? ⟨g,0,none⟩ = some a0 /\ w.cell? ⟨g,1,none⟩ = some a1 /\ w.cell? ⟨g,2,none⟩ = some a2 /\ w.cell? ⟨g,3,none⟩ = some a3 /\ w.cell? ⟨g,4,none⟩ = some a4 /\ w.cell? ⟨g,5,none⟩ = some a5 /\ w.cell? ⟨g,6,none⟩ = some a6 /\ w.cell? ⟨g,7,none⟩ = some a7 /\ w.cell? ⟨g,8,none⟩ = some a8 /\ w.cell? ⟨g,9,none⟩ = some a9 /\ w.cell? ⟨g,10,none⟩ = some a10 /\ R
abbrev E11 (w : World) (g : Nat) (a0 a1 a2 a3 a4 a5 a6 a7 a8 a9 a10 : Value) : Prop:=w.cell? ⟨g,0,none⟩ = some a0 /\ w.cell? ⟨g,1,none⟩ = some a1 /\ w.cell? ⟨g,2,none⟩ = some a2 /\ w.cell? ⟨g,3,none⟩ = some a3 /\ w.cell? ⟨g,4,none⟩ = some a4 /\ w.cell? ⟨g,5,none⟩ = some a5 /\ w.cell? ⟨g,6,none⟩ = some a6 /\ w.cell? ⟨g,7,none⟩ = some a7 /\ w.cell? ⟨g,8,none⟩ = some a8 /\ w.cell? ⟨g,9,none⟩ = some a9 /\ w.cell? ⟨g,10,none⟩ = some a10
theorem b11 {w : World} {g : Nat} {t : TypeId} {a0 a1 a2 a3 a4 a5 a6 a7 a8 a9 a10 : Value} (h : Zz (w.heap[g]? = some (.cells #[a0,a1,a2,a3,a4,a5,a6,a7,a8,a9,a10] t (0,0)))) {R : Prop} (r : R) : B11 w g a0 a1 a2 a3 a4 a5 a6 a7 a8 a9 a10 R:=⟨bc h 0,bc h 1,bc h 2,bc h 3,bc h 4,bc h 5,bc h 6,bc h 7,bc h 8,bc h 9,bc h 10,r⟩
theorem e11 {w : World} {g : Nat} {t : TypeId} {a0 a1 a2 a3 a4 a5 a6 a7 a8 a9 a10 : Value} (h : Zz (w.heap[g]? = some (.cells #[a0,a1,a2,a3,a4,a5,a6,a7,a8,a9,a10] t (0,0)))) : E11 w g a0 a1 a2 a3 a4 a5 a6 a7 a8 a9 a10:=⟨bc h 0,bc h 1,bc h 2,bc h 3,bc h 4,bc h 5,bc h 6,bc h 7,bc h 8,bc h 9,bc h 10⟩
theorem bp {W : World} {g : Nat} {t : TypeId} {cs cs' : Array Value} (h : W.heap[g]? = some (.cells cs t (0,0))) (i : Nat) {u : Value} (e : cs.setIfInBounds i u = cs':=by rfl) : (W.setCell ⟨g,i,none⟩ u).heap[g]? = some (.cells cs' t (0,0)):=Qcb h i u e
end
section
variable {P : Program} {ops : Array Oper} {Q : Exit -> Act -> World -> Prop} {oi : Oper} {a : Act} {w : World}
theorem gS {N : Option Tmp} {K : Act -> World -> Prop} {f : FuncId} {fn : Func} {os_ : Array Operand} {ts : Array TypeId} (hf : P.funcs[f]? = some fn) (args : Array Value)
  (hname : (fn.name == "runtime.NumGoroutine") = false := by kernel_rfl) (hb : fn.body.isSome = true := by rfl)
  (hw : Region.wanted oi (yielded ops a.tmps) = true:=by rfl) (hN : oi.dst = N:=by rfl) (hop : oi.op = .call { callee:=.value (.func f),args:=os_,argTypes:=ts }:=by rfl) (hargs : os_.map a.eval = args:=by (try simp only [List.map_toArray,List.map_cons,List.map_nil]); first | done | rfl | (simp only [List.length_drop,List.length_take]; rfl))
  (h : Calls P f args w fun e w' => ∃ v,e = .returned v /\ K (a.put N v) w') : if Region.wanted oi (yielded ops a.tmps) = true then Oper.wp P oi a w K Q else K (a.put N undef) w :=
 goes_ hf hname hb args hw hN hop hargs h
end
end
section
abbrev P11 (w : World) (a : Addr) (o : SOp) (A : Option Addr) (c : Nat) (R : Prop) : Prop:=w.cell? a = some (.int .i64 o.f0) /\ w.cell? ⟨a.block,a.off + 1,none⟩ = some (.int .i64 o.f1) /\ w.cell? ⟨a.block,a.off + 2,none⟩ = some (.int .i64 o.f2) /\ w.cell? ⟨a.block,a.off + 3,none⟩ = some (.int .i64 o.f3.f0) /\ w.cell? ⟨a.block,a.off + 4,none⟩ = some (.int .i64 o.f3.f1) /\ w.cell? ⟨a.block,a.off + 5,none⟩ = some (.int .i64 o.f3.f2) /\ w.cell? ⟨a.block,a.off + 6,none⟩ = some (.string o.f4) /\ w.cell? ⟨a.block,a.off + 7,none⟩ = some (.slice A o.f5.length c) /\ w.cell? ⟨a.block,a.off + 8,none⟩ = some (.int .i64 o.f6) /\ w.cell? ⟨a.block,a.off + 9,none⟩ = some (.int .i64 o.f7) /\ w.cell? ⟨a.block,a.off + 10,none⟩ = some (.int .i64 o.f8) /\ R
abbrev Q11 (w : World) (a : Addr) (o : SOp) (A : Option Addr) (c : Nat) : Prop:=w.cell? a = some (.int .i64 o.f0) /\ w.cell? ⟨a.block,a.off + 1,none⟩ = some (.int .i64 o.f1) /\ w.cell? ⟨a.block,a.off + 2,none⟩ = some (.int .i64 o.f2) /\ w.cell? ⟨a.block,a.off + 3,none⟩ = some (.int .i64 o.f3.f0) /\ w.cell? ⟨a.block,a.off + 4,none⟩ = some (.int .i64 o.f3.f1) /\ w.cell? ⟨a.block,a.off + 5,none⟩ = some (.int .i64 o.f3.f2) /\ w.cell? ⟨a.block,a.off + 6,none⟩ = some (.string o.f4) /\ w.cell? ⟨a.block,a.off + 7,none⟩ = some (.slice A o.f5.length c) /\ w.cell? ⟨a.block,a.off + 8,none⟩ = some (.int .i64 o.f6) /\ w.cell? ⟨a.block,a.off + 9,none⟩ = some (.int .i64 o.f7) /\ w.cell? ⟨a.block,a.off + 10,none⟩ = some (.int .i64 o.f8)
theorem bp11 {W : World} {g : Nat} {t : TypeId} {b0 b1 b2 b3 b4 b5 b6 b7 b8 b9 b10 u0 u1 u2 u3 u4 u5 u6 u7 u8 u9 u10 : Value} (h : W.heap[g]? = some (.cells #[b0,b1,b2,b3,b4,b5,b6,b7,b8,b9,b10] t (0,0))) : (((((((((((W.setCell ⟨g,0,none⟩ u0).setCell ⟨g,1,none⟩ u1).setCell ⟨g,2,none⟩ u2).setCell ⟨g,3,none⟩ u3).setCell ⟨g,4,none⟩ u4).setCell ⟨g,5,none⟩ u5).setCell ⟨g,6,none⟩ u6).setCell ⟨g,7,none⟩ u7).setCell ⟨g,8,none⟩ u8).setCell ⟨g,9,none⟩ u9).setCell ⟨g,10,none⟩ u10).heap[g]? = some (.cells #[u0,u1,u2,u3,u4,u5,u6,u7,u8,u9,u10] t (0,0)):=by
 have h0:=Qcb (cs':=#[u0,b1,b2,b3,b4,b5,b6,b7,b8,b9,b10]) h 0 u0 rfl
 have h1:=Qcb (cs':=#[u0,u1,b2,b3,b4,b5,b6,b7,b8,b9,b10]) h0 1 u1 rfl
 have h2:=Qcb (cs':=#[u0,u1,u2,b3,b4,b5,b6,b7,b8,b9,b10]) h1 2 u2 rfl
 have h3:=Qcb (cs':=#[u0,u1,u2,u3,b4,b5,b6,b7,b8,b9,b10]) h2 3 u3 rfl
 have h4:=Qcb (cs':=#[u0,u1,u2,u3,u4,b5,b6,b7,b8,b9,b10]) h3 4 u4 rfl
 have h5:=Qcb (cs':=#[u0,u1,u2,u3,u4,u5,b6,b7,b8,b9,b10]) h4 5 u5 rfl
 have h6:=Qcb (cs':=#[u0,u1,u2,u3,u4,u5,u6,b7,b8,b9,b10]) h5 6 u6 rfl
 have h7:=Qcb (cs':=#[u0,u1,u2,u3,u4,u5,u6,u7,b8,b9,b10]) h6 7 u7 rfl
 have h8:=Qcb (cs':=#[u0,u1,u2,u3,u4,u5,u6,u7,u8,b9,b10]) h7 8 u8 rfl
 have h9:=Qcb (cs':=#[u0,u1,u2,u3,u4,u5,u6,u7,u8,u9,b10]) h8 9 u9 rfl
 have h10:=Qcb (cs':=#[u0,u1,u2,u3,u4,u5,u6,u7,u8,u9,u10]) h9 10 u10 rfl
 exact h10
theorem bE {α β : Type} {o : Option α} {f : α -> Option β} {r : β} (H : o.bind f = some r) : ∃ a,Zz (o = some a) /\ f a = some r :=
 let ⟨a,h,k⟩:=Option.bind_eq_some_iff.mp H; ⟨a,⟨h⟩,k⟩
theorem nft : ¬ (false = true):=by decide
theorem bT {α : Type} [BEq α] [LawfulBEq α] {a b : α} (h : a = b) : (a == b) = true /\ (a != b) = false:=⟨beq_iff_eq.mpr h,bne_eq_false_iff_eq.mpr h⟩
theorem bF {α : Type} [BEq α] [LawfulBEq α] {a b : α} (h : ¬ a = b) : (a == b) = false /\ (a != b) = true:=⟨beq_eq_false_iff_ne.mpr h,bne_iff_ne.mpr h⟩
theorem od {p : Prop} [Decidable p] (h : decide p = true:=by first | (with_reducible assumption) | assumption) : p:=of_decide_eq_true h
section
variable {α : Type} {d : Kd α} {e n base : Nat} {ok : Nat -> Prop} {A : Option Addr} {v : Value} {xs : List α} {w w1 w2 W : World}
theorem rk (h : Zz (Kd.R d e w1 base ok v xs)) (k : Kd.R d e w1 base ok v xs -> Kd.R d e W base ok v xs:=by intro h_; (with_reducible repeat (first | apply Kd.R_alloc | apply Kd.R_drewN | apply Kd.R_drew)); exact h_) : Kd.R d e W base ok v xs:=k h.out
theorem sk (h : Zz (Kd.S d e w1 base ok v xs)) (k : Kd.S d e w1 base ok v xs -> Kd.S d e W base ok v xs:=by intro h_; (with_reducible repeat (first | apply Kd.S_alloc | apply Kd.S_drewN | apply Kd.S_drew)); exact h_) : Kd.S d e W base ok v xs:=k h.out
theorem rb (h : Zz (Kd.R d e w1 base ok v xs)) (hb : Below W.heap.size W w2) (k : Kd.R d e w1 base ok v xs -> Kd.R d e W base ok v xs:=by intro h_; (with_reducible repeat (first | apply Kd.R_alloc | apply Kd.R_drewN | apply Kd.R_drew)); exact h_) : Zz (Kd.R d e w2 base ok v xs):=⟨Kd.R_below (k h.out) hb⟩
theorem cb (h : Zz (Kd.C d w A n xs)) (hb : Zz (Below w.heap.size w w1)) (k : Kd.C d w1 A n xs -> Kd.C d W A n xs:=by intro h_; repeat (first | exact h_ | (with_reducible refine Kd.C_alloc ?_ _) | (with_reducible refine Kd.C_drewN ?_ _) | (with_reducible refine Kd.C_drew ?_))) : Kd.C d W A n xs:=k (Kd.C_below h.out hb.out)
theorem rf11 {g : Nat} {u0 u1 u2 u3 u4 u5 u6 u7 u8 u9 u10 : Value} (h : Kd.R d e w base (fun k => ok k /\ k ≠ g) v xs) : Kd.R d e (((((((((((w.setCell ⟨g,0,none⟩ u0).setCell ⟨g,1,none⟩ u1).setCell ⟨g,2,none⟩ u2).setCell ⟨g,3,none⟩ u3).setCell ⟨g,4,none⟩ u4).setCell ⟨g,5,none⟩ u5).setCell ⟨g,6,none⟩ u6).setCell ⟨g,7,none⟩ u7).setCell ⟨g,8,none⟩ u8).setCell ⟨g,9,none⟩ u9).setCell ⟨g,10,none⟩ u10) base (fun k => ok k /\ k ≠ g) v xs :=
 Kd.R_far (p:=⟨g,10,none⟩) (Kd.R_far (p:=⟨g,9,none⟩) (Kd.R_far (p:=⟨g,8,none⟩) (Kd.R_far (p:=⟨g,7,none⟩) (Kd.R_far (p:=⟨g,6,none⟩) (Kd.R_far (p:=⟨g,5,none⟩) (Kd.R_far (p:=⟨g,4,none⟩) (Kd.R_far (p:=⟨g,3,none⟩) (Kd.R_far (p:=⟨g,2,none⟩) (Kd.R_far (p:=⟨g,1,none⟩) (Kd.R_far (p:=⟨g,0,none⟩) h (fun _ hk => hk.2) u0) (fun _ hk => hk.2) u1) (fun _ hk => hk.2) u2) (fun _ hk => hk.2) u3) (fun _ hk => hk.2) u4) (fun _ hk => hk.2) u5) (fun _ hk => hk.2) u6) (fun _ hk => hk.2) u7) (fun _ hk => hk.2) u8) (fun _ hk => hk.2) u9) (fun _ hk => hk.2) u10
theorem nk (h : Zz (Kd.N d e w1 base ok v xs)) (k : Kd.N d e w1 base ok v xs -> Kd.N d e W base ok v xs:=by intro h_; (with_reducible repeat (first | apply Kd.N_alloc | apply Kd.N_drewN | apply Kd.N_drew)); exact h_) : Kd.N d e W base ok v xs:=k h.out
theorem nb (h : Zz (Kd.N d e w1 base ok v xs)) (hb : Below W.heap.size W w2) (k : Kd.N d e w1 base ok v xs -> Kd.N d e W base ok v xs:=by intro h_; (with_reducible repeat (first | apply Kd.N_alloc | apply Kd.N_drewN | apply Kd.N_drew)); exact h_) : Zz (Kd.N d e w2 base ok v xs):=⟨Kd.N_below (k h.out) hb⟩
theorem ck (h : Zz (Kd.C d w1 A n xs)) (k : Kd.C d w1 A n xs -> Kd.C d W A n xs:=by intro h_; repeat (first | (with_reducible exact h_) | (with_reducible refine Kd.C_alloc ?_ _) | (with_reducible refine Kd.C_drewN ?_ _) | (with_reducible refine Kd.C_drew ?_) | exact h_)) : Kd.C d W A n xs:=k h.out
theorem cn {c : Nat} (h : Zz (Kd.N d e w1 base ok (.slice A n c) xs)) (k : Kd.C d w1 A xs.length xs -> Kd.C d W A xs.length xs:=by intro h_; repeat (first | exact h_ | (with_reducible refine Kd.C_alloc ?_ _) | (with_reducible refine Kd.C_drewN ?_ _) | (with_reducible refine Kd.C_drew ?_))) : Kd.C d W A xs.length xs:=k (Kd.N_reads' h.out).2.2
theorem cr {c : Nat} (h : Zz (Kd.R d e w1 base ok (.slice A n c) xs)) (k : Kd.C d w1 A xs.length xs -> Kd.C d W A xs.length xs:=by intro h_; repeat (first | exact h_ | (with_reducible refine Kd.C_alloc ?_ _) | (with_reducible refine Kd.C_drewN ?_ _) | (with_reducible refine Kd.C_drew ?_))) : Kd.C d W A xs.length xs:=k (Kd.R_reads' h.out).2.2
theorem cs {c : Nat} (h : Zz (Kd.S d e w1 base ok (.slice A n c) xs)) (k : Kd.C d w1 A xs.length xs -> Kd.C d W A xs.length xs:=by intro h_; repeat (first | exact h_ | (with_reducible refine Kd.C_alloc ?_ _) | (with_reducible refine Kd.C_drewN ?_ _) | (with_reducible refine Kd.C_drew ?_))) : Kd.C d W A xs.length xs:=k (Kd.S_reads' h.out).2.2
end
end
end Go.Proofs.YtlllghajjamdpaaGreatDoor.L
end

section
namespace Go.Proofs.YtlllghajjamdpaaGreatDoor.L
open Go.RowKit
set_option linter.unusedVariables false
set_option linter.unusedSimpArgs false
set_option maxHeartbeats 40000000
set_option maxRecDepth 1000000
section
def GT (w : World) : Prop:=Lib.Utf8Tabs 0 1 w
theorem GT.below {w w' : World} (h : GT w) (hb : Below w.heap.size w w') : GT w':=Go.Proofs.Utf8Tabs_below h hb
end
end Go.Proofs.YtlllghajjamdpaaGreatDoor.L
end

section
namespace Go.Proofs.YtlllghajjamdpaaGreatDoor.L
open Go.RowKit Go.Proofs.YtlllghajjamdpaaGreatDoorW.PrintWords Go.Proofs.YtlllghajjamdpaaGreatDoorW.PrintLast Go.Proofs.YtlllghajjamdpaaGreatDoorW.PrintMore
set_option linter.unusedVariables false
set_option linter.unusedSimpArgs false
set_option maxHeartbeats 40000000
set_option maxRecDepth 1000000
section
attribute [local go_sem] Qbm Qbk Qbu Qbt Qbc Qbb Qbl Qbj
theorem eqAElem (d : Nat) (w : World) (x0 y0 : Int) (x1 y1 : Int) (x2 y2 : Int) :
  (Op.equalIn (d + 2) 32 (.agg #[.int .i64 x0, .int .i64 x1, .int .i64 x2]) (.agg #[.int .i64 y0, .int .i64 y1, .int .i64 y2])).run Tryz.prog w = .ok (x0 == y0 && (x1 == y1 && (x2 == y2))) w:=by
 refine eqA_of Tryz.underlying32 (by kernel_rfl) ?_
 refine eqf_cons (by rfl) (by go_simp; rfl) (by go_simp; rfl) (by go_simp) ?_
 refine eqf_cons (by rfl) (by go_simp; rfl) (by go_simp; rfl) (by go_simp) ?_
 exact eqf_last (by rfl) (by go_simp; rfl) (by go_simp; rfl) (by go_simp)
end
section
attribute [local go_sem] Qbm Qbk Qbu Qbt Qbc Qbb Qbl Qbj
attribute [local go_sem high] eqAElem
def text_Is.f (a0 : Int) : Option (Bool):=if a0 = 10 then (some true) else (if a0 < 32 then (some false) else (if a0 > 1114111 then (some false) else (if a0 = 127 then (some false) else (if a0 = 65533 then (some false) else (if a0 <= 55295 then (some true) else (some (decide (a0 >= 57344))))))))
theorem text_Is.calls (a0 : Int) (r : Bool) (w : World) (h : text_Is.f a0 = some r) :
  Calls Tryz.prog 108 #[.int .i32 a0] w fun e w' => e = .returned (.bool r) /\ Drawn0 w w':=by
 unfold text_Is.f at h; have H:=h
 clear h
 by_cases c2 : a0 = 10
 ·rw [if_pos c2] at H
  obtain ⟨c2b0,c2b1⟩:=bT c2
  clear c2
  obtain rfl:=Zo H
  go_enter Tryz.func108,Tryz.ntmps108
  go_wp2
  go_ret
  exact ⟨rf,by repeat (first | exact Drawn0.refl _ | apply Drawn0.step)⟩
 rw [if_neg c2] at H
 obtain ⟨c2b0,c2b1⟩:=bF c2
 by_cases c3 : a0 < 32
 ·rw [if_pos c3] at H
  have c3b0:=Zd c3
  clear c3
  obtain rfl:=Zo H
  go_enter Tryz.func108,Tryz.ntmps108
  go_wp2
  go_ret
  exact ⟨rf,by repeat (first | exact Drawn0.refl _ | apply Drawn0.step)⟩
 rw [if_neg c3] at H
 have c3b0:=Ze c3
 clear c3
 by_cases c4 : a0 > 1114111
 ·rw [if_pos c4] at H
  have c4b0:=Zd c4
  clear c4
  obtain rfl:=Zo H
  go_enter Tryz.func108,Tryz.ntmps108
  go_wp2
  go_ret
  exact ⟨rf,by repeat (first | exact Drawn0.refl _ | apply Drawn0.step)⟩
 rw [if_neg c4] at H
 have c4b0:=Ze c4
 clear c4
 by_cases c5 : a0 = 127
 ·rw [if_pos c5] at H
  obtain ⟨c5b0,c5b1⟩:=bT c5
  clear c5
  obtain rfl:=Zo H
  go_enter Tryz.func108,Tryz.ntmps108
  go_wp2
  go_ret
  exact ⟨rf,by repeat (first | exact Drawn0.refl _ | apply Drawn0.step)⟩
 rw [if_neg c5] at H
 obtain ⟨c5b0,c5b1⟩:=bF c5
 by_cases c6 : a0 = 65533
 ·rw [if_pos c6] at H
  obtain ⟨c6b0,c6b1⟩:=bT c6
  clear c6
  obtain rfl:=Zo H
  go_enter Tryz.func108,Tryz.ntmps108
  go_wp2
  go_ret
  exact ⟨rf,by repeat (first | exact Drawn0.refl _ | apply Drawn0.step)⟩
 rw [if_neg c6] at H
 obtain ⟨c6b0,c6b1⟩:=bF c6
 by_cases c7 : a0 <= 55295
 ·rw [if_pos c7] at H
  have c7b0:=Zd c7
  clear c7
  obtain rfl:=Zo H
  go_enter Tryz.func108,Tryz.ntmps108
  go_wp2
  go_ret
  exact ⟨rf,by repeat (first | exact Drawn0.refl _ | apply Drawn0.step)⟩
 rw [if_neg c7] at H
 have c7b0:=Ze c7
 clear c7
 obtain rfl:=Zo H
 go_enter Tryz.func108,Tryz.ntmps108
 go_wp2
 go_ret
 exact ⟨rf,by repeat (first | exact Drawn0.refl _ | apply Drawn0.step)⟩
def text_bad.f (a0 : Int) : Option (Bool):=(text_Is.f a0).bind fun t105 => (some (!t105))
theorem text_bad.calls (a0 : Int) (r : Bool) (w : World) (h : text_bad.f a0 = some r) :
  Calls Tryz.prog 77 #[.int .i32 a0] w fun e w' => e = .returned (.bool r) /\ Drawn0 w w':=by
 unfold text_bad.f at h; have H:=h
 clear h
 obtain ⟨t105,A2,H⟩:=bE H
 obtain rfl:=Zo H
 go_enter Tryz.func77,Tryz.ntmps77
 go_wp2_with (first | ((with_reducible refine Qac (f:=108) rfl ?_); refine gl (some 4) Tryz.func108 #[.int .i32 a0] (h := ?_); (with_reducible refine (text_Is.calls a0 t105 _ A2.out).mono ?_); rintro e w' ⟨rfl,⟨nd,rfl⟩⟩; refine ⟨_,rfl, ?_⟩))
 go_ret
 exact ⟨rf,by repeat (first | exact Drawn0.refl _ | apply Drawn0.step)⟩
def tree_of.f (a0_0 : Int) (a0_1 : Int) (a0_2 : Int) : Option (Int × Int):=some (a0_0,a0_1)
theorem tree_of.calls (a0_0 : Int) (a0_1 : Int) (a0_2 : Int) (r1 : Int) (r2 : Int) (w : World) (h : tree_of.f a0_0 a0_1 a0_2 = some (r1,r2)) :
  Calls Tryz.prog 129 #[.agg #[.int .i64 a0_0, .int .i64 a0_1, .int .i64 a0_2]] w fun e w' => e = .returned (.agg #[.int .i64 r1, .int .i64 r2]) /\ Below w.heap.size w w':=by
 have hu32:=Tryz.underlying32
 have hu122:=Tryz.underlying122
 have HB:=Zz.k (Below.refl w.heap.size w)
 unfold tree_of.f at h; have H:=h
 clear h
 simp only [Option.some.injEq,Prod.mk.injEq] at H
 obtain ⟨rfl,rfl⟩:=H
 go_enter Tryz.func129,Tryz.ntmps129
 go_wp2_with (first | ((with_reducible refine Qaf (N:=1) rfl ?_); refine bx 1 #[.int .i64 a0_0, .int .i64 a0_1, .int .i64 a0_2] 32 (h := ?_); intro gb106 hg w2 hbox hb; have BK106:=Zz.k (hbox); have GW106:=bz HB hg; have GE106:=bz HB hg; replace HB:=bs HB hb; clear hb hbox hg) | ((with_reducible refine Qaf (N:=2) rfl ?_); refine bx 2 #[.int .i64 0, .int .i64 0] 122 (h := ?_); intro gb107 hg w3 hbox hb; have BK107:=Zz.k (hbox); have GW107:=bz HB hg; have GE107:=bz HB hg; have NB106_107:=bn BK106 hg; have NB107_106:=bm BK106 hg; replace BK106:=bl BK106 hb; replace HB:=bs HB hb; clear hb hbox hg; have hnb4:=NB106_107.out; have hnc4:=NB107_106.out; obtain ⟨_,_,_,_,_,_⟩:=kc3 BK106; obtain ⟨_,_,_,_⟩:=kc2 BK107))
 refine bodyPost_ret (results_cell_row rfl _ _ gb107 122 #[.int .i64 a0_0, .int .i64 a0_1] (0,0) _ rfl (bp (bp (kk BK107) 0) 1) Tryz.underlying122 rfl (by kernel_rfl)) rfl ?_
 exact ⟨re,bw HB⟩
end
section
def Qca (s : ByteArray) : Nat -> Nat -> List Int
 | 0,_ => []
 | f + 1,pos => if pos < s.size then ((Utf8.decode s pos).1 : Int) :: Qca s f (pos + (Utf8.decode s pos).2) else []
def Qba (s : ByteArray) : List Int:=Qca s s.size 0
def runeOk (r : Int) : Bool:=r == 10 || (decide (32 <= r) && decide (r <= 1114111) && r != 127 && r != 65533 && (decide (r <= 55295) || decide (57344 <= r)))
def Qbq (s : ByteArray) : Bool:=(Qba s).all runeOk
def badFrom (s : ByteArray) : Nat -> Nat -> Int
 | 0,_ => -1
 | f + 1,pos => if pos < s.size then (if runeOk (Utf8.decode s pos).1 then badFrom s f (pos + (Utf8.decode s pos).2) else (pos : Int)) else -1
theorem badFrom_end (s : ByteArray) (f pos : Nat) (h : ¬ pos < s.size) : badFrom s f pos = -1:=by cases f <;> simp [badFrom,h]
theorem badFrom_all (s : ByteArray) : ∀ f pos,decide (0 <= badFrom s f pos) = !(Qca s f pos).all runeOk
 | 0,_ => rfl
 | f + 1,pos => by
  unfold badFrom Qca
  by_cases h : pos < s.size
  ·simp only [h,if_true,List.all_cons]
   cases hr : runeOk (Utf8.decode s pos).1
   ·simp
   ·simp only [if_true,Bool.true_and]; exact badFrom_all s f _
  ·simp [h]
theorem runeCountFrom_dec (s : ByteArray) : ∀ f pos,Lib.runeCountFrom s f pos = (Qca s f pos).length
 | 0,_ => rfl
 | f + 1,pos => by
  unfold Lib.runeCountFrom Qca
  by_cases h : pos < s.size
  ·simp only [h,if_true,List.length_cons,runeCountFrom_dec s f]; omega
  ·simp [h]
theorem runeCount_dec (s : ByteArray) : Lib.runeCount s = (Qba s).length:=runeCountFrom_dec s _ _
theorem text_Is_f (r : Int) : text_Is.f r = some (runeOk r):=by
 unfold text_Is.f runeOk
 by_cases h1 : r = 10
 ·simp [h1]
 ·by_cases h2 : r < 32
  ·have h2' : ¬ 32 <= r:=by omega
   simp [h1,h2,h2']
  ·by_cases h3 : r > 1114111
   ·have h3' : ¬ r <= 1114111:=by omega
    simp [h1,h2,h3,h3']
   ·by_cases h4 : r = 127
    ·simp [h4]
    ·by_cases h5 : r = 65533
     ·simp [h5]
     ·have h2' : 32 <= r:=by omega
      have h3' : r <= 1114111:=by omega
      have b1 : (r == 10) = false:=by simpa using h1
      have b4 : (r != 127) = true:=by simpa using h4
      have b5 : (r != 65533) = true:=by simpa using h5
      by_cases h6 : r <= 55295
      ·simp [h1,h2,h3,h4,h5,h6,h2',h3',b1,b4,b5]
      ·simp [h1,h2,h3,h4,h5,h6,h2',h3',b1,b4,b5]
theorem text_bad_f (r : Int) : text_bad.f r = some (!runeOk r):=by
 unfold text_bad.f
 rw [text_Is_f]
 simp
def utf8_RuneCountInString.f (a0 : ByteArray) : Option (Int):=if a0.size < 9223372036854775807 then some ((Qba a0).length : Int) else none
theorem runeCount_calls (s : ByteArray) (w : World) (hs : s.size < 9223372036854775807) :
  Calls Tryz.prog 48 #[.string s] w fun e w' => e = .returned (.int .i64 (Lib.runeCount s)) /\ ∃ pos,w' = w.iter s pos:=by
 go_enter Tryz.func48,Tryz.ntmps48
 go_wp2
 go_loopw [2] (fun n w' => ∃ (pos b acc : Nat),w' = w.iter s pos /\ n = .int .i64 acc /\ acc + Lib.runeCountFrom s b pos = Lib.runeCount s /\ s.size <= pos + b /\ acc <= pos) (fun _ w' => s.size - w'.iterPos w.heap.size)
 case atStart => exact ⟨0,s.size,0,rfl,rfl,by simp [Lib.runeCount],by omega,Nat.le_refl _⟩
 case round =>
  obtain ⟨pos,b,acc,rfl,rfl,hc,hb,ha⟩:=hrel
  by_cases hp : pos < s.size
  ·have hnx : ∀ ty,(Instr.next (.pointer (some ⟨w.heap.size,0,none⟩)) true ty).run Tryz.prog (w.iter s pos) = _:=fun ty => run_next_any w s pos ty hp
   have hwd:=Lib.decode_width_pos s pos hp
   go_wp2
   go_roundw
   case rel =>
    cases b with
    | zero => omega
    | succ b =>
     refine ⟨pos + (Utf8.decode s pos).2,b,acc + 1,rfl,by go_num, ?_,by omega,by omega⟩
     rw [<- hc]
     simp [Lib.runeCountFrom,hp]
     omega
   case measure =>
    simp
    omega
  ·have hnx : ∀ ty,(Instr.next (.pointer (some ⟨w.heap.size,0,none⟩)) true ty).run Tryz.prog (w.iter s pos) = _:=fun ty => run_next_end w s pos ty hp
   go_wp2
   go_ret
   rw [Lib.runeCountFrom_end s b pos hp,Nat.add_zero] at hc
   subst hc
   exact ⟨rfl,_,rfl⟩
theorem below_iter (w : World) (s : ByteArray) (pos : Nat) : Below w.heap.size w (w.iter s pos):=(Below.refl _ w).alloc (Nat.le_refl _) _
theorem utf8_RuneCountInString.calls (a0 : ByteArray) (r : Int) (w : World) (h : utf8_RuneCountInString.f a0 = some r) :
  Calls Tryz.prog 48 #[.string a0] w fun e w' => e = .returned (.int .i64 r) /\ Below w.heap.size w w':=by
 unfold utf8_RuneCountInString.f at h
 split at h
 ·obtain rfl:=Zo h
  refine (runeCount_calls a0 w ‹_›).mono ?_
  rintro e w' ⟨rfl,pos,rfl⟩
  exact ⟨by rw [runeCount_dec],below_iter w a0 pos⟩
 ·cases h
theorem bad_calls (r : Nat) (w : World) : Calls Tryz.prog 77 #[.int .i32 (r : Int)] w fun e w' => e = .returned (.bool (!runeOk r)) /\ Below w.heap.size w w':=by
 refine (text_bad.calls (r : Int) (!runeOk r) w (text_bad_f _)).mono ?_
 rintro e w' ⟨rfl,hd⟩
 exact ⟨rfl,by first | exact hd | exact hd.below⟩
theorem indexFunc_bad (s : ByteArray) (w : World) :
  Calls Tryz.prog 130 #[.string s, .func (.func 77) #[] #[], .bool true] w fun e w' => e = .returned (.int .i64 (badFrom s s.size 0)) /\ Below w.heap.size w w':=by
 go_enter Tryz.func130,Tryz.ntmps130
 go_wp2
 go_loopg [] s.size (fun gf wx => ∃ pos : Nat,wx.heap[w.heap.size]? = some (.stringIter s pos) /\ Below w.heap.size w wx /\ badFrom s gf pos = badFrom s s.size 0 /\ s.size <= pos + gf)
 case atStart => exact ⟨0,World.iter_heap w s 0,(Below.refl _ w).alloc (Nat.le_refl _) _,rfl,by omega⟩
 case round =>
  obtain ⟨pos,hit,hbw,hleft,hfu⟩:=hrel
  by_cases hps : pos < s.size
  ·obtain ⟨g',rfl⟩ : ∃ g',gk = g' + 1:=⟨gk - 1,by omega⟩
   have hnx : ∀ ty,(Instr.next (.pointer (some ⟨w.heap.size,0,none⟩)) true ty).run Tryz.prog wr = _:=fun ty => Lib.run_next_any_at wr w.heap.size s pos ty hit hps
   have hwd:=Lib.width_pos s pos
   obtain ⟨R,hR⟩ : ∃ R,(Utf8.decode s pos).1 = R:=⟨_,rfl⟩
   obtain ⟨K,hK⟩ : ∃ K,(Utf8.decode s pos).2 = K:=⟨_,rfl⟩
   simp only [badFrom,hps,if_true,hR,hK] at hleft
   rw [hR,hK] at hnx
   rw [hK] at hwd
   have hit2:=Lib.iterAt_heap wr w.heap.size s pos (pos + K) hit
   have hbw2:=Lib.below_iterAt hbw (k:=w.heap.size) (Nat.le_refl _) s (pos + K)
   obtain ⟨W,hWd⟩ : ∃ W,wr.iterAt w.heap.size s (pos + K) = W:=⟨_,rfl⟩
   rw [hWd] at hnx hit2 hbw2
   have hlt : w.heap.size < W.heap.size:=(Array.getElem?_eq_some_iff.1 hit2).1
   have cS:=bad_calls R W
   cases hsp : runeOk (R : Int) <;> rw [hsp] at cS <;> simp only [hsp,if_true,Bool.false_eq_true,if_false] at hleft <;> simp only [Bool.not_false,Bool.not_true] at cS <;> clear hsp <;> have HL:=Zz.k hleft <;> clear hleft
   ·go_wp2_with (go_at_call 77; refine cS.mono ?_; rintro e W' ⟨rfl,hb'⟩)
    go_ret
    exact ⟨by rw [HL.out]; rfl,hbw2.trans (hb'.mono hbw2.size)⟩
   ·go_wp2_with (go_at_call 77; refine cS.mono ?_; rintro e W' ⟨rfl,hb'⟩)
    go_roundg g'
    case measure => omega
    case rel => exact ⟨pos + K,(hb'.block _ hlt).trans hit2,hbw2.trans (hb'.mono hbw2.size),HL.out,by omega⟩
  ·have hnx : ∀ ty,(Instr.next (.pointer (some ⟨w.heap.size,0,none⟩)) true ty).run Tryz.prog wr = _:=fun ty => Lib.run_next_end_at wr w.heap.size s pos ty hit hps
   rw [badFrom_end s gk pos hps] at hleft
   go_wp2
   go_ret
   exact ⟨by rw [<- hleft]; rfl,hbw⟩
theorem IndexFunc_bad (s : ByteArray) (w : World) :
  Calls Tryz.prog 107 #[.string s, .func (.func 77) #[] #[]] w fun e w' => e = .returned (.int .i64 (badFrom s s.size 0)) /\ Below w.heap.size w w':=by
 have cI:=indexFunc_bad s w
 go_enter Tryz.func107,Tryz.ntmps107
 go_wp2_with (go_at_call 130; refine cI.mono ?_; rintro e w' ⟨rfl,hb⟩)
 go_ret
 exact ⟨rfl,hb⟩
theorem ContainsFunc_bad (s : ByteArray) (w : World) :
  Calls Tryz.prog 76 #[.string s, .func (.func 77) #[] #[]] w fun e w' => e = .returned (.bool (!Qbq s)) /\ Below w.heap.size w w':=by
 have cI:=IndexFunc_bad s w
 have hI:=badFrom_all s s.size 0
 obtain ⟨I,eI⟩ : ∃ I,badFrom s s.size 0 = I:=⟨_,rfl⟩
 rw [eI] at cI hI
 have hf : (!Qbq s) = decide (0 <= I):=by rw [hI]; rfl
 rw [hf]
 clear hI hf eI
 go_enter Tryz.func76,Tryz.ntmps76
 go_wp2_with (go_at_call 107; refine cI.mono ?_; rintro e w' ⟨rfl,hb⟩)
 go_ret
 exact ⟨rfl,hb⟩
def text_May.f (a0 : ByteArray) : Option (Bool):=some (Qbq a0)
theorem text_May.calls (a0 : ByteArray) (r : Bool) (w : World) (h : text_May.f a0 = some r) :
  Calls Tryz.prog 46 #[.string a0] w fun e w' => e = .returned (.bool r) /\ Below w.heap.size w w':=by
 obtain rfl:=Zo h
 have cI:=ContainsFunc_bad a0 w
 obtain ⟨I,eI⟩ : ∃ I,Qbq a0 = I:=⟨_,rfl⟩
 rw [eI] at cI ⊢
 clear eI h
 go_enter Tryz.func46,Tryz.ntmps46
 go_wp2_with (go_at_call 76; refine cI.mono ?_; rintro e w' ⟨rfl,hb⟩)
 go_ret
 exact ⟨by simp,hb⟩
end
section
attribute [local go_sem] Qbm Qbk Qbu Qbt Qbc Qbb Qbl Qbj
def op_Size.f (a0_0 : Int) (a0_1 : Int) (a0_2 : Int) (a0_3 : Int) (a0_4 : Int) (a0_5 : Int) (a0_6 : ByteArray) (l0_7 : List (SElem)) (a0_8 : Int) (a0_9 : Int) (a0_10 : Int) : Option (Int):=(utf8_RuneCountInString.f a0_6).bind fun t109 => (some t109)
theorem op_Size.calls (a0_0 : Int) (a0_1 : Int) (a0_2 : Int) (a0_3 : Int) (a0_4 : Int) (a0_5 : Int) (a0_6 : ByteArray) (A0_7 : Option Addr) (c0_7 : Nat) (l0_7 : List (SElem)) (a0_8 : Int) (a0_9 : Int) (a0_10 : Int) (r : Int) (w : World) (hr0_7 : Kd.C Qap w A0_7 l0_7.length l0_7) (hc0_7 : l0_7.length <= c0_7) (h : op_Size.f a0_0 a0_1 a0_2 a0_3 a0_4 a0_5 a0_6 l0_7 a0_8 a0_9 a0_10 = some r) :
  Calls Tryz.prog 106 #[.agg #[.int .i64 a0_0, .int .i64 a0_1, .int .i64 a0_2, .int .i64 a0_3, .int .i64 a0_4, .int .i64 a0_5, .string a0_6, .slice A0_7 l0_7.length c0_7, .int .i64 a0_8, .int .i64 a0_9, .int .i64 a0_10]] w fun e w' => e = .returned (.int .i64 r) /\ Below w.heap.size w w':=by
 have hu34:=Tryz.underlying34
 have HR0_7:=Zz.k hr0_7
 have HC0_7:=Zz.k hc0_7
 clear hr0_7 hc0_7
 have HB:=Zz.k (Below.refl w.heap.size w)
 unfold op_Size.f at h; have H:=h
 clear h
 obtain ⟨t109,A2,H⟩:=bE H
 obtain rfl:=Zo H
 go_enter Tryz.func106,Tryz.ntmps106
 go_wp2_with (first | ((with_reducible refine Qaf (N:=1) rfl ?_); refine bx 1 #[.int .i64 a0_0, .int .i64 a0_1, .int .i64 a0_2, .int .i64 a0_3, .int .i64 a0_4, .int .i64 a0_5, .string a0_6, .slice A0_7 l0_7.length c0_7, .int .i64 a0_8, .int .i64 a0_9, .int .i64 a0_10] 34 (h := ?_); intro gb108 hg w3 hbox hb; have BK108:=Zz.k (hbox); have GW108:=bz HB hg; have GE108:=bz HB hg; replace HB:=bs HB hb; clear hb hbox hg; obtain ⟨_,_,_,_,_,_,_,_,_,_,_,_,_,_,_,_,_,_,_,_,_,_⟩:=kc11 BK108) | ((with_reducible refine Qac (f:=48) rfl ?_); refine gl (some 5) Tryz.func48 #[.string a0_6] (h := ?_); (with_reducible refine (utf8_RuneCountInString.calls a0_6 t109 _ A2.out).mono ?_); rintro e w5 ⟨rfl,hb⟩; refine ⟨_,rfl, ?_⟩; replace BK108:=bl BK108 hb; replace HB:=bs HB hb; clear hb))
 go_ret
 exact ⟨re,bw HB⟩
def op_At.f (a0_0 : Int) (a0_1 : Int) (a0_2 : Int) (a0_3 : Int) (a0_4 : Int) (a0_5 : Int) (a0_6 : ByteArray) (l0_7 : List (SElem)) (a0_8 : Int) (a0_9 : Int) (a0_10 : Int) (a1 : Int) : Option (Int × Int × Int):=some (a0_0,a0_1,a1)
theorem op_At.calls (a0_0 : Int) (a0_1 : Int) (a0_2 : Int) (a0_3 : Int) (a0_4 : Int) (a0_5 : Int) (a0_6 : ByteArray) (A0_7 : Option Addr) (c0_7 : Nat) (l0_7 : List (SElem)) (a0_8 : Int) (a0_9 : Int) (a0_10 : Int) (a1 : Int) (r1 : Int) (r2 : Int) (r3 : Int) (w : World) (hr0_7 : Kd.C Qap w A0_7 l0_7.length l0_7) (hc0_7 : l0_7.length <= c0_7) (h : op_At.f a0_0 a0_1 a0_2 a0_3 a0_4 a0_5 a0_6 l0_7 a0_8 a0_9 a0_10 a1 = some (r1,r2,r3)) :
  Calls Tryz.prog 109 #[.agg #[.int .i64 a0_0, .int .i64 a0_1, .int .i64 a0_2, .int .i64 a0_3, .int .i64 a0_4, .int .i64 a0_5, .string a0_6, .slice A0_7 l0_7.length c0_7, .int .i64 a0_8, .int .i64 a0_9, .int .i64 a0_10], .int .i64 a1] w fun e w' => e = .returned (.agg #[.int .i64 r1, .int .i64 r2, .int .i64 r3]) /\ Below w.heap.size w w':=by
 have hu34:=Tryz.underlying34
 have hu32:=Tryz.underlying32
 have HR0_7:=Zz.k hr0_7
 have HC0_7:=Zz.k hc0_7
 clear hr0_7 hc0_7
 have HB:=Zz.k (Below.refl w.heap.size w)
 unfold op_At.f at h; have H:=h
 clear h
 simp only [Option.some.injEq,Prod.mk.injEq] at H
 obtain ⟨rfl,rfl,rfl⟩:=H
 go_enter Tryz.func109,Tryz.ntmps109
 go_wp2_with (first | ((with_reducible refine Qaf (N:=2) rfl ?_); refine bx 2 #[.int .i64 a0_0, .int .i64 a0_1, .int .i64 a0_2, .int .i64 a0_3, .int .i64 a0_4, .int .i64 a0_5, .string a0_6, .slice A0_7 l0_7.length c0_7, .int .i64 a0_8, .int .i64 a0_9, .int .i64 a0_10] 34 (h := ?_); intro gb110 hg w3 hbox hb; have BK110:=Zz.k (hbox); have GW110:=bz HB hg; have GE110:=bz HB hg; replace HB:=bs HB hb; clear hb hbox hg) | ((with_reducible refine Qaf (N:=4) rfl ?_); refine bx 4 #[.int .i64 0, .int .i64 0, .int .i64 0] 32 (h := ?_); intro gb111 hg w4 hbox hb; have BK111:=Zz.k (hbox); have GW111:=bz HB hg; have GE111:=bz HB hg; have NB110_111:=bn BK110 hg; have NB111_110:=bm BK110 hg; replace BK110:=bl BK110 hb; replace HB:=bs HB hb; clear hb hbox hg; have hnb5:=NB110_111.out; have hnc5:=NB111_110.out; obtain ⟨_,_,_,_,_,_,_,_,_,_,_,_,_,_,_,_,_,_,_,_,_,_⟩:=kc11 BK110; obtain ⟨_,_,_,_,_,_⟩:=kc3 BK111))
 refine bodyPost_ret (results_cell_row rfl _ _ gb111 32 #[.int .i64 a0_0, .int .i64 a0_1, .int .i64 a1] (0,0) _ rfl (bp (bp (bp (kk BK111) 0) 1) 2) Tryz.underlying32 rfl (by kernel_rfl)) rfl ?_
 exact ⟨re,bw HB⟩
def op_IsSite.f (a0 : Int) : Option (Bool):=if a0 >= 1 then (some (decide (a0 <= 8))) else (some false)
theorem op_IsSite.calls (a0 : Int) (r : Bool) (w : World) (h : op_IsSite.f a0 = some r) :
  Calls Tryz.prog 45 #[.int .i64 a0] w fun e w' => e = .returned (.bool r) /\ Drawn0 w w':=by
 unfold op_IsSite.f at h; have H:=h
 clear h
 by_cases c2 : a0 >= 1
 ·rw [if_pos c2] at H
  have c2b0:=Zd c2
  clear c2
  obtain rfl:=Zo H
  go_enter Tryz.func45,Tryz.ntmps45
  go_wp2
  go_ret
  exact ⟨rf,by repeat (first | exact Drawn0.refl _ | apply Drawn0.step)⟩
 rw [if_neg c2] at H
 have c2b0:=Ze c2
 clear c2
 obtain rfl:=Zo H
 go_enter Tryz.func45,Tryz.ntmps45
 go_wp2
 go_ret
 exact ⟨rf,by repeat (first | exact Drawn0.refl _ | apply Drawn0.step)⟩
def op_Name.f (a0 : Int) (a1 : Int) : Option (Bool):=(op_IsSite.f a0).bind fun t112 => (if t112 = true then (if a1 >= 1 then (some (decide (a1 <= 268435456))) else (some false)) else (some false))
theorem op_Name.calls (a0 : Int) (a1 : Int) (r : Bool) (w : World) (h : op_Name.f a0 a1 = some r) :
  Calls Tryz.prog 126 #[.int .i64 a0, .int .i64 a1] w fun e w' => e = .returned (.bool r) /\ Drawn0 w w':=by
 unfold op_Name.f at h; have H:=h
 clear h
 obtain ⟨t112,A3,H⟩:=bE H
 by_cases c4 : t112 = true; rotate_left
 ·replace c4:=Zf c4
  subst c4
  rw [if_neg nft] at H
  obtain rfl:=Zo H
  go_enter Tryz.func126,Tryz.ntmps126
  go_wp2_with (first | ((with_reducible refine Qac (f:=45) rfl ?_); refine gl (some 6) Tryz.func45 #[.int .i64 a0] (h := ?_); (with_reducible refine (op_IsSite.calls a0 false _ A3.out).mono ?_); rintro e w' ⟨rfl,⟨nd,rfl⟩⟩; refine ⟨_,rfl, ?_⟩))
  go_ret
  exact ⟨rf,by repeat (first | exact Drawn0.refl _ | apply Drawn0.step)⟩
 subst c4
 rw [if_pos rfl] at H
 by_cases c5 : a1 >= 1
 ·rw [if_pos c5] at H
  have c5b0:=Zd c5
  clear c5
  obtain rfl:=Zo H
  go_enter Tryz.func126,Tryz.ntmps126
  go_wp2_with (first | ((with_reducible refine Qac (f:=45) rfl ?_); refine gl (some 6) Tryz.func45 #[.int .i64 a0] (h := ?_); (with_reducible refine (op_IsSite.calls a0 true _ A3.out).mono ?_); rintro e w' ⟨rfl,⟨nd,rfl⟩⟩; refine ⟨_,rfl, ?_⟩))
  go_ret
  exact ⟨rf,by repeat (first | exact Drawn0.refl _ | apply Drawn0.step)⟩
 rw [if_neg c5] at H
 have c5b0:=Ze c5
 clear c5
 obtain rfl:=Zo H
 go_enter Tryz.func126,Tryz.ntmps126
 go_wp2_with (first | ((with_reducible refine Qac (f:=45) rfl ?_); refine gl (some 6) Tryz.func45 #[.int .i64 a0] (h := ?_); (with_reducible refine (op_IsSite.calls a0 true _ A3.out).mono ?_); rintro e w' ⟨rfl,⟨nd,rfl⟩⟩; refine ⟨_,rfl, ?_⟩))
 go_ret
 exact ⟨rf,by repeat (first | exact Drawn0.refl _ | apply Drawn0.step)⟩
end
section
attribute [local go_sem] Qbm Qbk Qbu Qbt Qbc Qbb Qbl Qbj
attribute [local go_sem high] eqAElem
def op_IsElem.f (a0_0 : Int) (a0_1 : Int) (a0_2 : Int) : Option (Bool):=if (a0_0 == 0 && (a0_1 == 0 && (a0_2 == 0))) = true then (some true) else ((op_Name.f a0_0 a0_1).bind fun t114 => (if t114 = true then (if a0_2 >= 0 then (some (decide (a0_2 < 12))) else (some false)) else (some false)))
theorem op_IsElem.calls (a0_0 : Int) (a0_1 : Int) (a0_2 : Int) (r : Bool) (w : World) (h : op_IsElem.f a0_0 a0_1 a0_2 = some r) :
  Calls Tryz.prog 139 #[.agg #[.int .i64 a0_0, .int .i64 a0_1, .int .i64 a0_2]] w fun e w' => e = .returned (.bool r) /\ Below w.heap.size w w':=by
 have hu32:=Tryz.underlying32
 have HB:=Zz.k (Below.refl w.heap.size w)
 unfold op_IsElem.f at h; have H:=h
 clear h
 by_cases c2 : (a0_0 == 0 && (a0_1 == 0 && (a0_2 == 0))) = true
 ·rw [if_pos c2] at H
  have c2b0 : (a0_0 == 0 && (a0_1 == 0 && (a0_2 == 0))) = true:=c2
  (try (have c2b1 : decide (a0_0 = 0 && (a0_1 == 0 && (a0_2 == 0))) = true:=by simpa using c2))
  (try (have c2b2 : (a0_0 == 0 && (a0_1 == 0 && (a0_2 == 0))) = true:=by simpa using c2))
  clear c2
  obtain rfl:=Zo H
  go_enter Tryz.func139,Tryz.ntmps139
  go_wp2_with (first | ((with_reducible refine Qaf (N:=1) rfl ?_); refine bx 1 #[.int .i64 a0_0, .int .i64 a0_1, .int .i64 a0_2] 32 (h := ?_); intro gb113 hg w3 hbox hb; have BK113:=Zz.k (hbox); have GW113:=bz HB hg; have GE113:=bz HB hg; replace HB:=bs HB hb; clear hb hbox hg; obtain ⟨_,_,_,_,_,_⟩:=kc3 BK113))
  go_ret
  exact ⟨re,bw HB⟩
 rw [if_neg c2] at H
 have c2b0 : (a0_0 == 0 && (a0_1 == 0 && (a0_2 == 0))) = false:=by simpa using c2
 (try (have c2b1 : decide (a0_0 = 0 && (a0_1 == 0 && (a0_2 == 0))) = false:=by simpa using c2))
 (try (have c2b2 : (a0_0 == 0 && (a0_1 == 0 && (a0_2 == 0))) = false:=by simpa using c2))
 (try (have c2b3 : ¬ (a0_0 = 0 && (a0_1 == 0 && (a0_2 == 0))):=by simpa using c2))
 clear c2
 obtain ⟨t114,A5,H⟩:=bE H
 by_cases c6 : t114 = true; rotate_left
 ·replace c6:=Zf c6
  subst c6
  rw [if_neg nft] at H
  obtain rfl:=Zo H
  go_enter Tryz.func139,Tryz.ntmps139
  go_wp2_with (first | ((with_reducible refine Qaf (N:=1) rfl ?_); refine bx 1 #[.int .i64 a0_0, .int .i64 a0_1, .int .i64 a0_2] 32 (h := ?_); intro gb113 hg w12 hbox hb; have BK113:=Zz.k (hbox); have GW113:=bz HB hg; have GE113:=bz HB hg; replace HB:=bs HB hb; clear hb hbox hg; obtain ⟨_,_,_,_,_,_⟩:=kc3 BK113) | (go_at_call 126; (with_reducible refine (op_Name.calls a0_0 a0_1 false _ A5.out).mono ?_); rintro e w' ⟨rfl,⟨nd,rfl⟩⟩))
  go_ret
  exact ⟨re,bw HB⟩
 subst c6
 rw [if_pos rfl] at H
 by_cases c7 : a0_2 >= 0
 ·rw [if_pos c7] at H
  have c7b0:=Zd c7
  clear c7
  obtain rfl:=Zo H
  go_enter Tryz.func139,Tryz.ntmps139
  go_wp2_with (first | ((with_reducible refine Qaf (N:=1) rfl ?_); refine bx 1 #[.int .i64 a0_0, .int .i64 a0_1, .int .i64 a0_2] 32 (h := ?_); intro gb113 hg w8 hbox hb; have BK113:=Zz.k (hbox); have GW113:=bz HB hg; have GE113:=bz HB hg; replace HB:=bs HB hb; clear hb hbox hg; obtain ⟨_,_,_,_,_,_⟩:=kc3 BK113) | (go_at_call 126; (with_reducible refine (op_Name.calls a0_0 a0_1 true _ A5.out).mono ?_); rintro e w' ⟨rfl,⟨nd,rfl⟩⟩))
  go_ret
  exact ⟨re,bw HB⟩
 rw [if_neg c7] at H
 have c7b0:=Ze c7
 clear c7
 obtain rfl:=Zo H
 go_enter Tryz.func139,Tryz.ntmps139
 go_wp2_with (first | ((with_reducible refine Qaf (N:=1) rfl ?_); refine bx 1 #[.int .i64 a0_0, .int .i64 a0_1, .int .i64 a0_2] 32 (h := ?_); intro gb113 hg w10 hbox hb; have BK113:=Zz.k (hbox); have GW113:=bz HB hg; have GE113:=bz HB hg; replace HB:=bs HB hb; clear hb hbox hg; obtain ⟨_,_,_,_,_,_⟩:=kc3 BK113) | (go_at_call 126; (with_reducible refine (op_Name.calls a0_0 a0_1 true _ A5.out).mono ?_); rintro e w' ⟨rfl,⟨nd,rfl⟩⟩))
 go_ret
 exact ⟨re,bw HB⟩
def op_own.f (a0_0 : Int) (a0_1 : Int) (a0_2 : Int) (a0_3 : Int) (a0_4 : Int) (a0_5 : Int) (a0_6 : ByteArray) (l0_7 : List (SElem)) (a0_8 : Int) (a0_9 : Int) (a0_10 : Int) (a1_0 : Int) (a1_1 : Int) (a1_2 : Int) : Option (Bool):=if a1_0 = a0_0 then (some (a1_1 == a0_1)) else (some false)
theorem op_own.calls (a0_0 : Int) (a0_1 : Int) (a0_2 : Int) (a0_3 : Int) (a0_4 : Int) (a0_5 : Int) (a0_6 : ByteArray) (A0_7 : Option Addr) (c0_7 : Nat) (l0_7 : List (SElem)) (a0_8 : Int) (a0_9 : Int) (a0_10 : Int) (a1_0 : Int) (a1_1 : Int) (a1_2 : Int) (r : Bool) (w : World) (hr0_7 : Kd.C Qap w A0_7 l0_7.length l0_7) (hc0_7 : l0_7.length <= c0_7) (h : op_own.f a0_0 a0_1 a0_2 a0_3 a0_4 a0_5 a0_6 l0_7 a0_8 a0_9 a0_10 a1_0 a1_1 a1_2 = some r) :
  Calls Tryz.prog 140 #[.agg #[.int .i64 a0_0, .int .i64 a0_1, .int .i64 a0_2, .int .i64 a0_3, .int .i64 a0_4, .int .i64 a0_5, .string a0_6, .slice A0_7 l0_7.length c0_7, .int .i64 a0_8, .int .i64 a0_9, .int .i64 a0_10], .agg #[.int .i64 a1_0, .int .i64 a1_1, .int .i64 a1_2]] w fun e w' => e = .returned (.bool r) /\ Below w.heap.size w w':=by
 have hu34:=Tryz.underlying34
 have hu32:=Tryz.underlying32
 have HR0_7:=Zz.k hr0_7
 have HC0_7:=Zz.k hc0_7
 clear hr0_7 hc0_7
 have HB:=Zz.k (Below.refl w.heap.size w)
 unfold op_own.f at h; have H:=h
 clear h
 by_cases c3 : a1_0 = a0_0
 ·rw [if_pos c3] at H
  obtain ⟨c3b0,c3b1⟩:=bT c3
  clear c3
  obtain rfl:=Zo H
  go_enter Tryz.func140,Tryz.ntmps140
  go_wp2_with (first | ((with_reducible refine Qaf (N:=2) rfl ?_); refine bx 2 #[.int .i64 a0_0, .int .i64 a0_1, .int .i64 a0_2, .int .i64 a0_3, .int .i64 a0_4, .int .i64 a0_5, .string a0_6, .slice A0_7 l0_7.length c0_7, .int .i64 a0_8, .int .i64 a0_9, .int .i64 a0_10] 34 (h := ?_); intro gb115 hg w4 hbox hb; have BK115:=Zz.k (hbox); have GW115:=bz HB hg; have GE115:=bz HB hg; replace HB:=bs HB hb; clear hb hbox hg) | ((with_reducible refine Qaf (N:=3) rfl ?_); refine bx 3 #[.int .i64 a1_0, .int .i64 a1_1, .int .i64 a1_2] 32 (h := ?_); intro gb116 hg w5 hbox hb; have BK116:=Zz.k (hbox); have GW116:=bz HB hg; have GE116:=bz HB hg; have NB115_116:=bn BK115 hg; have NB116_115:=bm BK115 hg; replace BK115:=bl BK115 hb; replace HB:=bs HB hb; clear hb hbox hg; have hnb6:=NB116_115.out; have hnc6:=NB115_116.out; obtain ⟨_,_,_,_,_,_⟩:=kc3 BK116; obtain ⟨_,_,_,_,_,_,_,_,_,_,_,_,_,_,_,_,_,_,_,_,_,_⟩:=kc11 BK115))
  go_ret
  exact ⟨re,bw HB⟩
 rw [if_neg c3] at H
 obtain ⟨c3b0,c3b1⟩:=bF c3
 obtain rfl:=Zo H
 go_enter Tryz.func140,Tryz.ntmps140
 go_wp2_with (first | ((with_reducible refine Qaf (N:=2) rfl ?_); refine bx 2 #[.int .i64 a0_0, .int .i64 a0_1, .int .i64 a0_2, .int .i64 a0_3, .int .i64 a0_4, .int .i64 a0_5, .string a0_6, .slice A0_7 l0_7.length c0_7, .int .i64 a0_8, .int .i64 a0_9, .int .i64 a0_10] 34 (h := ?_); intro gb115 hg w9 hbox hb; have BK115:=Zz.k (hbox); have GW115:=bz HB hg; have GE115:=bz HB hg; replace HB:=bs HB hb; clear hb hbox hg) | ((with_reducible refine Qaf (N:=3) rfl ?_); refine bx 3 #[.int .i64 a1_0, .int .i64 a1_1, .int .i64 a1_2] 32 (h := ?_); intro gb116 hg w10 hbox hb; have BK116:=Zz.k (hbox); have GW116:=bz HB hg; have GE116:=bz HB hg; have NB115_116:=bn BK115 hg; have NB116_115:=bm BK115 hg; replace BK115:=bl BK115 hb; replace HB:=bs HB hb; clear hb hbox hg; have hnb11:=NB116_115.out; have hnc11:=NB115_116.out; obtain ⟨_,_,_,_,_,_⟩:=kc3 BK116; obtain ⟨_,_,_,_,_,_,_,_,_,_,_,_,_,_,_,_,_,_,_,_,_,_⟩:=kc11 BK115))
 go_ret
 exact ⟨re,bw HB⟩
def cmp_Or_int.l0 : Nat -> Int -> List Int -> Int -> Int -> Option (Int)
 | 0,_,_,_,_ => none
 | k + 1,x3,x6,x7,x8 => if x8 < x7 then (if 0 <= x8 then (if x8 < (x6.length : Int) then (if (rd x6 x8) = x3 then (cmp_Or_int.l0 k x3 x6 x7 (wrap64 (x8 + 1))) else (some (rd x6 x8))) else (none)) else (none)) else (some x3)
def cmp_Or_int.f (k : Nat) (l0 : List Int) : Option (Int):=cmp_Or_int.l0 k 0 l0 (l0.length : Int) 0
theorem cmp_Or_int.mono_l : ∀ k,(∀ y0 y1 y2 y3,LeO (cmp_Or_int.l0 k y0 y1 y2 y3) (cmp_Or_int.l0 (k + 1) y0 y1 y2 y3))
 | 0 => fun _ _ _ _ r h => by simp [cmp_Or_int.l0] at h
 | k + 1 => by
  have ih0:=cmp_Or_int.mono_l k
  ·intro y0 y1 y2 y3
   unfold cmp_Or_int.l0
   repeat' first
   | (with_reducible exact ih0 _ _ _ _)
   | (with_reducible exact LeO.refl _)
   | (with_reducible exact LeO.none _)
   | (with_reducible refine LeO.ite ?_ ?_)
   | (with_reducible refine LeO.bind ?_ (fun _ => ?_))
   | exact ih0 _ _ _ _
   | exact LeO.none _
   | refine LeO.ite ?_ ?_
   | refine LeO.bind ?_ (fun _ => ?_)
theorem cmp_Or_int.mono : ∀ a0 k,LeO (cmp_Or_int.f k a0) (cmp_Or_int.f (k + 1) a0):=by
 intro a0 k
 have ih0:=cmp_Or_int.mono_l k
 unfold cmp_Or_int.f
 repeat' first
   | (with_reducible exact ih0 _ _ _ _)
   | (with_reducible exact LeO.refl _)
   | (with_reducible exact LeO.none _)
   | (with_reducible refine LeO.ite ?_ ?_)
   | (with_reducible refine LeO.bind ?_ (fun _ => ?_))
   | exact ih0 _ _ _ _
   | exact LeO.none _
   | refine LeO.ite ?_ ?_
   | refine LeO.bind ?_ (fun _ => ?_)
theorem cmp_Or_int.calls (k : Nat) (A0 : Option Addr) (c0 : Nat) (l0 : List Int) (r : Int) (w : World) (hr0 : Kd.C (Kd.int .i64) w A0 l0.length l0) (hc0 : l0.length <= c0) (h : cmp_Or_int.f k l0 = some r) :
  Calls Tryz.prog 85 #[.slice A0 l0.length c0] w fun e w' => e = .returned (.int .i64 r) /\ Drawn0 w w':=by
 have HR0:=Zz.k hr0
 have HC0:=Zz.k hc0
 clear hr0 hc0
 unfold cmp_Or_int.f at h; have H:=h
 clear h
 have H':=Zz.k H
 clear H
 go_enter Tryz.func85,Tryz.ntmps85
 go_wp2
 go_loopg [8] k (fun kq v8 w' => ∃ (x8_1 : Int),v8 = .int .i64 x8_1 /\ Zz (cmp_Or_int.l0 kq 0 l0 (l0.length : Int) x8_1 = some r) /\ Zz (kq <= k) /\ Drawn0 w w')
 case atStart => exact ⟨(0),rf,H',⟨Nat.le_refl _⟩,by repeat (first | exact Drawn0.refl _ | apply Drawn0.step)⟩
 case round =>
  clear H'
  obtain ⟨x8_1,rfl,HA,HK1,⟨m1,rfl⟩⟩:=hrel
  cases gk with
  | zero => exact absurd HA.out (by simp [cmp_Or_int.l0])
  | succ k1 =>
   have H:=HA.out
   clear HA
   simp only [cmp_Or_int.l0] at H
   by_cases c2 : x8_1 < (l0.length : Int); rotate_left
   ·rw [if_neg c2] at H
    have c2b0:=Ze c2
    clear c2
    obtain rfl:=Zo H
    go_wp2
    go_ret
    exact ⟨rf,by repeat (first | exact Drawn0.refl _ | apply Drawn0.step)⟩
   rw [if_pos c2] at H
   have c2b0:=Zd c2
   clear c2
   by_cases c3 : 0 <= x8_1; rotate_left
   ·rw [if_neg c3] at H
    exact absurd H (by simp)
   rw [if_pos c3] at H
   have c3b0:=Zd c3
   clear c3
   by_cases c4 : x8_1 < (l0.length : Int); rotate_left
   ·rw [if_neg c4] at H
    exact absurd H (by simp)
   rw [if_pos c4] at H
   have c4b0:=Zd c4
   clear c4
   by_cases c5 : (rd l0 x8_1) = 0; rotate_left
   ·rw [if_neg c5] at H
    obtain ⟨c5b0,c5b1⟩:=bF c5
    obtain rfl:=Zo H
    have p117 : 0 <= (x8_1 : Int):=od
    have q117 : x8_1 < (l0.length : Int):=od
    obtain ⟨ad117,e117,hx117_0⟩:=Kd.at_int HR0.out x8_1 p117 q117
    cases e117
    replace p117:=eq_true p117
    replace q117:=eq_true q117
    go_wp2
    go_ret
    exact ⟨rf,by repeat (first | exact Drawn0.refl _ | apply Drawn0.step)⟩
   rw [if_pos c5] at H
   obtain ⟨c5b0,c5b1⟩:=bT c5
   clear c5
   have H':=Zz.k H
   clear H
   have p117 : 0 <= (x8_1 : Int):=od
   have q117 : x8_1 < (l0.length : Int):=od
   obtain ⟨ad117,e117,hx117_0⟩:=Kd.at_int HR0.out x8_1 p117 q117
   cases e117
   replace p117:=eq_true p117
   replace q117:=eq_true q117
   go_wp2
   go_roundg k1
   case measure => have:=HK1.out; omega
   case rel => exact ⟨(wrap64 (x8_1 + 1)),rf,H',⟨by have:=HK1.out; omega⟩,by repeat (first | exact Drawn0.refl _ | apply Drawn0.step)⟩
def cmp_isNaN_int.f (a0 : Int) : Option (Bool):=some (a0 != a0)
theorem cmp_isNaN_int.calls (a0 : Int) (r : Bool) (w : World) (h : cmp_isNaN_int.f a0 = some r) :
  Calls Tryz.prog 123 #[.int .i64 a0] w fun e w' => e = .returned (.bool r) /\ Drawn0 w w':=by
 unfold cmp_isNaN_int.f at h; have H:=h
 clear h
 obtain rfl:=Zo H
 go_enter Tryz.func123,Tryz.ntmps123
 go_wp2
 go_ret
 exact ⟨rf,by repeat (first | exact Drawn0.refl _ | apply Drawn0.step)⟩
def cmp_Compare_int.f (a0 : Int) (a1 : Int) : Option (Int):=(cmp_isNaN_int.f a0).bind fun t118 => ((cmp_isNaN_int.f a1).bind fun t119 => (if t118 = true then (if t119 = true then (some 0) else (some (-1))) else (if t119 = true then (some 1) else (if a0 < a1 then (some (-1)) else (if a0 > a1 then (some 1) else (some 0))))))
theorem cmp_Compare_int.calls (a0 : Int) (a1 : Int) (r : Int) (w : World) (h : cmp_Compare_int.f a0 a1 = some r) :
  Calls Tryz.prog 86 #[.int .i64 a0, .int .i64 a1] w fun e w' => e = .returned (.int .i64 r) /\ Drawn0 w w':=by
 unfold cmp_Compare_int.f at h; have H:=h
 clear h
 obtain ⟨t118,A3,H⟩:=bE H
 obtain ⟨t119,A4,H⟩:=bE H
 by_cases c5 : t118 = true
 ·subst c5
  rw [if_pos rfl] at H
  by_cases c6 : t119 = true
  ·subst c6
   rw [if_pos rfl] at H
   obtain rfl:=Zo H
   go_enter Tryz.func86,Tryz.ntmps86
   go_wp2_with (first | ((with_reducible refine Qac (f:=123) rfl ?_); refine gl (some 8) Tryz.func123 #[.int .i64 a0] (h := ?_); (with_reducible refine (cmp_isNaN_int.calls a0 true _ A3.out).mono ?_); rintro e w' ⟨rfl,⟨nd,rfl⟩⟩; refine ⟨_,rfl, ?_⟩) | ((with_reducible refine Qac (f:=123) rfl ?_); refine gl (some 10) Tryz.func123 #[.int .i64 a1] (h := ?_); (with_reducible refine (cmp_isNaN_int.calls a1 true _ A4.out).mono ?_); rintro e w' ⟨rfl,⟨nd,rfl⟩⟩; refine ⟨_,rfl, ?_⟩))
   go_ret
   exact ⟨rf,by repeat (first | exact Drawn0.refl _ | apply Drawn0.step)⟩
  replace c6:=Zf c6
  subst c6
  rw [if_neg nft] at H
  obtain rfl:=Zo H
  go_enter Tryz.func86,Tryz.ntmps86
  go_wp2_with (first | ((with_reducible refine Qac (f:=123) rfl ?_); refine gl (some 8) Tryz.func123 #[.int .i64 a0] (h := ?_); (with_reducible refine (cmp_isNaN_int.calls a0 true _ A3.out).mono ?_); rintro e w' ⟨rfl,⟨nd,rfl⟩⟩; refine ⟨_,rfl, ?_⟩) | ((with_reducible refine Qac (f:=123) rfl ?_); refine gl (some 10) Tryz.func123 #[.int .i64 a1] (h := ?_); (with_reducible refine (cmp_isNaN_int.calls a1 false _ A4.out).mono ?_); rintro e w' ⟨rfl,⟨nd,rfl⟩⟩; refine ⟨_,rfl, ?_⟩))
  go_ret
  exact ⟨rf,by repeat (first | exact Drawn0.refl _ | apply Drawn0.step)⟩
 replace c5:=Zf c5
 subst c5
 rw [if_neg nft] at H
 by_cases c7 : t119 = true
 ·subst c7
  rw [if_pos rfl] at H
  obtain rfl:=Zo H
  go_enter Tryz.func86,Tryz.ntmps86
  go_wp2_with (first | ((with_reducible refine Qac (f:=123) rfl ?_); refine gl (some 8) Tryz.func123 #[.int .i64 a0] (h := ?_); (with_reducible refine (cmp_isNaN_int.calls a0 false _ A3.out).mono ?_); rintro e w' ⟨rfl,⟨nd,rfl⟩⟩; refine ⟨_,rfl, ?_⟩) | ((with_reducible refine Qac (f:=123) rfl ?_); refine gl (some 10) Tryz.func123 #[.int .i64 a1] (h := ?_); (with_reducible refine (cmp_isNaN_int.calls a1 true _ A4.out).mono ?_); rintro e w' ⟨rfl,⟨nd,rfl⟩⟩; refine ⟨_,rfl, ?_⟩))
  go_ret
  exact ⟨rf,by repeat (first | exact Drawn0.refl _ | apply Drawn0.step)⟩
 replace c7:=Zf c7
 subst c7
 rw [if_neg nft] at H
 by_cases c8 : a0 < a1
 ·rw [if_pos c8] at H
  have c8b0:=Zd c8
  clear c8
  obtain rfl:=Zo H
  go_enter Tryz.func86,Tryz.ntmps86
  go_wp2_with (first | ((with_reducible refine Qac (f:=123) rfl ?_); refine gl (some 8) Tryz.func123 #[.int .i64 a0] (h := ?_); (with_reducible refine (cmp_isNaN_int.calls a0 false _ A3.out).mono ?_); rintro e w' ⟨rfl,⟨nd,rfl⟩⟩; refine ⟨_,rfl, ?_⟩) | ((with_reducible refine Qac (f:=123) rfl ?_); refine gl (some 10) Tryz.func123 #[.int .i64 a1] (h := ?_); (with_reducible refine (cmp_isNaN_int.calls a1 false _ A4.out).mono ?_); rintro e w' ⟨rfl,⟨nd,rfl⟩⟩; refine ⟨_,rfl, ?_⟩))
  go_ret
  exact ⟨rf,by repeat (first | exact Drawn0.refl _ | apply Drawn0.step)⟩
 rw [if_neg c8] at H
 have c8b0:=Ze c8
 clear c8
 by_cases c9 : a0 > a1
 ·rw [if_pos c9] at H
  have c9b0:=Zd c9
  clear c9
  obtain rfl:=Zo H
  go_enter Tryz.func86,Tryz.ntmps86
  go_wp2_with (first | ((with_reducible refine Qac (f:=123) rfl ?_); refine gl (some 8) Tryz.func123 #[.int .i64 a0] (h := ?_); (with_reducible refine (cmp_isNaN_int.calls a0 false _ A3.out).mono ?_); rintro e w' ⟨rfl,⟨nd,rfl⟩⟩; refine ⟨_,rfl, ?_⟩) | ((with_reducible refine Qac (f:=123) rfl ?_); refine gl (some 10) Tryz.func123 #[.int .i64 a1] (h := ?_); (with_reducible refine (cmp_isNaN_int.calls a1 false _ A4.out).mono ?_); rintro e w' ⟨rfl,⟨nd,rfl⟩⟩; refine ⟨_,rfl, ?_⟩))
  go_ret
  exact ⟨rf,by repeat (first | exact Drawn0.refl _ | apply Drawn0.step)⟩
 rw [if_neg c9] at H
 have c9b0:=Ze c9
 clear c9
 obtain rfl:=Zo H
 go_enter Tryz.func86,Tryz.ntmps86
 go_wp2_with (first | ((with_reducible refine Qac (f:=123) rfl ?_); refine gl (some 8) Tryz.func123 #[.int .i64 a0] (h := ?_); (with_reducible refine (cmp_isNaN_int.calls a0 false _ A3.out).mono ?_); rintro e w' ⟨rfl,⟨nd,rfl⟩⟩; refine ⟨_,rfl, ?_⟩) | ((with_reducible refine Qac (f:=123) rfl ?_); refine gl (some 10) Tryz.func123 #[.int .i64 a1] (h := ?_); (with_reducible refine (cmp_isNaN_int.calls a1 false _ A4.out).mono ?_); rintro e w' ⟨rfl,⟨nd,rfl⟩⟩; refine ⟨_,rfl, ?_⟩))
 go_ret
 exact ⟨rf,by repeat (first | exact Drawn0.refl _ | apply Drawn0.step)⟩
def op_Compare.f (k : Nat) (a0_0 : Int) (a0_1 : Int) (a0_2 : Int) (a1_0 : Int) (a1_1 : Int) (a1_2 : Int) : Option (Int):=(cmp_Compare_int.f a0_0 a1_0).bind fun t122 => ((cmp_Compare_int.f a0_1 a1_1).bind fun t123 => ((cmp_Compare_int.f a0_2 a1_2).bind fun t124 => ((cmp_Or_int.f k (([t122,t123,t124] : List Int))).bind fun t128 => (some t128))))
theorem op_Compare.mono : ∀ a0 a1 a2 a3 a4 a5 k,LeO (op_Compare.f k a0 a1 a2 a3 a4 a5) (op_Compare.f (k + 1) a0 a1 a2 a3 a4 a5):=by
 intro a0 a1 a2 a3 a4 a5 k
 unfold op_Compare.f
 repeat' first
   | (with_reducible exact cmp_Or_int.mono _ _)
   | (with_reducible exact LeO.refl _)
   | (with_reducible exact LeO.none _)
   | (with_reducible refine LeO.ite ?_ ?_)
   | (with_reducible refine LeO.bind ?_ (fun _ => ?_))
   | exact cmp_Or_int.mono _ _
   | exact LeO.none _
   | refine LeO.ite ?_ ?_
   | refine LeO.bind ?_ (fun _ => ?_)
def op_Compare.T1 : Bool × List (List Nat × List Nat):=(true,[([],[]),([0],[0]),([],[]),([2],[2]),([1,3],[1,3]),([],[]),([5],[5]),([],[]),([7],[7]),([6,8,4],[6,8]),([],[]),([10],[10]),([],[]),([12],[12]),([11,13,9],[11,13]),([4,9,14],[4,9,14]),([15,14],[15]),([16,16,0,1,2,3,4,5,6,7,8,9,10,11,12,13,14,15,16],[16])])
def op_Compare.B1 : List Nat:=[0,1,0,4,15,0,32,0,128,511,0,1024,0,4096,16383,32767,65535,131071]
theorem op_Compare.tab1 : rtab .any (Qdb Tryz.f52 1) = op_Compare.T1:=by kernel_rfl
theorem op_Compare.bits1 : Qay op_Compare.T1.2 op_Compare.B1 = true:=by kernel_rfl
theorem op_Compare.calls (k : Nat) (a0_0 : Int) (a0_1 : Int) (a0_2 : Int) (a1_0 : Int) (a1_1 : Int) (a1_2 : Int) (r : Int) (w : World) (h : op_Compare.f k a0_0 a0_1 a0_2 a1_0 a1_1 a1_2 = some r) :
  Calls Tryz.prog 52 #[.agg #[.int .i64 a0_0, .int .i64 a0_1, .int .i64 a0_2], .agg #[.int .i64 a1_0, .int .i64 a1_1, .int .i64 a1_2]] w fun e w' => e = .returned (.int .i64 r) /\ Below w.heap.size w w':=by
 have hu32:=Tryz.underlying32
 have HB:=Zz.k (Below.refl w.heap.size w)
 unfold op_Compare.f at h; have H:=h
 clear h
 obtain ⟨t122,A3,H⟩:=bE H
 obtain ⟨t123,A4,H⟩:=bE H
 obtain ⟨t124,A5,H⟩:=bE H
 obtain ⟨y125,hy125⟩ : ∃ y_ : List Int,y_ = (([t122,t123,t124] : List Int)):=⟨_,rfl⟩
 first | rw [Option.bind_some,<- hy125] at H | rw [<- hy125] at H
 have Ny125:=Zz.k hy125
 clear hy125
 obtain ⟨t128,A6,H⟩:=bE H
 obtain rfl:=Zo H
 go_enter Tryz.func52,Tryz.ntmps52
 try go_wp2_with (first | ((with_reducible refine Qaf (N:=2) rfl ?_); refine bx 2 #[.int .i64 a0_0, .int .i64 a0_1, .int .i64 a0_2] 32 (h := ?_); intro gb120 hg w7 hbox hb; have BK120:=Zz.k (hbox); have GW120:=bz HB hg; have GE120:=bz HB hg; replace HB:=bs HB hb; clear hb hbox hg) | ((with_reducible refine Qaf (N:=3) rfl ?_); refine bx 3 #[.int .i64 a1_0, .int .i64 a1_1, .int .i64 a1_2] 32 (h := ?_); intro gb121 hg w8 hbox hb; have BK121:=Zz.k (hbox); have GW121:=bz HB hg; have GE121:=bz HB hg; have NB120_121:=bn BK120 hg; have NB121_120:=bm BK120 hg; replace BK120:=bl BK120 hb; replace HB:=bs HB hb; clear hb hbox hg))
 have n0_:=Zz.k (Qao BK120.out)
 have n1_:=Zz.k (Qao BK121.out)
 have n2_:=Zz.k (Qae HB.out)
 clear BK120
 clear BK121
 clear HB
 have BK120:=n0_
 have BK121:=n1_
 have HB:=n2_
 clear n0_ n1_ n2_
 refine stP (fun w' => B3 w' gb120 (.int .i64 a0_0) (.int .i64 a0_1) (.int .i64 a0_2) (E3 w' gb121 (.int .i64 a1_0) (.int .i64 a1_1) (.int .i64 a1_2))) 18 (b3 BK120 (e3 BK121)) (h:=fun hHeld => ?_); refine Qaw op_Compare.tab1 op_Compare.bits1 (fun HT_ HW_ => ?_)
 generalize w8.drew = w9 at BK120 BK121 HB hHeld ⊢
 refine pu HT_ 0 5 1 (h := ?_)
 refine pu HT_ 2 7 5 (h := ?_)
 refine pu HT_ 5 10 37 (h := ?_)
 refine pu HT_ 7 12 165 (h := ?_)
 refine pu HT_ 10 15 1189 (h := ?_)
 refine pu HT_ 12 17 5285 (h := ?_)
 refine tk HT_ HW_ hHeld 1 6 5287 (h := ?_)
 refine tk HT_ HW_ hHeld 3 8 5295 (h := ?_)
 refine tk HT_ HW_ hHeld 6 11 5359 (h := ?_)
 refine tk HT_ HW_ hHeld 8 13 5615 (h := ?_)
 refine tk HT_ HW_ hHeld 11 16 7663 (h := ?_)
 refine tk HT_ HW_ hHeld 13 18 15855 (h := ?_)
 refine on HT_ 4 (some 9) 15871 (h:=fun K hK => ?_)
 refine gS Tryz.func86 #[.int .i64 a0_0, .int .i64 a1_0] (h := ?_)
 with_reducible refine (cmp_Compare_int.calls a0_0 a1_0 t122 _ A3.out).mono ?_
 rintro e w' ⟨rfl,⟨nd,rfl⟩⟩
 refine ⟨_,rfl, ?_⟩
 refine hK.out _ _ (b3 BK120 (e3 BK121)) (fun hHeld => ?_)
 clear hK K
 refine nn 9 (h := ?_)
 refine on HT_ 9 (some 14) 16383 (h:=fun K hK => ?_)
 refine gS Tryz.func86 #[.int .i64 a0_1, .int .i64 a1_1] (h := ?_)
 with_reducible refine (cmp_Compare_int.calls a0_1 a1_1 t123 _ A4.out).mono ?_
 rintro e w' ⟨rfl,⟨nd,rfl⟩⟩
 refine ⟨_,rfl, ?_⟩
 refine hK.out _ _ (b3 BK120 (e3 BK121)) (fun hHeld => ?_)
 clear hK K
 refine nn 14 (h := ?_)
 refine on HT_ 14 (some 19) 32767 (h:=fun K hK => ?_)
 refine gS Tryz.func86 #[.int .i64 a0_2, .int .i64 a1_2] (h := ?_)
 with_reducible refine (cmp_Compare_int.calls a0_2 a1_2 t124 _ A5.out).mono ?_
 rintro e w' ⟨rfl,⟨nd,rfl⟩⟩
 refine ⟨_,rfl, ?_⟩
 refine hK.out _ _ (b3 BK120 (e3 BK121)) (fun hHeld => ?_)
 clear hK K
 refine nn 19 (h := ?_)
 refine on HT_ 15 (some 20) 65535 (h:=fun K hK => ?_)
 refine Kd.R_lit_step (Kd.int .i64) _ 3 ?hg (N:=20) ?hd (xs:=([t122,t123,t124] : List Int)) (inner:=[.int .i64 t122, .int .i64 t123, .int .i64 t124]) (ok:=fun _ => True) (okp:=fun _ => True) ?hr ?hp (fun _ hk => hk) trivial (Below.refl _ _) (Nat.le_refl _) (by simp) ?_; (case hd => rfl); (case hg => rfl); (case hr => first | (go_simp; done) | (go_simp; rfl)); (case hp => exact (Reps.one (show Kd.M (Kd.int .i64) _ _ _ t122 [.int .i64 t122] from rfl) (Reps.one (show Kd.M (Kd.int .i64) _ _ _ t123 [.int .i64 t123] from rfl) (Reps.one (show Kd.M (Kd.int .i64) _ _ _ t124 [.int .i64 t124] from rfl) (Reps.none _ _)))))
 intro v126 w10 ho11 hb hg_ hnew_
 clear hg_ hnew_
 (first | rw [<- Ny125.out] at ho11 | (simp only [Int.reduceToNat] at ho11; rw [<- Ny125.out] at ho11))
 have n0_:=Zz.k (Kd.R_lower ho11 (Qal (bw HB)))
 have n1_:=bl BK120 hb
 have n2_:=bl BK121 hb
 have n3_:=bs HB hb
 clear BK120
 clear BK121
 clear HB
 have HO127:=n0_
 have BK120:=n1_
 have BK121:=n2_
 have HB:=n3_
 clear n0_ n1_ n2_ n3_
 clear hb ho11
 obtain ⟨Ao12,co12,eo12⟩:=Kd.R_slice HO127.out
 (first | subst eo12 | (injection eo12 with f1_ f2_ f3_; have f4_:=f1_.symm; have f5_:=f3_.symm; clear f1_ f2_ f3_; subst f4_; subst f5_))
 refine hK.out _ _ (b3 BK120 (e3 BK121)) (fun hHeld => ?_)
 clear hK K
 refine nn 20 (h := ?_)
 refine on HT_ 16 (some 21) 131071 (h:=fun K hK => ?_)
 refine gS Tryz.func85 #[.slice Ao12 y125.length co12] (h := ?_)
 with_reducible refine (cmp_Or_int.calls k _ _ y125 t128 _ ?side1 ?side2 A6.out).mono ?_
 (case side1 => exact cr HO127)
 (case side2 => exact (Kd.R_reads' HO127.out).2.1)
 rintro e w' ⟨rfl,⟨nd,rfl⟩⟩
 refine ⟨_,rfl, ?_⟩
 refine hK.out _ _ (b3 BK120 (e3 BK121)) (fun hHeld => ?_)
 clear hK K
 refine nn 21 (h := ?_)
 refine pu HT_ 17 4 262143 (h := ?_)
 refine dn HT_ (h := ?_)
 try go_wp2
 go_ret
 exact ⟨re,bw HB⟩
def op_Less.f (k : Nat) (a0_0 : Int) (a0_1 : Int) (a0_2 : Int) (a1_0 : Int) (a1_1 : Int) (a1_2 : Int) : Option (Bool):=(op_Compare.f k a0_0 a0_1 a0_2 a1_0 a1_1 a1_2).bind fun t131 => (some (decide (t131 < 0)))
theorem op_Less.mono : ∀ a0 a1 a2 a3 a4 a5 k,LeO (op_Less.f k a0 a1 a2 a3 a4 a5) (op_Less.f (k + 1) a0 a1 a2 a3 a4 a5):=by
 intro a0 a1 a2 a3 a4 a5 k
 unfold op_Less.f
 repeat' first
   | (with_reducible exact op_Compare.mono _ _ _ _ _ _ _)
   | (with_reducible exact LeO.refl _)
   | (with_reducible exact LeO.none _)
   | (with_reducible refine LeO.ite ?_ ?_)
   | (with_reducible refine LeO.bind ?_ (fun _ => ?_))
   | exact op_Compare.mono _ _ _ _ _ _ _
   | exact LeO.none _
   | refine LeO.ite ?_ ?_
   | refine LeO.bind ?_ (fun _ => ?_)
theorem op_Less.calls (k : Nat) (a0_0 : Int) (a0_1 : Int) (a0_2 : Int) (a1_0 : Int) (a1_1 : Int) (a1_2 : Int) (r : Bool) (w : World) (h : op_Less.f k a0_0 a0_1 a0_2 a1_0 a1_1 a1_2 = some r) :
  Calls Tryz.prog 146 #[.agg #[.int .i64 a0_0, .int .i64 a0_1, .int .i64 a0_2], .agg #[.int .i64 a1_0, .int .i64 a1_1, .int .i64 a1_2]] w fun e w' => e = .returned (.bool r) /\ Below w.heap.size w w':=by
 have hu32:=Tryz.underlying32
 have HB:=Zz.k (Below.refl w.heap.size w)
 unfold op_Less.f at h; have H:=h
 clear h
 obtain ⟨t131,A3,H⟩:=bE H
 obtain rfl:=Zo H
 go_enter Tryz.func146,Tryz.ntmps146
 go_wp2_with (first | ((with_reducible refine Qaf (N:=2) rfl ?_); refine bx 2 #[.int .i64 a0_0, .int .i64 a0_1, .int .i64 a0_2] 32 (h := ?_); intro gb129 hg w4 hbox hb; have BK129:=Zz.k (hbox); have GW129:=bz HB hg; have GE129:=bz HB hg; replace HB:=bs HB hb; clear hb hbox hg) | ((with_reducible refine Qaf (N:=3) rfl ?_); refine bx 3 #[.int .i64 a1_0, .int .i64 a1_1, .int .i64 a1_2] 32 (h := ?_); intro gb130 hg w5 hbox hb; have BK130:=Zz.k (hbox); have GW130:=bz HB hg; have GE130:=bz HB hg; have NB129_130:=bn BK129 hg; have NB130_129:=bm BK129 hg; replace BK129:=bl BK129 hb; replace HB:=bs HB hb; clear hb hbox hg; have hnb6:=NB129_130.out; have hnc6:=NB130_129.out; obtain ⟨_,_,_,_,_,_⟩:=kc3 BK129; obtain ⟨_,_,_,_,_,_⟩:=kc3 BK130) | ((with_reducible refine Qac (f:=52) rfl ?_); refine gl (some 7) Tryz.func52 #[.agg #[.int .i64 a0_0, .int .i64 a0_1, .int .i64 a0_2], .agg #[.int .i64 a1_0, .int .i64 a1_1, .int .i64 a1_2]] (h := ?_); (with_reducible refine (op_Compare.calls k a0_0 a0_1 a0_2 a1_0 a1_1 a1_2 t131 _ A3.out).mono ?_); rintro e w9 ⟨rfl,hb⟩; refine ⟨_,rfl, ?_⟩; replace BK129:=bl BK129 hb; replace BK130:=bl BK130 hb; replace HB:=bs HB hb; clear hb))
 go_ret
 exact ⟨re,bw HB⟩
end
end Go.Proofs.YtlllghajjamdpaaGreatDoor.L
end
