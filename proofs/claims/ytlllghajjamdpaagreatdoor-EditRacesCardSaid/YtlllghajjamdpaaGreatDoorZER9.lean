/- Part 9 of the proof that for every argument the law EditRaces answers true: edits that two sites make of the same row, ordered one behind the other either way, leave what each wrote whole, side by side, and take away what each took -/
import Derived.Test.YtlllghajjamdpaaGreatDoorZER8
import Derived.Lib.SliceRun
import Derived.Shelf.SlSortCmp.NoneTotal
import Derived.Laws.IdiomStrings
import Derived.Laws.Cover4
section
namespace Go.Proofs.YtlllghajjamdpaaGreatDoor.L
open Go.RowKit Go.Sort Go.Proofs.YtlllghajjamdpaaGreatDoorW.PrintWords Go.Proofs.YtlllghajjamdpaaGreatDoorW.PrintLast Go.Proofs.YtlllghajjamdpaaGreatDoorW.PrintMore
set_option linter.unusedVariables false
set_option linter.unusedSimpArgs false
set_option maxHeartbeats 40000000
set_option maxRecDepth 1000000
section
instance inhE : Inhabited SElem:=⟨⟨0,0,0⟩⟩
def Qck (x : SElem) : List Value:=[.int .i64 x.f0, .int .i64 x.f1, .int .i64 x.f2]
def sortL (l : List SElem) : List SElem:=l.mergeSort fun x y => !elLess y x
theorem ltE (x y : SElem) : ltOf cmpE x y = elLess x y:=cmpE_neg x y
theorem elLess_iff (x y : SElem) : elLess x y = true ↔ x.f0 < y.f0 \/ (x.f0 = y.f0 /\ (x.f1 < y.f1 \/ (x.f1 = y.f1 /\ x.f2 < y.f2))):=by
 unfold elLess
 simp only [Bool.or_eq_true,Bool.and_eq_true,decide_eq_true_eq,beq_iff_eq]
theorem elLess_not (x y : SElem) : elLess x y = false ↔ ¬ (x.f0 < y.f0 \/ (x.f0 = y.f0 /\ (x.f1 < y.f1 \/ (x.f1 = y.f1 /\ x.f2 < y.f2)))):=by
 rw [<- elLess_iff,Bool.not_eq_true]
theorem swoE : SWO (ltOf cmpE) where
 irrefl x:=by rw [ltE,elLess_not]; omega
 trans x y z h1 h2:=by rw [ltE,elLess_iff] at *; omega
 ntrans x y z h1 h2:=by rw [ltE,elLess_not] at *; omega
theorem totE (x y : SElem) (h1 : ltOf cmpE x y = false) (h2 : ltOf cmpE y x = false) : x = y:=by
 rw [ltE,elLess_not] at h1 h2
 cases x; cases y
 simp only at h1 h2
 rw [SElem.mk.injEq]
 exact ⟨by omega,by omega,by omega⟩
theorem flat_at (d : Array SElem) {j : Nat} (hj : j < d.size) {i : Nat} (hi : i < 3) : (flatK Qck 3 d)[j * 3 + i]! = (Qck d[j])[i]!:=by
 rw [get_flatK _ _ _ _ (by omega),show (j * 3 + i) / 3 = j by omega,show (j * 3 + i) % 3 = i by omega,getElem!_pos d j hj]
theorem HoldsK_of {w : World} {base g c : Nat} {xs : List SElem} (h : RE w base (.slice (some ⟨g,0,none⟩) xs.length c) xs) : HoldsK Qck 3 w g 0 xs.toArray:=by
 intro t ht
 rw [size_flatK] at ht
 have hs : xs.toArray.size = xs.length:=rfl
 have hj : t / 3 < xs.length:=by omega
 obtain ⟨cs,hl,hM,hc,hf⟩:=Kd.R_elem h zElem ((t / 3 : Nat) : Int) (by omega) (by omega)
 have hcs : cs = Qck xs[t / 3]:=by
  have:=Qat xs (t / 3) hj
  unfold Qaa at this
  rw [Int.toNat_natCast] at this hM
  rw [this] at hM
  exact kElem_openM hM
 have ht3 : t = t / 3 * 3 + t % 3:=by omega
 have hv : (flatK Qck 3 xs.toArray)[t]! = (Qck xs[t / 3])[t % 3]!:=by
  conv => lhs; rw [ht3]
  rw [flat_at _ (by rw [hs]; exact hj) (by omega)]
  rfl
 rw [hv,Nat.zero_add]
 have hi3 : t % 3 < 3:=by omega
 have h3 : Qap.sz = 3:=rfl
 refine ⟨?_, ?_⟩
 ·have:=hc (t % 3) ((Qck xs[t / 3])[t % 3]!) (by
   rw [hcs]
   have hle : t % 3 < (Qck xs[t / 3]).length:=by unfold Qck; exact hi3
   rw [List.getElem?_eq_getElem hle,getElem!_pos (Qck xs[t / 3]) (t % 3) hle])
  rw [Int.toNat_natCast,h3] at this
  rw [<- ht3] at this
  exact this
 ·have:=hf (t % 3)
  rw [Int.toNat_natCast,h3] at this
  rw [<- ht3] at this
  exact this
theorem heap_mapBlock {w : World} {g : Nat} {cur : Array Value} {T : TypeId} {fr : Nat × Nat} (f : Array Value -> Array Value) (h : w.heap[g]? = some (.cells cur T fr)) : (mapBlock w g f).heap[g]? = some (.cells (f cur) T fr):=by
 show (w.heap.modify g (onCells f))[g]? = _
 rw [Array.getElem?_modify,if_pos rfl,h]
 rfl
theorem heap_mapBlock_far {w : World} {g k : Nat} (f : Array Value -> Array Value) (h : k ≠ g) : (mapBlock w g f).heap[k]? = w.heap[k]?:=by
 show (w.heap.modify g (onCells f))[k]? = _
 rw [Array.getElem?_modify,if_neg (Ne.symm h)]
theorem flat_inner (d : Array SElem) (ok : World -> Nat -> (Nat -> Prop) -> Prop) {w : World} {base : Nat} {okp : Nat -> Prop} : Reps (Qap.M w base okp) 3 d.toList (flatK Qck 3 d).toList:=by
 refine ⟨by rw [Array.length_toList,size_flatK,Array.length_toList],fun j p hp => ?_⟩
 have hj : j < d.size:=by
  have:=(List.getElem?_eq_some_iff.1 hp).1
  rwa [Array.length_toList] at this
 have hp' : d[j] = p:=by
  have:=(List.getElem?_eq_some_iff.1 hp).2
  rw [<- this]; rfl
 have hl : (flatK Qck 3 d).toList.length = d.size * 3:=by rw [Array.length_toList,size_flatK]
 have e : ((flatK Qck 3 d).toList.drop (j * 3)).take 3 = [.int .i64 p.f0, .int .i64 p.f1, .int .i64 p.f2]:=by
  refine List.ext_getElem (by rw [List.length_take,List.length_drop,hl]; show min 3 _ = 3; omega) (fun i h1 h2 => ?_)
  have hi : i < 3:=h2
  rw [List.getElem_take,List.getElem_drop]
  have ha : (flatK Qck 3 d).toList[j * 3 + i]'(by rw [hl]; omega) = (flatK Qck 3 d)[j * 3 + i]!:=by
   rw [Array.getElem_toList,getElem!_pos _ _ (by rw [size_flatK]; omega)]
  rw [ha,flat_at d hj hi,hp']
  have hle : i < (Qck p).length:=hi
  rw [getElem!_pos (Qck p) i hle]
  rfl
 rw [e]
 exact Qcd _ _ _ p
theorem RE_sorted {w : World} {base g c : Nat} {xs : List SElem} (h : RE w base (.slice (some ⟨g,0,none⟩) xs.length c) xs) (d : Array SElem) (hd : d.size = xs.length) (n : Nat) (os : Array Obj) :
  RE (sortWorldK Qck 3 w g 0 n d os) base (.slice (some ⟨g,0,none⟩) xs.length c) d.toList /\ w.grownBy (sortWorldK Qck 3 w g 0 n d os) (some g):=by
 obtain ⟨hok,inner,ho,hr⟩:=h
 obtain ⟨ho1,ho2⟩:=ho
 rcases ho2 with ⟨hv,_⟩ | ⟨g',cap',cur,hv,hb,hh,hnc',hcm,hcs,ht⟩
 ·cases hv
 injection hv with hA _ hc
 injection hA with hA
 injection hA with hg
 subst hg; subst hc
 have h3 : Qap.sz = 3:=rfl
 have hglt : g < w.heap.size:=by
  rcases Nat.lt_or_ge g w.heap.size with hx | hx
  ·exact hx
  ·rw [Array.getElem?_eq_none hx] at hh; cases hh
 have hsz : (putCells id 0 (flatK Qck 3 d) cur).size = cur.size:=by simp [putCells]
 have hrow : (sortWorldK Qck 3 w g 0 n d os).heap[g]? = some (.cells (putCells id 0 (flatK Qck 3 d) cur) 32 (0,0)):=by
  have h1:=heap_mapBlock (w:=Sort.ahead w n) (putCells id 0 (flatK Qck 3 d)) (show (Sort.ahead w n).heap[g]? = _ from hh)
  show ((mapBlock (Sort.ahead w n) g (putCells id 0 (flatK Qck 3 d))).heap ++ os)[g]? = _
  rw [Array.getElem?_append_left (by show g < (w.heap.modify g (onCells (putCells id 0 (flatK Qck 3 d)))).size; rw [Array.size_modify]; exact hglt)]
  exact h1
 have htake : (putCells id 0 (flatK Qck 3 d) cur).toList.take (xs.length * 3) = (flatK Qck 3 d).toList:=by
  have hlen : xs.length * 3 <= cur.size:=by
   rw [hcs,h3]
   exact Nat.mul_le_mul_right 3 hnc'
  have hL : (putCells id 0 (flatK Qck 3 d) cur).toList.length = cur.size:=by rw [Array.length_toList,hsz]
  have hF : (flatK Qck 3 d).toList.length = xs.length * 3:=by rw [Array.length_toList,size_flatK,hd]
  refine List.ext_getElem (by rw [List.length_take,hL,hF]; omega) (fun i h1 h2 => ?_)
  have hi : i < xs.length * 3:=by rw [List.length_take] at h1; omega
  rw [List.getElem_take,Array.getElem_toList,Array.getElem_toList]
  unfold putCells
  rw [Array.getElem_mapIdx,if_pos ⟨Nat.zero_le _,by rw [Nat.zero_add,size_flatK,hd]; exact hi⟩]
  show (flatK Qck 3 d)[i - 0]! = _
  rw [Nat.sub_zero,getElem!_pos _ _ (by rw [size_flatK,hd]; exact hi)]
 have hdl : d.toList.length = xs.length:=by rw [Array.length_toList,hd]
 have h0 : (flatK Qck 3 d).toList.length = d.toList.length * Qap.sz:=by rw [Array.length_toList,size_flatK,Array.length_toList]; rfl
 have hgrow : w.grownBy (sortWorldK Qck 3 w g 0 n d os) (some g):=by
  refine ⟨rfl,rfl,rfl, ?_,fun k hk hne => ?_⟩
  ·show w.heap.size <= ((w.heap.modify g (onCells (putCells id 0 (flatK Qck 3 d)))) ++ os).size
   rw [Array.size_append,Array.size_modify]; omega
  ·show ((mapBlock (Sort.ahead w n) g (putCells id 0 (flatK Qck 3 d))).heap ++ os)[k]? = _
   rw [Array.getElem?_append_left (by show k < (w.heap.modify g (onCells (putCells id 0 (flatK Qck 3 d)))).size; rw [Array.size_modify]; exact hk)]
   exact heap_mapBlock_far _ (fun e => hne (by rw [e]))
 refine ⟨⟨hok,(flatK Qck 3 d).toList,⟨h0, .inr ⟨g,c,putCells id 0 (flatK Qck 3 d) cur,by rw [hdl],hb,hrow,by rw [hdl]; exact hnc',hcm,by rw [hsz]; exact hcs,by rw [hdl,h3]; exact htake⟩⟩,flat_inner d (fun _ _ _ => True)⟩,hgrow⟩
theorem cmpLays (blk off size : Nat) (w : World) : CmpLays Tryz.prog 52 #[] Qck 3 cmpE blk off size w:=fun _ _ _ _ x y => compare_calls x y _
theorem sort_calls {w : World} {base g c : Nat} {xs : List SElem} (h : RE w base (.slice (some ⟨g,0,none⟩) xs.length c) xs) (hg : g < w.heap.size) (hl : xs.length <= 1000000) :
  Calls Tryz.prog 51 #[.slice (some ⟨g,0,none⟩) xs.length c, .func (.func 52) #[] #[]] w fun e w' =>
   e = .returned (.tuple #[]) /\ RE w' base (.slice (some ⟨g,0,none⟩) xs.length c) (sortL xs) /\ w.grownBy w' (some g):=by
 have hcon:=AnyQ.slices_SortFunc Tryz.sortEl 3 Tryz.isAgg32 Tryz.sizeOf32 Qck (fun _ => rfl) (fun x v hv => by simp [Qck] at hv; rcases hv with rfl | rfl | rfl <;> rfl) cmpE swoE 52 #[] g 0 c xs.toArray w
  (enters_at Tryz.func52 (by kernel_rfl) rfl) (cmpLays _ _ _ _) (HoldsK_of h) hg (by show xs.length < _; omega)
 change Calls Tryz.prog 51 _ _ _ at hcon
 refine hcon.mono ?_
 rintro e w' ⟨rfl,d',n,os,hp,hs,rfl⟩
 have hu:=sorted_unique_holds swoE totE xs.toArray d' hp hs
 have hd : d'.size = xs.length:=hp.1
 obtain ⟨r1,r2⟩:=RE_sorted h d' hd n os
 have e1 : d'.toList = sortL xs:=by
  rw [hu]
  unfold sortL
  congr 1
  funext x y
  rw [ltE]
 rw [e1] at r1
 exact ⟨rfl,r1,r2⟩
end
end Go.Proofs.YtlllghajjamdpaaGreatDoor.L
end

section
namespace Go.Proofs.YtlllghajjamdpaaGreatDoor.L
open Go.RowKit Go.Proofs.YtlllghajjamdpaaGreatDoorW.PrintWords Go.Proofs.YtlllghajjamdpaaGreatDoorW.PrintLast Go.Proofs.YtlllghajjamdpaaGreatDoorW.PrintMore
set_option linter.unusedVariables false
set_option linter.unusedSimpArgs false
set_option maxHeartbeats 40000000
set_option maxRecDepth 1000000
section
def repA (L : List SOp) (a : Nat) (t : ByteArray) : SElem:=if 0 < a /\ t.toList.isEmpty = false then Qaa (Qau L) ((a - 1 : Nat) : Int) else ⟨0,0,0⟩
def repG (L : List SOp) (a n : Nat) : List SElem:=sortL (((Qau L).drop a).take n)
def repO (L : List SOp) (s : Int) (a n : Nat) (t : ByteArray) : SOp:=⟨s,((Qbw L s + 1 : Nat) : Int),1,repA L a t,t,repG L a n,0,0,0⟩
theorem sort_len (l : List SElem) : (sortL l).length = l.length:=List.length_mergeSort l
end
section
theorem kElem_openK {w : World} {x : SElem} {cs : List Value} (h : Qap.K w x cs) : cs = [.int .i64 x.f0, .int .i64 x.f1, .int .i64 x.f2]:=by
 obtain ⟨_,_,rfl,rfl,⟨_,_,rfl,rfl,rfl⟩⟩:=h
 exact rfl
theorem infoE3 : (Tryz.prog.info? 32).map (fun i => (i.zero,i.size,i.bytes)) = some (some (.agg #[(.int .i64 0),(.int .i64 0),(.int .i64 0)]),3,24):=by kernel_rfl
theorem clone_calls (A : Option Addr) (c : Nat) (l : List SElem) (w : World) (hr : Kd.C Qap w A l.length l) (hl : l.length <= 1000000) :
  Calls Tryz.prog 50 #[.slice A l.length c] w fun e w' => ∃ v,e = .returned v /\ RE w' w.heap.size v l /\ Below w.heap.size w w':=by
 have q22 : ∀ (w : World) (a : Option Addr) (n c n' c' : Nat),(binOp .eql 23 (.slice a n c) (.slice none n' c')).run Tryz.prog w = .ok (.bool a.isNone) w:=fun w a n c n' c' => Lib.run_eql_slice_nil w _ _ a n c n' c' Tryz.underlying23
 rcases A with _ | ad
 ·have hz : l.length = 0:=by
   rcases Nat.eq_zero_or_pos l.length with h | h
   ·exact h
   ·obtain ⟨_,h',_⟩:=hr.2.2 h
    cases h'
  obtain rfl : l = []:=List.eq_nil_of_length_eq_zero hz
  clear hr hz hl
  go_enter Tryz.func50,Tryz.ntmps50
  go_wp2
  go_ret
  exact ⟨_,rfl,Kd.R_nil _ _ _ _ _,Below.refl _ _⟩
 ·obtain ⟨i0,hi,hiv⟩:=Option.map_eq_some_iff.1 infoE3
  simp only [Prod.mk.injEq] at hiv
  obtain ⟨hz0,hz1,hz2⟩:=hiv
  obtain ⟨news,hnr,hnc⟩:=Qcu.inner_ hr
  have hnl : news.length = l.length * 3:=hnr.1
  have HNC:=Zz.k hnc
  have HNR:=Zz.k hnr
  have h1 : ∀ u ∈ news,u.oneCell' = true:=Kd.reps_one hnr (by decide) (fun p c h => Qap.K_one h)
  clear hr hnc hnr
  go_enter Tryz.func50,Tryz.ntmps50
  go_wp2_with (at_builtin; refine wpList_append_own _ rfl _ _ 23 rfl w.heap.size 32 i0 _ 3 24 Tryz.underlying23 hi hz0 hz1 hz2 rfl (by decide) _ _ _ rfl (World.ownsRow_made w #[] 0 (Nat.le_refl _) (Nat.zero_le _) (by simp)) ad l.length c news rfl ?qc1 ?qc2 ?qc3 ?qc4 ?qc5 ?qc6 ?_)
  case qc1 => exact hnl
  case qc2 =>
   intro j u hj
   exact Qab (Qag (Below.refl _ _) _) (HNC.out j u hj)
  case qc3 => exact h1
  case qc4 => rw [Nat.zero_add]; unfold maxLen; omega
  case qc5 => rw [Nat.zero_add]; omega
  case qc6 => simp
  intro v' w1 hown hgrow hnil
  have HO:=Zz.k hown
  have HG:=Zz.k hgrow
  clear hown hgrow hnil
  go_wp2
  go_ret
  have ho : w1.ownsRow w.heap.size 32 3 v' l.length news:=by simpa using HO.out
  refine ⟨v',rfl,⟨fun _ _ => trivial,news,ho,⟨HNR.out.1,fun j p hp => ?_⟩⟩,((Below.refl _ w).alloc (Nat.le_refl _) _).grown HG.out (by simp) (by intro k hk; simp [Value.ownBlock] at hk; omega)⟩
  rw [kElem_openK (HNR.out.2 j p hp)]
  exact Qcd _ _ _ p
end
section
def t_edit_Replace.T8 : Bool × List (List Nat × List Nat):=(true,[([],[]),([],[]),([],[]),([1,2],[1,2]),([],[]),([],[]),([],[]),([],[]),([],[]),([7,8],[7,8]),([5,6,9],[5,6,9]),([10,3],[10]),([0,3,4,11],[0,3,4,11]),([],[]),([13,12,11,0,1,2,3,4,5,6,7,8,9,10,11,12,13],[12,13])])
def t_edit_Replace.B8 : List Nat:=[0,0,0,6,0,0,0,0,0,384,992,2030,4095,0,16383]
theorem t_edit_Replace.tab8 : rtab .any (Qdb Tryz.f10 8) = t_edit_Replace.T8:=by kernel_rfl
theorem t_edit_Replace.bits8 : Qay t_edit_Replace.T8.2 t_edit_Replace.B8 = true:=by kernel_rfl
def t_r4_Replace.T13 : Bool × List (List Nat × List Nat):=(true,[([],[]),([0],[0]),([],[]),([],[]),([2,3],[2,3]),([4],[4]),([1,5],[1,5]),([0,1,2,3,4,5,6],[]),([7,6,6,0,1,2,3,4,5,6],[6,7])])
def t_r4_Replace.B13 : List Nat:=[0,1,0,0,12,28,63,127,255]
end
section
theorem doc_Seen_f {L : List SOp} (hs : smalls L = true) (h : RowOk L) : doc_Seen.f L = some (Qau L):=by unfold doc_Seen.f; exact if_pos ⟨hs,(Qci L).2 h⟩
theorem seen_len {L : List SOp} (h : RowOk L) : (Qau L).length <= 200:=Nat.le_trans (List.length_filter_le _ _) (by rw [(Qda h).2]; exact h.sums.2)
end
section
theorem cntR_app (l : List SOp) (o : SOp) (s q : Int) : cntR (l ++ [o]) s q = cntStep s q (cntR l s q) o:=by unfold cntR; rw [List.foldl_append]; rfl
theorem any_same {α : Type} : ∀ (ms : List α) (f g : α -> Bool),(∀ o ∈ ms,f o = g o) -> ms.any f = ms.any g
 | [],_,_,_ => rfl
 | o :: ms,f,g,h => by rw [List.any_cons,List.any_cons,h o List.mem_cons_self,any_same ms f g (fun x hx => h x (List.mem_cons_of_mem _ hx))]
theorem workE_cnt {L M : List SOp} {o : SOp} (h : cntR M o.f0 o.f1 = cntR L o.f0 o.f1) : Qbo M o = Qbo L o:=by unfold Qbo; rw [h]
theorem smalls_snoc {l : List SOp} (h : smalls l = true) (hl : l.length <= 1000000) {o : SOp} (h4 : o.f4.size <= 1000000) (h5 : o.f5.length <= 1000000) : smalls (l ++ [o]) = true:=by
 unfold smalls SmB at h ⊢
 simp only [Bool.and_eq_true,decide_eq_true_eq,List.all_eq_true] at h ⊢
 refine ⟨by rw [List.length_append,List.length_singleton]; omega,fun x hx => ?_⟩
 rcases List.mem_append.1 hx with hx | hx
 ·exact h.2 x hx
 ·rw [List.mem_singleton] at hx; subst hx; exact ⟨by omega,by omega⟩
theorem cnt_other {L : List SOp} {o : SOp} (h1 : o.f2 ≠ 2) (s q : Int) : cntR (L ++ [o]) s q = cntR L s q:=by
 rw [cntR_app]; unfold cntStep; rw [if_neg (fun hh => h1 hh.1)]
theorem cnt_fresh {L : List SOp} (h : RowOk L) : ∀ {s q : Int},(∀ p ∈ L,¬ (p.f0 = s /\ p.f1 = q)) -> cntR L s q = 0:=by
 induction h with
 | nil => intro s q _; rfl
 | snoc h1 h2 ih =>
  rename_i l o
  intro s q hf
  rw [cntR_app,ih (fun p hp => hf p (List.mem_append_left _ hp))]
  unfold cntStep
  rw [if_neg]
  rintro ⟨k2,e6,e7,_⟩
  obtain ⟨p,hp,_,e0,e1⟩:=h2.tog k2
  exact hf p (List.mem_append_left _ hp) ⟨by rw [e0,e6],by rw [e1,e7]⟩
end
section
def siteOk (s : Int) : Bool:=decide (1 <= s) && decide (s <= 8)
theorem Site_calls (s : Int) (W : World) : Calls Tryz.prog 45 #[.int .i64 s] W fun e w' => e = .returned (.bool (siteOk s)) /\ Below W.heap.size W w':=by
 refine (op_IsSite.calls s (siteOk s) W ?_).mono (fun e w' h => ⟨h.1,h.2.below⟩)
 unfold op_IsSite.f siteOk
 by_cases h : s >= 1
 ·rw [if_pos h,Zd (show 1 <= s from h),Bool.true_and]
 ·rw [if_neg h,Ze (show ¬ 1 <= s from h),Bool.false_and]
def badB (l0 : List SOp) (s : Int) (t : ByteArray) : Bool:=!mayB l0 || !siteOk s || !Qbq t
theorem Rep_bad (A0 : Option Addr) (c0 : Nat) (l0 : List SOp) (s a n : Int) (t : ByteArray) (w : World) (hr0 : Kd.C kOp w A0 l0.length l0) (hc0 : l0.length <= c0) (hsm : smalls l0 = true) (ht : t.size <= 1000000) (hbad : badB l0 s t = true) :
  Calls Tryz.prog 10 #[.slice A0 l0.length c0, .int .i64 s, .int .i64 a, .int .i64 n, .string t] w fun e w' => ∃ v7 : Value,e = .returned (.tuple #[.agg #[.int .i64 0, .int .i64 0, .int .i64 0, .int .i64 0, .int .i64 0, .int .i64 0, .string (⟨#[]⟩ : ByteArray),v7, .int .i64 0, .int .i64 0, .int .i64 0], .int .i64 1]) /\ RE w' w.heap.size v7 [] /\ Below w.heap.size w w':=by
 have hu32:=Tryz.underlying34
 have HB:=Zz.k (Below.refl w.heap.size w)
 have HC0:=Zz.k hc0
 have HT:=Zz.k ht
 have HR0:=Zz.k hr0
 have HSM:=Zz.k hsm
 have HMay:=Zz.k (fun W (hb : Below w.heap.size w W) => tree_May.calls A0 c0 l0 (mayB l0) W (Kd.C_below hr0 hb) hc0 (tree_May_f hsm))
 have HSite:=Zz.k (fun W (_ : Below w.heap.size w W) => Site_calls s W)
 have HText:=Zz.k (fun W (_ : Below w.heap.size w W) => text_May.calls t (Qbq t) W rfl)
 clear hr0 hc0 hsm ht
 unfold badB at hbad
 cases hm : mayB l0
 ·rw [hm] at HMay
  clear hm hbad
  go_enter Tryz.func10,Tryz.ntmps10
  go_wp2_with (first | ((with_reducible refine Qaf (N:=10) rfl ?_); refine bx 10 #[.int .i64 0, .int .i64 0, .int .i64 0, .int .i64 0, .int .i64 0, .int .i64 0, .string (⟨#[]⟩ : ByteArray), .slice none 0 0, .int .i64 0, .int .i64 0, .int .i64 0] 34 (h := ?_); intro gb1 hg w1 hbox hb; have BK1:=Zz.k hbox; have GE1:=Zz.k ((by rw [hg]; exact (Qal (bw HB)) : w.heap.size <= gb1)); replace HB:=bs HB hb; clear hb hbox hg) | ((with_reducible refine Qac (f:=44) rfl ?_); (try (refine Qah (by rfl) ?_; dsimp only)); refine gl (some 15) Tryz.func44 #[.slice A0 l0.length c0] (h := ?_); (refine (HMay.out _ (bw HB)).mono ?_); rintro e w2 ⟨rfl,hb⟩; refine ⟨_,rfl, ?_⟩; replace BK1:=bl BK1 hb; replace HB:=bs HB hb; clear hb; obtain ⟨_,_,_,_,_,_,_,_,_,_,_,_,_,_,_,_,_,_,_,_,_,_⟩:=kc11 BK1))
  refine bodyPost_ret (Qbv rfl _ _ gb1 34 #[.int .i64 0, .int .i64 0, .int .i64 0, .int .i64 0, .int .i64 0, .int .i64 0, .string (⟨#[]⟩ : ByteArray), .slice none 0 0, .int .i64 0, .int .i64 0, .int .i64 0] (0,0) _ rfl (bp11 (kk BK1)) hu32 rfl (by kernel_rfl)) rfl ?_
  exact ⟨_,rfl,Kd.R_nil _ _ _ _ _,bw HB⟩
 ·rw [hm,Bool.not_true,Bool.false_or] at hbad
  rw [hm] at HMay
  clear hm
  cases hs : siteOk s
  ·rw [hs] at HSite
   clear hs hbad
   go_enter Tryz.func10,Tryz.ntmps10
   go_wp2_with (first | ((with_reducible refine Qaf (N:=10) rfl ?_); refine bx 10 #[.int .i64 0, .int .i64 0, .int .i64 0, .int .i64 0, .int .i64 0, .int .i64 0, .string (⟨#[]⟩ : ByteArray), .slice none 0 0, .int .i64 0, .int .i64 0, .int .i64 0] 34 (h := ?_); intro gb1 hg w1 hbox hb; have BK1:=Zz.k hbox; have GE1:=Zz.k ((by rw [hg]; exact (Qal (bw HB)) : w.heap.size <= gb1)); replace HB:=bs HB hb; clear hb hbox hg) | ((with_reducible refine Qac (f:=44) rfl ?_); (try (refine Qah (by rfl) ?_; dsimp only)); refine gl (some 15) Tryz.func44 #[.slice A0 l0.length c0] (h := ?_); (refine (HMay.out _ (bw HB)).mono ?_); rintro e w2 ⟨rfl,hb⟩; refine ⟨_,rfl, ?_⟩; replace BK1:=bl BK1 hb; replace HB:=bs HB hb; clear hb) | ((with_reducible refine Qac (f:=45) rfl ?_); (try (refine Qah (by rfl) ?_; dsimp only)); refine gl (some 19) Tryz.func45 #[.int .i64 s] (h := ?_); (refine (HSite.out _ (bw HB)).mono ?_); rintro e w2 ⟨rfl,hb⟩; refine ⟨_,rfl, ?_⟩; replace BK1:=bl BK1 hb; replace HB:=bs HB hb; clear hb; obtain ⟨_,_,_,_,_,_,_,_,_,_,_,_,_,_,_,_,_,_,_,_,_,_⟩:=kc11 BK1))
   refine bodyPost_ret (Qbv rfl _ _ gb1 34 #[.int .i64 0, .int .i64 0, .int .i64 0, .int .i64 0, .int .i64 0, .int .i64 0, .string (⟨#[]⟩ : ByteArray), .slice none 0 0, .int .i64 0, .int .i64 0, .int .i64 0] (0,0) _ rfl (bp11 (kk BK1)) hu32 rfl (by kernel_rfl)) rfl ?_
   exact ⟨_,rfl,Kd.R_nil _ _ _ _ _,bw HB⟩
  ·rw [hs,Bool.not_true,Bool.false_or,Bool.not_eq_true'] at hbad
   rw [hs] at HSite
   rw [hbad] at HText
   clear hs hbad
   go_enter Tryz.func10,Tryz.ntmps10
   go_wp2_with (first | ((with_reducible refine Qaf (N:=10) rfl ?_); refine bx 10 #[.int .i64 0, .int .i64 0, .int .i64 0, .int .i64 0, .int .i64 0, .int .i64 0, .string (⟨#[]⟩ : ByteArray), .slice none 0 0, .int .i64 0, .int .i64 0, .int .i64 0] 34 (h := ?_); intro gb1 hg w1 hbox hb; have BK1:=Zz.k hbox; have GE1:=Zz.k ((by rw [hg]; exact (Qal (bw HB)) : w.heap.size <= gb1)); replace HB:=bs HB hb; clear hb hbox hg) | ((with_reducible refine Qac (f:=44) rfl ?_); (try (refine Qah (by rfl) ?_; dsimp only)); refine gl (some 15) Tryz.func44 #[.slice A0 l0.length c0] (h := ?_); (refine (HMay.out _ (bw HB)).mono ?_); rintro e w2 ⟨rfl,hb⟩; refine ⟨_,rfl, ?_⟩; replace BK1:=bl BK1 hb; replace HB:=bs HB hb; clear hb) | ((with_reducible refine Qac (f:=45) rfl ?_); (try (refine Qah (by rfl) ?_; dsimp only)); refine gl (some 19) Tryz.func45 #[.int .i64 s] (h := ?_); (refine (HSite.out _ (bw HB)).mono ?_); rintro e w2 ⟨rfl,hb⟩; refine ⟨_,rfl, ?_⟩; replace BK1:=bl BK1 hb; replace HB:=bs HB hb; clear hb) | ((with_reducible refine Qac (f:=46) rfl ?_); (try (refine Qah (by rfl) ?_; dsimp only)); refine gl (some 24) Tryz.func46 #[.string t] (h := ?_); (refine (HText.out _ (bw HB)).mono ?_); rintro e w2 ⟨rfl,hb⟩; refine ⟨_,rfl, ?_⟩; replace BK1:=bl BK1 hb; replace HB:=bs HB hb; clear hb; obtain ⟨_,_,_,_,_,_,_,_,_,_,_,_,_,_,_,_,_,_,_,_,_,_⟩:=kc11 BK1))
   refine bodyPost_ret (Qbv rfl _ _ gb1 34 #[.int .i64 0, .int .i64 0, .int .i64 0, .int .i64 0, .int .i64 0, .int .i64 0, .string (⟨#[]⟩ : ByteArray), .slice none 0 0, .int .i64 0, .int .i64 0, .int .i64 0] (0,0) _ rfl (bp11 (kk BK1)) hu32 rfl (by kernel_rfl)) rfl ?_
   exact ⟨_,rfl,Kd.R_nil _ _ _ _ _,bw HB⟩
def limB (l0 : List SOp) (a n : Int) (t : ByteArray) : Prop:=a < 0 \/ a > ((Qau l0).length : Int) \/ n < 0 \/ n > ((Qau l0).length : Int) - a \/ (Qba t).length > 12
theorem Seen_at (A0 : Option Addr) (c0 : Nat) (l0 : List SOp) (W : World) (hr0 : Kd.C kOp W A0 l0.length l0) (hc0 : l0.length <= c0) (hsm : smalls l0 = true) (hm : mayB l0 = true) :
  Calls Tryz.prog 47 #[.slice A0 l0.length c0] W fun e w' => ∃ AS cS,e = .returned (.slice AS (Qau l0).length cS) /\ (Qau l0).length <= cS /\ Kd.C Qap w' AS (Qau l0).length (Qau l0) /\ Below W.heap.size W w':=by
 refine (doc_Seen.calls A0 c0 l0 (Qau l0) W hr0 hc0 (by unfold doc_Seen.f; exact if_pos ⟨hsm,hm⟩)).mono ?_
 rintro e w' ⟨v,rfl,hR,hb⟩
 obtain ⟨A,c,rfl,hc,hC⟩:=Kd.R_reads hR
 exact ⟨A,c,rfl,hc,hC,hb⟩
theorem Cnt_at (t : ByteArray) (W : World) (ht : t.size <= 1000000) : Calls Tryz.prog 48 #[.string t] W fun e w' => e = .returned (.int .i64 ((Qba t).length : Int)) /\ Below W.heap.size W w':=utf8_RuneCountInString.calls t _ W (by unfold utf8_RuneCountInString.f; rw [if_pos (by omega)])
theorem seen_200 {L : List SOp} (h : RowOk L) : (Qau L).length <= 200:=Nat.le_trans (List.length_filter_le _ _) (by rw [(Qda h).2]; exact h.sums.2)
theorem Rep_lim (A0 : Option Addr) (c0 : Nat) (l0 : List SOp) (s a n : Int) (t : ByteArray) (w : World) (hr0 : Kd.C kOp w A0 l0.length l0) (hc0 : l0.length <= c0) (hsm : smalls l0 = true) (ht : t.size <= 1000000) (hok : badB l0 s t = false) (hlim : limB l0 a n t) :
  Calls Tryz.prog 10 #[.slice A0 l0.length c0, .int .i64 s, .int .i64 a, .int .i64 n, .string t] w fun e w' => ∃ v7 : Value,e = .returned (.tuple #[.agg #[.int .i64 0, .int .i64 0, .int .i64 0, .int .i64 0, .int .i64 0, .int .i64 0, .string (⟨#[]⟩ : ByteArray),v7, .int .i64 0, .int .i64 0, .int .i64 0], .int .i64 2]) /\ RE w' w.heap.size v7 [] /\ Below w.heap.size w w':=by
 have hgood : mayB l0 = true /\ siteOk s = true /\ Qbq t = true:=by
  unfold badB at hok
  revert hok
  cases mayB l0 <;> cases siteOk s <;> cases Qbq t <;> simp
 obtain ⟨hm,hs,hx⟩:=hgood
 have HSeen:=Zz.k (fun W (hb : Below w.heap.size w W) => Seen_at A0 c0 l0 W (Kd.C_below hr0 hb) hc0 hsm hm)
 have HCnt:=Zz.k (fun W (_ : Below w.heap.size w W) => Cnt_at t W ht)
 have hle:=seen_200 ((Qci l0).1 hm)
 have hu32:=Tryz.underlying34
 have HB:=Zz.k (Below.refl w.heap.size w)
 have HC0:=Zz.k hc0
 have HT:=Zz.k ht
 have HR0:=Zz.k hr0
 have HSM:=Zz.k hsm
 have HMay:=Zz.k (fun W (hb : Below w.heap.size w W) => tree_May.calls A0 c0 l0 (mayB l0) W (Kd.C_below hr0 hb) hc0 (tree_May_f hsm))
 have HSite:=Zz.k (fun W (_ : Below w.heap.size w W) => Site_calls s W)
 have HText:=Zz.k (fun W (_ : Below w.heap.size w W) => text_May.calls t (Qbq t) W rfl)
 clear hr0 hc0 hsm ht
 rw [hm] at HMay
 rw [hs] at HSite
 rw [hx] at HText
 have HMB:=Zz.k (And.intro hm (And.intro hs hx))
 clear hm hs hx hok
 have hq : ∃ q : Nat,q = (Qba t).length:=⟨_,rfl⟩
 obtain ⟨q,hq⟩:=hq
 have hk : ∃ k : Nat,k = (Qau l0).length:=⟨_,rfl⟩
 obtain ⟨k,hk⟩:=hk
 unfold limB at hlim
 rw [<- hq] at HCnt
 rw [<- hk] at hle HSeen
 rw [<- hq,<- hk] at hlim
 clear hq hk
 have c1 : a < 0 \/ (¬ a < 0 /\ a > (k : Int)) \/ (¬ a < 0 /\ ¬ a > (k : Int) /\ n < 0) \/ (¬ a < 0 /\ ¬ a > (k : Int) /\ ¬ n < 0 /\ n > (k : Int) - a) \/ (¬ a < 0 /\ ¬ a > (k : Int) /\ ¬ n < 0 /\ ¬ n > (k : Int) - a /\ ((q : Int) > 12)):=by omega
 clear hlim
 rcases c1 with h1 | ⟨h1,h2⟩ | ⟨h1,h2,h3⟩ | ⟨h1,h2,h3,h4⟩ | ⟨h1,h2,h3,h4,h5⟩
 ·go_enter Tryz.func10,Tryz.ntmps10
  go_wp2_with (first | ((with_reducible refine Qaf (N:=10) rfl ?_); refine bx 10 #[.int .i64 0, .int .i64 0, .int .i64 0, .int .i64 0, .int .i64 0, .int .i64 0, .string (⟨#[]⟩ : ByteArray), .slice none 0 0, .int .i64 0, .int .i64 0, .int .i64 0] 34 (h := ?_); intro gb1 hg w1 hbox hb; have BK1:=Zz.k hbox; have GE1:=Zz.k ((by rw [hg]; exact (Qal (bw HB)) : w.heap.size <= gb1)); replace HB:=bs HB hb; clear hb hbox hg) | ((with_reducible refine Qac (f:=44) rfl ?_); (try (refine Qah (by rfl) ?_; dsimp only)); refine gl (some 15) Tryz.func44 #[.slice A0 l0.length c0] (h := ?_); (refine (HMay.out _ (bw HB)).mono ?_); rintro e w2 ⟨rfl,hb⟩; refine ⟨_,rfl, ?_⟩; replace BK1:=bl BK1 hb; replace HB:=bs HB hb; clear hb) | ((with_reducible refine Qac (f:=45) rfl ?_); (try (refine Qah (by rfl) ?_; dsimp only)); refine gl (some 19) Tryz.func45 #[.int .i64 s] (h := ?_); (refine (HSite.out _ (bw HB)).mono ?_); rintro e w2 ⟨rfl,hb⟩; refine ⟨_,rfl, ?_⟩; replace BK1:=bl BK1 hb; replace HB:=bs HB hb; clear hb) | ((with_reducible refine Qac (f:=46) rfl ?_); (try (refine Qah (by rfl) ?_; dsimp only)); refine gl (some 24) Tryz.func46 #[.string t] (h := ?_); (refine (HText.out _ (bw HB)).mono ?_); rintro e w2 ⟨rfl,hb⟩; refine ⟨_,rfl, ?_⟩; replace BK1:=bl BK1 hb; replace HB:=bs HB hb; clear hb) | ((with_reducible refine Qac (f:=47) rfl ?_); refine gl (some 29) Tryz.func47 #[.slice A0 l0.length c0] (h := ?_); (refine (HSeen.out _ (bw HB)).mono ?_); rintro e w2 ⟨AS,cS,rfl,hcS,hCS,hb⟩; refine ⟨_,rfl, ?_⟩; have HCS:=Zz.k hCS; have HcS:=Zz.k hcS; replace BK1:=bl BK1 hb; replace HB:=bs HB hb; clear hb hCS hcS; obtain ⟨_,_,_,_,_,_,_,_,_,_,_,_,_,_,_,_,_,_,_,_,_,_⟩:=kc11 BK1))
  refine bodyPost_ret (Qbv rfl _ _ gb1 34 #[.int .i64 0, .int .i64 0, .int .i64 0, .int .i64 0, .int .i64 0, .int .i64 0, .string (⟨#[]⟩ : ByteArray), .slice none 0 0, .int .i64 0, .int .i64 0, .int .i64 0] (0,0) _ rfl (bp11 (kk BK1)) hu32 rfl (by kernel_rfl)) rfl ?_
  exact ⟨_,rfl,Kd.R_nil _ _ _ _ _,bw HB⟩
 ·go_enter Tryz.func10,Tryz.ntmps10
  go_wp2_with (first | ((with_reducible refine Qaf (N:=10) rfl ?_); refine bx 10 #[.int .i64 0, .int .i64 0, .int .i64 0, .int .i64 0, .int .i64 0, .int .i64 0, .string (⟨#[]⟩ : ByteArray), .slice none 0 0, .int .i64 0, .int .i64 0, .int .i64 0] 34 (h := ?_); intro gb1 hg w1 hbox hb; have BK1:=Zz.k hbox; have GE1:=Zz.k ((by rw [hg]; exact (Qal (bw HB)) : w.heap.size <= gb1)); replace HB:=bs HB hb; clear hb hbox hg) | ((with_reducible refine Qac (f:=44) rfl ?_); (try (refine Qah (by rfl) ?_; dsimp only)); refine gl (some 15) Tryz.func44 #[.slice A0 l0.length c0] (h := ?_); (refine (HMay.out _ (bw HB)).mono ?_); rintro e w2 ⟨rfl,hb⟩; refine ⟨_,rfl, ?_⟩; replace BK1:=bl BK1 hb; replace HB:=bs HB hb; clear hb) | ((with_reducible refine Qac (f:=45) rfl ?_); (try (refine Qah (by rfl) ?_; dsimp only)); refine gl (some 19) Tryz.func45 #[.int .i64 s] (h := ?_); (refine (HSite.out _ (bw HB)).mono ?_); rintro e w2 ⟨rfl,hb⟩; refine ⟨_,rfl, ?_⟩; replace BK1:=bl BK1 hb; replace HB:=bs HB hb; clear hb) | ((with_reducible refine Qac (f:=46) rfl ?_); (try (refine Qah (by rfl) ?_; dsimp only)); refine gl (some 24) Tryz.func46 #[.string t] (h := ?_); (refine (HText.out _ (bw HB)).mono ?_); rintro e w2 ⟨rfl,hb⟩; refine ⟨_,rfl, ?_⟩; replace BK1:=bl BK1 hb; replace HB:=bs HB hb; clear hb) | ((with_reducible refine Qac (f:=47) rfl ?_); refine gl (some 29) Tryz.func47 #[.slice A0 l0.length c0] (h := ?_); (refine (HSeen.out _ (bw HB)).mono ?_); rintro e w2 ⟨AS,cS,rfl,hcS,hCS,hb⟩; refine ⟨_,rfl, ?_⟩; have HCS:=Zz.k hCS; have HcS:=Zz.k hcS; replace BK1:=bl BK1 hb; replace HB:=bs HB hb; clear hb hCS hcS; obtain ⟨_,_,_,_,_,_,_,_,_,_,_,_,_,_,_,_,_,_,_,_,_,_⟩:=kc11 BK1))
  refine bodyPost_ret (Qbv rfl _ _ gb1 34 #[.int .i64 0, .int .i64 0, .int .i64 0, .int .i64 0, .int .i64 0, .int .i64 0, .string (⟨#[]⟩ : ByteArray), .slice none 0 0, .int .i64 0, .int .i64 0, .int .i64 0] (0,0) _ rfl (bp11 (kk BK1)) hu32 rfl (by kernel_rfl)) rfl ?_
  exact ⟨_,rfl,Kd.R_nil _ _ _ _ _,bw HB⟩
 ·go_enter Tryz.func10,Tryz.ntmps10
  go_wp2_with (first | ((with_reducible refine Qaf (N:=10) rfl ?_); refine bx 10 #[.int .i64 0, .int .i64 0, .int .i64 0, .int .i64 0, .int .i64 0, .int .i64 0, .string (⟨#[]⟩ : ByteArray), .slice none 0 0, .int .i64 0, .int .i64 0, .int .i64 0] 34 (h := ?_); intro gb1 hg w1 hbox hb; have BK1:=Zz.k hbox; have GE1:=Zz.k ((by rw [hg]; exact (Qal (bw HB)) : w.heap.size <= gb1)); replace HB:=bs HB hb; clear hb hbox hg) | ((with_reducible refine Qac (f:=44) rfl ?_); (try (refine Qah (by rfl) ?_; dsimp only)); refine gl (some 15) Tryz.func44 #[.slice A0 l0.length c0] (h := ?_); (refine (HMay.out _ (bw HB)).mono ?_); rintro e w2 ⟨rfl,hb⟩; refine ⟨_,rfl, ?_⟩; replace BK1:=bl BK1 hb; replace HB:=bs HB hb; clear hb) | ((with_reducible refine Qac (f:=45) rfl ?_); (try (refine Qah (by rfl) ?_; dsimp only)); refine gl (some 19) Tryz.func45 #[.int .i64 s] (h := ?_); (refine (HSite.out _ (bw HB)).mono ?_); rintro e w2 ⟨rfl,hb⟩; refine ⟨_,rfl, ?_⟩; replace BK1:=bl BK1 hb; replace HB:=bs HB hb; clear hb) | ((with_reducible refine Qac (f:=46) rfl ?_); (try (refine Qah (by rfl) ?_; dsimp only)); refine gl (some 24) Tryz.func46 #[.string t] (h := ?_); (refine (HText.out _ (bw HB)).mono ?_); rintro e w2 ⟨rfl,hb⟩; refine ⟨_,rfl, ?_⟩; replace BK1:=bl BK1 hb; replace HB:=bs HB hb; clear hb) | ((with_reducible refine Qac (f:=47) rfl ?_); refine gl (some 29) Tryz.func47 #[.slice A0 l0.length c0] (h := ?_); (refine (HSeen.out _ (bw HB)).mono ?_); rintro e w2 ⟨AS,cS,rfl,hcS,hCS,hb⟩; refine ⟨_,rfl, ?_⟩; have HCS:=Zz.k hCS; have HcS:=Zz.k hcS; replace BK1:=bl BK1 hb; replace HB:=bs HB hb; clear hb hCS hcS; obtain ⟨_,_,_,_,_,_,_,_,_,_,_,_,_,_,_,_,_,_,_,_,_,_⟩:=kc11 BK1))
  refine bodyPost_ret (Qbv rfl _ _ gb1 34 #[.int .i64 0, .int .i64 0, .int .i64 0, .int .i64 0, .int .i64 0, .int .i64 0, .string (⟨#[]⟩ : ByteArray), .slice none 0 0, .int .i64 0, .int .i64 0, .int .i64 0] (0,0) _ rfl (bp11 (kk BK1)) hu32 rfl (by kernel_rfl)) rfl ?_
  exact ⟨_,rfl,Kd.R_nil _ _ _ _ _,bw HB⟩
 ·have hw1 : wrap64 ((k : Int) - a) = (k : Int) - a:=Qak (by omega) (by omega)
  go_enter Tryz.func10,Tryz.ntmps10
  go_wp2_with (first | ((with_reducible refine Qaf (N:=10) rfl ?_); refine bx 10 #[.int .i64 0, .int .i64 0, .int .i64 0, .int .i64 0, .int .i64 0, .int .i64 0, .string (⟨#[]⟩ : ByteArray), .slice none 0 0, .int .i64 0, .int .i64 0, .int .i64 0] 34 (h := ?_); intro gb1 hg w1 hbox hb; have BK1:=Zz.k hbox; have GE1:=Zz.k ((by rw [hg]; exact (Qal (bw HB)) : w.heap.size <= gb1)); replace HB:=bs HB hb; clear hb hbox hg) | ((with_reducible refine Qac (f:=44) rfl ?_); (try (refine Qah (by rfl) ?_; dsimp only)); refine gl (some 15) Tryz.func44 #[.slice A0 l0.length c0] (h := ?_); (refine (HMay.out _ (bw HB)).mono ?_); rintro e w2 ⟨rfl,hb⟩; refine ⟨_,rfl, ?_⟩; replace BK1:=bl BK1 hb; replace HB:=bs HB hb; clear hb) | ((with_reducible refine Qac (f:=45) rfl ?_); (try (refine Qah (by rfl) ?_; dsimp only)); refine gl (some 19) Tryz.func45 #[.int .i64 s] (h := ?_); (refine (HSite.out _ (bw HB)).mono ?_); rintro e w2 ⟨rfl,hb⟩; refine ⟨_,rfl, ?_⟩; replace BK1:=bl BK1 hb; replace HB:=bs HB hb; clear hb) | ((with_reducible refine Qac (f:=46) rfl ?_); (try (refine Qah (by rfl) ?_; dsimp only)); refine gl (some 24) Tryz.func46 #[.string t] (h := ?_); (refine (HText.out _ (bw HB)).mono ?_); rintro e w2 ⟨rfl,hb⟩; refine ⟨_,rfl, ?_⟩; replace BK1:=bl BK1 hb; replace HB:=bs HB hb; clear hb) | ((with_reducible refine Qac (f:=47) rfl ?_); refine gl (some 29) Tryz.func47 #[.slice A0 l0.length c0] (h := ?_); (refine (HSeen.out _ (bw HB)).mono ?_); rintro e w2 ⟨AS,cS,rfl,hcS,hCS,hb⟩; refine ⟨_,rfl, ?_⟩; have HCS:=Zz.k hCS; have HcS:=Zz.k hcS; replace BK1:=bl BK1 hb; replace HB:=bs HB hb; clear hb hCS hcS; obtain ⟨_,_,_,_,_,_,_,_,_,_,_,_,_,_,_,_,_,_,_,_,_,_⟩:=kc11 BK1))
  refine bodyPost_ret (Qbv rfl _ _ gb1 34 #[.int .i64 0, .int .i64 0, .int .i64 0, .int .i64 0, .int .i64 0, .int .i64 0, .string (⟨#[]⟩ : ByteArray), .slice none 0 0, .int .i64 0, .int .i64 0, .int .i64 0] (0,0) _ rfl (bp11 (kk BK1)) hu32 rfl (by kernel_rfl)) rfl ?_
  exact ⟨_,rfl,Kd.R_nil _ _ _ _ _,bw HB⟩
 ·have hw1 : wrap64 ((k : Int) - a) = (k : Int) - a:=Qak (by omega) (by omega)
  go_enter Tryz.func10,Tryz.ntmps10
  go_wp2_with (first | ((with_reducible refine Qaf (N:=10) rfl ?_); refine bx 10 #[.int .i64 0, .int .i64 0, .int .i64 0, .int .i64 0, .int .i64 0, .int .i64 0, .string (⟨#[]⟩ : ByteArray), .slice none 0 0, .int .i64 0, .int .i64 0, .int .i64 0] 34 (h := ?_); intro gb1 hg w1 hbox hb; have BK1:=Zz.k hbox; have GE1:=Zz.k ((by rw [hg]; exact (Qal (bw HB)) : w.heap.size <= gb1)); replace HB:=bs HB hb; clear hb hbox hg) | ((with_reducible refine Qac (f:=44) rfl ?_); (try (refine Qah (by rfl) ?_; dsimp only)); refine gl (some 15) Tryz.func44 #[.slice A0 l0.length c0] (h := ?_); (refine (HMay.out _ (bw HB)).mono ?_); rintro e w2 ⟨rfl,hb⟩; refine ⟨_,rfl, ?_⟩; replace BK1:=bl BK1 hb; replace HB:=bs HB hb; clear hb) | ((with_reducible refine Qac (f:=45) rfl ?_); (try (refine Qah (by rfl) ?_; dsimp only)); refine gl (some 19) Tryz.func45 #[.int .i64 s] (h := ?_); (refine (HSite.out _ (bw HB)).mono ?_); rintro e w2 ⟨rfl,hb⟩; refine ⟨_,rfl, ?_⟩; replace BK1:=bl BK1 hb; replace HB:=bs HB hb; clear hb) | ((with_reducible refine Qac (f:=46) rfl ?_); (try (refine Qah (by rfl) ?_; dsimp only)); refine gl (some 24) Tryz.func46 #[.string t] (h := ?_); (refine (HText.out _ (bw HB)).mono ?_); rintro e w2 ⟨rfl,hb⟩; refine ⟨_,rfl, ?_⟩; replace BK1:=bl BK1 hb; replace HB:=bs HB hb; clear hb) | ((with_reducible refine Qac (f:=47) rfl ?_); refine gl (some 29) Tryz.func47 #[.slice A0 l0.length c0] (h := ?_); (refine (HSeen.out _ (bw HB)).mono ?_); rintro e w2 ⟨AS,cS,rfl,hcS,hCS,hb⟩; refine ⟨_,rfl, ?_⟩; have HCS:=Zz.k hCS; have HcS:=Zz.k hcS; replace BK1:=bl BK1 hb; replace HB:=bs HB hb; clear hb hCS hcS) | ((with_reducible refine Qac (f:=48) rfl ?_); (try (refine Qah (by rfl) ?_; dsimp only)); refine gl (some 53) Tryz.func48 #[.string t] (h := ?_); (refine (HCnt.out _ (bw HB)).mono ?_); rintro e w2 ⟨rfl,hb⟩; refine ⟨_,rfl, ?_⟩; replace BK1:=bl BK1 hb; replace HB:=bs HB hb; clear hb; obtain ⟨_,_,_,_,_,_,_,_,_,_,_,_,_,_,_,_,_,_,_,_,_,_⟩:=kc11 BK1))
  refine bodyPost_ret (Qbv rfl _ _ gb1 34 #[.int .i64 0, .int .i64 0, .int .i64 0, .int .i64 0, .int .i64 0, .int .i64 0, .string (⟨#[]⟩ : ByteArray), .slice none 0 0, .int .i64 0, .int .i64 0, .int .i64 0] (0,0) _ rfl (bp11 (kk BK1)) hu32 rfl (by kernel_rfl)) rfl ?_
  exact ⟨_,rfl,Kd.R_nil _ _ _ _ _,bw HB⟩
theorem Rep_none (A0 : Option Addr) (c0 : Nat) (l0 : List SOp) (s a : Int) (t : ByteArray) (w : World) (hr0 : Kd.C kOp w A0 l0.length l0) (hc0 : l0.length <= c0) (hsm : smalls l0 = true) (ht : t.size <= 1000000) (hok : badB l0 s t = false) (hlim : ¬ limB l0 a 0 t) (hte : t.toList.isEmpty = true) :
  Calls Tryz.prog 10 #[.slice A0 l0.length c0, .int .i64 s, .int .i64 a, .int .i64 0, .string t] w fun e w' => ∃ v7 : Value,e = .returned (.tuple #[.agg #[.int .i64 0, .int .i64 0, .int .i64 0, .int .i64 0, .int .i64 0, .int .i64 0, .string (⟨#[]⟩ : ByteArray),v7, .int .i64 0, .int .i64 0, .int .i64 0], .int .i64 3]) /\ RE w' w.heap.size v7 [] /\ Below w.heap.size w w':=by
 have hgood : mayB l0 = true /\ siteOk s = true /\ Qbq t = true:=by
  unfold badB at hok
  revert hok
  cases mayB l0 <;> cases siteOk s <;> cases Qbq t <;> simp
 obtain ⟨hm,hs,hx⟩:=hgood
 have HSeen:=Zz.k (fun W (hb : Below w.heap.size w W) => Seen_at A0 c0 l0 W (Kd.C_below hr0 hb) hc0 hsm hm)
 have HCnt:=Zz.k (fun W (_ : Below w.heap.size w W) => Cnt_at t W ht)
 have hle:=seen_200 ((Qci l0).1 hm)
 have hu32:=Tryz.underlying34
 have HB:=Zz.k (Below.refl w.heap.size w)
 have HC0:=Zz.k hc0
 have HT:=Zz.k ht
 have HR0:=Zz.k hr0
 have HSM:=Zz.k hsm
 have HMay:=Zz.k (fun W (hb : Below w.heap.size w W) => tree_May.calls A0 c0 l0 (mayB l0) W (Kd.C_below hr0 hb) hc0 (tree_May_f hsm))
 have HSite:=Zz.k (fun W (_ : Below w.heap.size w W) => Site_calls s W)
 have HText:=Zz.k (fun W (_ : Below w.heap.size w W) => text_May.calls t (Qbq t) W rfl)
 clear hr0 hc0 hsm ht
 rw [hm] at HMay
 rw [hs] at HSite
 rw [hx] at HText
 have HMB:=Zz.k (And.intro hm (And.intro hs hx))
 clear hm hs hx hok
 have hq : ∃ q : Nat,q = (Qba t).length:=⟨_,rfl⟩
 obtain ⟨q,hq⟩:=hq
 have hk : ∃ k : Nat,k = (Qau l0).length:=⟨_,rfl⟩
 obtain ⟨k,hk⟩:=hk
 unfold limB at hlim
 rw [<- hq] at HCnt
 rw [<- hk] at hle HSeen
 rw [<- hq,<- hk] at hlim
 have h1 : ¬ a < 0:=by omega
 have h2 : ¬ a > (k : Int):=by omega
 have h4 : ¬ (0 : Int) > (k : Int) - a:=by omega
 have h5 : ¬ (q : Int) > 12:=by omega
 have hw1 : wrap64 ((k : Int) - a) = (k : Int) - a:=Qak (by omega) (by omega)
 clear hq hk hlim
 go_enter Tryz.func10,Tryz.ntmps10
 go_wp2_with (first | ((with_reducible refine Qaf (N:=10) rfl ?_); refine bx 10 #[.int .i64 0, .int .i64 0, .int .i64 0, .int .i64 0, .int .i64 0, .int .i64 0, .string (⟨#[]⟩ : ByteArray), .slice none 0 0, .int .i64 0, .int .i64 0, .int .i64 0] 34 (h := ?_); intro gb1 hg w1 hbox hb; have BK1:=Zz.k hbox; have GE1:=Zz.k ((by rw [hg]; exact (Qal (bw HB)) : w.heap.size <= gb1)); replace HB:=bs HB hb; clear hb hbox hg) | ((with_reducible refine Qac (f:=44) rfl ?_); (try (refine Qah (by rfl) ?_; dsimp only)); refine gl (some 15) Tryz.func44 #[.slice A0 l0.length c0] (h := ?_); (refine (HMay.out _ (bw HB)).mono ?_); rintro e w2 ⟨rfl,hb⟩; refine ⟨_,rfl, ?_⟩; replace BK1:=bl BK1 hb; replace HB:=bs HB hb; clear hb) | ((with_reducible refine Qac (f:=45) rfl ?_); (try (refine Qah (by rfl) ?_; dsimp only)); refine gl (some 19) Tryz.func45 #[.int .i64 s] (h := ?_); (refine (HSite.out _ (bw HB)).mono ?_); rintro e w2 ⟨rfl,hb⟩; refine ⟨_,rfl, ?_⟩; replace BK1:=bl BK1 hb; replace HB:=bs HB hb; clear hb) | ((with_reducible refine Qac (f:=46) rfl ?_); (try (refine Qah (by rfl) ?_; dsimp only)); refine gl (some 24) Tryz.func46 #[.string t] (h := ?_); (refine (HText.out _ (bw HB)).mono ?_); rintro e w2 ⟨rfl,hb⟩; refine ⟨_,rfl, ?_⟩; replace BK1:=bl BK1 hb; replace HB:=bs HB hb; clear hb) | ((with_reducible refine Qac (f:=47) rfl ?_); refine gl (some 29) Tryz.func47 #[.slice A0 l0.length c0] (h := ?_); (refine (HSeen.out _ (bw HB)).mono ?_); rintro e w2 ⟨AS,cS,rfl,hcS,hCS,hb⟩; refine ⟨_,rfl, ?_⟩; have HCS:=Zz.k hCS; have HcS:=Zz.k hcS; replace BK1:=bl BK1 hb; replace HB:=bs HB hb; clear hb hCS hcS) | ((with_reducible refine Qac (f:=48) rfl ?_); (try (refine Qah (by rfl) ?_; dsimp only)); refine gl (some 53) Tryz.func48 #[.string t] (h := ?_); (refine (HCnt.out _ (bw HB)).mono ?_); rintro e w2 ⟨rfl,hb⟩; refine ⟨_,rfl, ?_⟩; replace BK1:=bl BK1 hb; replace HB:=bs HB hb; clear hb; obtain ⟨_,_,_,_,_,_,_,_,_,_,_,_,_,_,_,_,_,_,_,_,_,_⟩:=kc11 BK1))
 refine bodyPost_ret (Qbv rfl _ _ gb1 34 #[.int .i64 0, .int .i64 0, .int .i64 0, .int .i64 0, .int .i64 0, .int .i64 0, .string (⟨#[]⟩ : ByteArray), .slice none 0 0, .int .i64 0, .int .i64 0, .int .i64 0] (0,0) _ rfl (bp11 (kk BK1)) hu32 rfl (by kernel_rfl)) rfl ?_
 exact ⟨_,rfl,Kd.R_nil _ _ _ _ _,bw HB⟩
theorem Next_loop (l : List SOp) (hl : l.length <= 1000000) (s : Int) : ∀ d i (c : Nat),i + d = l.length -> c <= i + 1 -> Ev (fun k => edit_Next.l0 k s (c : Int) l (l.length : Int) (i : Int)) ((c + Qbw (l.drop i) s : Nat) : Int)
 | 0,i,c,h,hc => Ev.step (f:=fun _ => some ((c + Qbw (l.drop i) s : Nat) : Int)) (fun k => by
   simp only [edit_Next.l0]
   rw [if_neg (by omega),List.drop_of_length_le (by omega)]; rfl) (Ev.now _)
 | d + 1,i,c,h,hc => by
  have hi : i < l.length:=by omega
  have hw : wrap64 ((i : Int) + 1) = ((i + 1 : Nat) : Int):=by rw [Qak (by omega) (by omega)]; omega
  have hwc : wrap64 ((c : Int) + 1) = ((c + 1 : Nat) : Int):=by rw [Qak (by omega) (by omega)]; omega
  have hd : l.drop i = l[i] :: l.drop (i + 1):=List.drop_eq_getElem_cons hi
  have hcs : Qbw (l.drop i) s = Qbw (l.drop (i + 1)) s + if l[i].f0 = s then 1 else 0:=by
   rw [hd]; unfold Qbw; rw [List.countP_cons]; simp
  by_cases hs : l[i].f0 = s
  ·have ih:=Next_loop l hl s d (i + 1) (c + 1) (by omega) (by omega)
   rw [hcs,if_pos hs,show c + (Qbw (l.drop (i + 1)) s + 1) = c + 1 + Qbw (l.drop (i + 1)) s by omega]
   refine Ev.step (fun k => ?_) ih
   simp only [edit_Next.l0]
   rw [if_pos (by omega),if_pos (by omega),if_pos (by omega),Qar _ _ hi,if_pos hs,hw,hwc]
  ·have ih:=Next_loop l hl s d (i + 1) c (by omega) (by omega)
   rw [hcs,if_neg hs,Nat.add_zero]
   refine Ev.step (fun k => ?_) ih
   simp only [edit_Next.l0]
   rw [if_pos (by omega),if_pos (by omega),if_pos (by omega),Qar _ _ hi,if_neg hs,hw]
theorem Next_at (A0 : Option Addr) (c0 : Nat) (l0 : List SOp) (s : Int) (W : World) (hr0 : Kd.C kOp W A0 l0.length l0) (hc0 : l0.length <= c0) (hl : l0.length <= 1000000) :
  Calls Tryz.prog 49 #[.slice A0 l0.length c0, .int .i64 s] W fun e w' => e = .returned (.int .i64 ((Qbw l0 s + 1 : Nat) : Int)) /\ Below W.heap.size W w':=by
 obtain ⟨k,hk⟩:=(Next_loop l0 hl s l0.length 0 1 (Nat.zero_add _) (by omega)).rounds
 rw [List.drop_zero,Nat.add_comm] at hk
 exact edit_Next.calls k A0 c0 l0 s _ W hr0 hc0 hk
theorem Clone_at {A : Option Addr} {k cS a n : Nat} {v : List SElem} {W : World} (hC : Kd.C Qap W A k v) (hk : k = v.length) (hcs : k <= cS) (han : a + n <= k) (h6 : k <= 1000000) (m : Nat) (hm : m = n) (gv : List SElem) (hgv : gv = (v.drop a).take n) :
  Calls Tryz.prog 50 #[.slice (if cS = a then A else Option.map (fun x => x.add (a * 3)) A) m (cS - a)] W fun e w' => ∃ v',e = .returned v' /\ RE w' W.heap.size v' gv /\ Below W.heap.size W w':=by
 subst hk hm hgv
 have h:=Kd.C_mid (lo:=a) (hi:=a + m) (c:=cS) hC (by omega) han hcs
 have e : (v.take (a + m)).drop a = (v.drop a).take m:=by rw [List.drop_take]; congr 1; omega
 rw [e] at h
 have hl : ((v.drop a).take m).length = m:=by rw [List.length_take,List.length_drop]; omega
 have:=clone_calls (if cS = a then A else A.map (·.add (a * Qap.sz))) (cS - a) ((v.drop a).take m) W h (by rw [hl]; omega)
 rw [hl] at this
 exact this
abbrev put11 (W : World) (g : Nat) (v0 v1 v2 v3 v4 v5 v6 v7 v8 v9 v10 : Value) : World:=((((((((((W.setCell ⟨g,0,none⟩ v0).setCell ⟨g,1,none⟩ v1).setCell ⟨g,2,none⟩ v2).setCell ⟨g,3,none⟩ v3).setCell ⟨g,4,none⟩ v4).setCell ⟨g,5,none⟩ v5).setCell ⟨g,6,none⟩ v6).setCell ⟨g,7,none⟩ v7).setCell ⟨g,8,none⟩ v8).setCell ⟨g,9,none⟩ v9).setCell ⟨g,10,none⟩ v10
theorem put11_far {W : World} {g g1 : Nat} {t : TypeId} {cs : Array Value} (h : W.heap[g1]? = some (.cells cs t (0,0))) (hne : g1 ≠ g) (v0 v1 v2 v3 v4 v5 v6 v7 v8 v9 v10 : Value) : (put11 W g v0 v1 v2 v3 v4 v5 v6 v7 v8 v9 v10).heap[g1]? = some (.cells cs t (0,0)):=by
 exact Qcn (p:=⟨g,10,none⟩) (Qcn (p:=⟨g,9,none⟩) (Qcn (p:=⟨g,8,none⟩) (Qcn (p:=⟨g,7,none⟩) (Qcn (p:=⟨g,6,none⟩) (Qcn (p:=⟨g,5,none⟩) (Qcn (p:=⟨g,4,none⟩) (Qcn (p:=⟨g,3,none⟩) (Qcn (p:=⟨g,2,none⟩) (Qcn (p:=⟨g,1,none⟩) (Qcn (p:=⟨g,0,none⟩) h hne v0) hne v1) hne v2) hne v3) hne v4) hne v5) hne v6) hne v7) hne v8) hne v9) hne v10
theorem put11_below {n : Nat} {w W : World} {g : Nat} (h : Below n w W) (hg : n <= g) (v0 v1 v2 v3 v4 v5 v6 v7 v8 v9 v10 : Value) : Below n w (put11 W g v0 v1 v2 v3 v4 v5 v6 v7 v8 v9 v10):=by
 exact Below.setCell (Below.setCell (Below.setCell (Below.setCell (Below.setCell (Below.setCell (Below.setCell (Below.setCell (Below.setCell (Below.setCell (Below.setCell h hg v0) hg v1) hg v2) hg v3) hg v4) hg v5) hg v6) hg v7) hg v8) hg v9) hg v10
theorem put11_here {W : World} {g : Nat} {t : TypeId} {b0 b1 b2 b3 b4 b5 b6 b7 b8 b9 b10 : Value} (h : W.heap[g]? = some (.cells #[b0,b1,b2,b3,b4,b5,b6,b7,b8,b9,b10] t (0,0))) (v0 v1 v2 v3 v4 v5 v6 v7 v8 v9 v10 : Value) : (put11 W g v0 v1 v2 v3 v4 v5 v6 v7 v8 v9 v10).heap[g]? = some (.cells #[v0,v1,v2,v3,v4,v5,v6,v7,v8,v9,v10] t (0,0)):=bp11 h
theorem put11_R {W : World} {base g : Nat} {v : Value} {xs : List SElem} {cs : Array Value} (h : RE W base v xs) (hb : W.heap[g]? = some (.cells cs 34 (0,0))) (v0 v1 v2 v3 v4 v5 v6 v7 v8 v9 v10 : Value) : RE (put11 W g v0 v1 v2 v3 v4 v5 v6 v7 v8 v9 v10) base v xs :=
 Kd.R_mono (rf11 (Kd.R_types h hb (by decide))) (fun _ _ => trivial)
theorem case_after (a : Nat) (t : ByteArray) : (0 < a /\ t.toList.isEmpty = false) \/ t.toList.isEmpty = true \/ (t.toList.isEmpty = false /\ a = 0):=by
 cases h : t.toList.isEmpty
 ·rcases Nat.eq_zero_or_pos a with h0 | h0
  ·exact .inr (.inr ⟨rfl,h0⟩)
  ·exact .inl ⟨h0,rfl⟩
 ·exact .inr (.inl rfl)
theorem put3_far {W : World} {g g1 : Nat} {t : TypeId} {cs : Array Value} (h : W.heap[g1]? = some (.cells cs t (0,0))) (hne : g1 ≠ g) (v3 v4 v5 : Value) : (((W.setCell ⟨g,3,none⟩ v3).setCell ⟨g,4,none⟩ v4).setCell ⟨g,5,none⟩ v5).heap[g1]? = some (.cells cs t (0,0)):=Qcn (p:=⟨g,5,none⟩) (Qcn (p:=⟨g,4,none⟩) (Qcn (p:=⟨g,3,none⟩) h hne v3) hne v4) hne v5
theorem put3_below {n : Nat} {w W : World} {g : Nat} (h : Below n w W) (hg : n <= g) (v3 v4 v5 : Value) : Below n w (((W.setCell ⟨g,3,none⟩ v3).setCell ⟨g,4,none⟩ v4).setCell ⟨g,5,none⟩ v5):=Below.setCell (Below.setCell (Below.setCell h hg v3) hg v4) hg v5
theorem put3_here {W : World} {g : Nat} {t : TypeId} {b0 b1 b2 b3 b4 b5 b6 b7 b8 b9 b10 : Value} (h : W.heap[g]? = some (.cells #[b0,b1,b2,b3,b4,b5,b6,b7,b8,b9,b10] t (0,0))) (v3 v4 v5 : Value) : (((W.setCell ⟨g,3,none⟩ v3).setCell ⟨g,4,none⟩ v4).setCell ⟨g,5,none⟩ v5).heap[g]? = some (.cells #[b0,b1,b2,v3,v4,v5,b6,b7,b8,b9,b10] t (0,0)):=bp (bp (bp h 3) 4) 5
theorem put3_R {W : World} {base g : Nat} {v : Value} {xs : List SElem} {cs : Array Value} (h : RE W base v xs) (hb : W.heap[g]? = some (.cells cs 34 (0,0))) (v3 v4 v5 : Value) : RE (((W.setCell ⟨g,3,none⟩ v3).setCell ⟨g,4,none⟩ v4).setCell ⟨g,5,none⟩ v5) base v xs :=
 Kd.R_mono (Kd.R_far (p:=⟨g,5,none⟩) (Kd.R_far (p:=⟨g,4,none⟩) (Kd.R_far (p:=⟨g,3,none⟩) (Kd.R_types h hb (by decide)) (fun _ hk => hk.2) v3) (fun _ hk => hk.2) v4) (fun _ hk => hk.2) v5) (fun _ _ => trivial)
def RepPost (l0 : List SOp) (s : Int) (a n : Nat) (t : ByteArray) (b : Bool) (w : World) (e : Ending) (w' : World) : Prop:=∃ v7 : Value,(if b = true then e = .returned (.tuple #[.agg #[.int .i64 s, .int .i64 ((Qbw l0 s + 1 : Nat) : Int), .int .i64 1, .int .i64 (repA l0 a t).f0, .int .i64 (repA l0 a t).f1, .int .i64 (repA l0 a t).f2, .string t,v7, .int .i64 0, .int .i64 0, .int .i64 0], .int .i64 0]) /\ RE w' w.heap.size v7 (repG l0 a n) else e = .returned (.tuple #[.agg #[.int .i64 0, .int .i64 0, .int .i64 0, .int .i64 0, .int .i64 0, .int .i64 0, .string (⟨#[]⟩ : ByteArray),v7, .int .i64 0, .int .i64 0, .int .i64 0], .int .i64 6]) /\ v7 = .slice none 0 0) /\ Below w.heap.size w w'
theorem sort_any {W : World} {base : Nat} {v : Value} {xs : List SElem} (h : RE W base v xs) (hl : xs.length <= 1000000) :
  Calls Tryz.prog 51 #[v, .func (.func 52) #[] #[]] W fun e w' => e = .returned (.tuple #[]) /\ RE w' base v (sortL xs) /\ ∃ row,W.grownBy w' row /\ ∀ k,row = some k -> v.ownBlock = some k:=by
 rcases Nat.eq_zero_or_pos xs.length with h0 | h0
 ·obtain rfl : xs = []:=List.eq_nil_of_length_eq_zero h0
  obtain ⟨A,c,rfl⟩:=Kd.R_slice h
  have hc:=AnyF.slices_SortFunc_none Tryz.sortEl A c (.func (.func 52) #[] #[]) W
  change Calls Tryz.prog 51 _ _ _ at hc
  refine hc.mono ?_
  rintro e w' ⟨rfl,rfl⟩
  have hs : sortL [] = []:=List.eq_nil_of_length_eq_zero (List.length_mergeSort _)
  exact ⟨rfl,by rw [hs]; exact h,none,World.grownBy.refl _ _,fun k hk => by cases hk⟩
 ·obtain ⟨g,c,rfl,hb,hlt,_⟩:=Kd.R_form h h0
  refine (sort_calls h hlt hl).mono ?_
  rintro e w' ⟨rfl,h1,h2⟩
  exact ⟨rfl,h1,some g,h2,fun k hk => hk⟩
theorem sort_keep {W w' : World} {base g : Nat} {v : Value} {xs : List SElem} {cs : Array Value} {row : Option Nat} (h : RE W base v xs) (hb : W.heap[g]? = some (.cells cs 34 (0,0))) (hg : W.grownBy w' row) (hr : ∀ k,row = some k -> v.ownBlock = some k) : w'.heap[g]? = some (.cells cs 34 (0,0)):=by
 have hne : some g ≠ row:=by
  intro e
  have h1:=(Kd.R_types h hb (by decide)).1 g (hr g e.symm)
  exact h1.2 rfl
 exact (hg.block g (blk_lt hb) hne).trans hb
theorem full_n (A0 : Option Addr) (c0 : Nat) (l0 : List SOp) (a0 a1 a2 a3 a4 a5 : Int) (a6 : ByteArray) (l7 : List SElem) (a8 a9 a10 : Int) (A7 : Option Addr) (m c7 : Nat) (hm7 : l7.length = m) (b : Bool) (w : World) (hr0 : Kd.C kOp w A0 l0.length l0) (hc0 : l0.length <= c0) (base : Nat) (hr7 : RE w base (.slice A7 m c7) l7) (hl : l0.length <= 1000000) (hsm : smalls (l0 ++ [⟨a0,a1,a2,⟨a3,a4,a5⟩,a6,l7,a8,a9,a10⟩]) = true) (hm : mayB (l0 ++ [⟨a0,a1,a2,⟨a3,a4,a5⟩,a6,l7,a8,a9,a10⟩]) = b) :
  Calls Tryz.prog 53 #[.slice A0 l0.length c0, .agg #[.int .i64 a0, .int .i64 a1, .int .i64 a2, .int .i64 a3, .int .i64 a4, .int .i64 a5, .string a6, .slice A7 m c7, .int .i64 a8, .int .i64 a9, .int .i64 a10]] w fun e w' =>
   (if b = true then e = .returned (.tuple #[.agg #[.int .i64 a0, .int .i64 a1, .int .i64 a2, .int .i64 a3, .int .i64 a4, .int .i64 a5, .string a6, .slice A7 m c7, .int .i64 a8, .int .i64 a9, .int .i64 a10], .int .i64 0]) else e = .returned (.tuple #[.agg #[.int .i64 0, .int .i64 0, .int .i64 0, .int .i64 0, .int .i64 0, .int .i64 0, .string (⟨#[]⟩ : ByteArray), .slice none 0 0, .int .i64 0, .int .i64 0, .int .i64 0], .int .i64 6])) /\ Below w.heap.size w w':=by
 subst hm7
 have h:=Kd.R_reads' hr7
 exact full_calls A0 c0 l0 a0 a1 a2 a3 a4 a5 a6 l7 a8 a9 a10 A7 c7 b w hr0 hc0 h.2.2 h.2.1 hl hsm hm
theorem exKe {P : Program} {ops : Array Oper} {Q : Exit -> Act -> World -> Prop} {S : World -> Prop} {F : Act -> World -> Prop} {K : Act -> World -> Prop} {oi : Oper} {a : Act} {w : World} {N : Option Tmp} (hK : Shut (∀ a' w',S w' -> (S w' -> F a' w') -> K a' w')) (u : Value) (w' : World) (hw : Region.wanted oi (yielded ops a.tmps) = true:=by rfl) (hN : oi.dst = N:=by rfl)
  (hrun : (execOp a.eval oi).run P w = .ok (.value u) w') (hS : S w') (h : S w' -> F (a.put N u) w') : if Region.wanted oi (yielded ops a.tmps) = true then Oper.wp P oi a w K Q else K (a.put N undef) w:=by
 rw [if_pos hw]
 unfold Oper.wp
 rw [hrun,Oper.upon_value,hN]
 exact hK.out _ w' hS h
theorem Rep_ok (A0 : Option Addr) (c0 : Nat) (l0 : List SOp) (s : Int) (a n : Nat) (t : ByteArray) (w : World) (hr0 : Kd.C kOp w A0 l0.length l0) (hc0 : l0.length <= c0) (hsm : smalls l0 = true) (ht : t.size <= 1000000) (hok : badB l0 s t = false) (hlim : ¬ limB l0 (a : Int) (n : Int) t) (hne : ¬ (n = 0 /\ t.toList.isEmpty = true)) (b : Bool) (hbb : mayB (l0 ++ [repO l0 s a n t]) = b) :
  Calls Tryz.prog 10 #[.slice A0 l0.length c0, .int .i64 s, .int .i64 (a : Int), .int .i64 (n : Int), .string t] w fun e w' => RepPost l0 s a n t b w e w':=by
 have HBB:=Zz.k hbb
 clear hbb
 obtain ⟨c1,hc1⟩ : ∃ c1 : Int,c1 = ((Qbw l0 s + 1 : Nat) : Int):=⟨_,rfl⟩
 obtain ⟨gv,hgv⟩ : ∃ gv : List SElem,gv = ((Qau l0).drop a).take n:=⟨_,rfl⟩
 have HGV:=Zz.k hgv
 have HC1:=Zz.k hc1
 have HSN0:=Zz.k (fun x => smalls_snoc (o:=⟨s,c1,1,x,t,sortL gv,0,0,0⟩) hsm (by have:=((Qci l0).1 (by unfold badB at hok; revert hok; cases mayB l0 <;> simp)).sums.1; omega) ht (by have h200:=seen_200 ((Qci l0).1 (by unfold badB at hok; revert hok; cases mayB l0 <;> simp)); show (sortL _).length <= 1000000; unfold sortL; rw [List.length_mergeSort,hgv,List.length_take,List.length_drop]; omega))
 have hl40:=((Qci l0).1 (by unfold badB at hok; revert hok; cases mayB l0 <;> simp)).sums.1
 have HL:=Zz.k (show l0.length <= 1000000 by omega)
 have HGL:=Zz.k (show gv.length <= 1000000 by have h200:=seen_200 ((Qci l0).1 (by unfold badB at hok; revert hok; cases mayB l0 <;> simp)); rw [hgv,List.length_take,List.length_drop]; omega)
 have HRL:=Zz.k (show repG l0 a n = sortL gv by unfold repG; rw [hgv])
 have HNext:=Zz.k (fun W (hb : Below w.heap.size w W) => show Calls Tryz.prog 49 #[.slice A0 l0.length c0, .int .i64 s] W fun e w' => e = .returned (.int .i64 c1) /\ Below W.heap.size W w' by rw [hc1]; exact Next_at A0 c0 l0 s W (Kd.C_below hr0 hb) hc0 (by omega))
 clear hgv hc1
 have hgood : mayB l0 = true /\ siteOk s = true /\ Qbq t = true:=by
  unfold badB at hok
  revert hok
  cases mayB l0 <;> cases siteOk s <;> cases Qbq t <;> simp
 obtain ⟨hm,hs,hx⟩:=hgood
 have HSeen:=Zz.k (fun W (hb : Below w.heap.size w W) => Seen_at A0 c0 l0 W (Kd.C_below hr0 hb) hc0 hsm hm)
 have HCnt:=Zz.k (fun W (_ : Below w.heap.size w W) => Cnt_at t W ht)
 have hle:=seen_200 ((Qci l0).1 hm)
 have hu32:=Tryz.underlying34
 have HB:=Zz.k (Below.refl w.heap.size w)
 have HC0:=Zz.k hc0
 have HT:=Zz.k ht
 have HR0:=Zz.k hr0
 have HSM:=Zz.k hsm
 have HMay:=Zz.k (fun W (hb : Below w.heap.size w W) => tree_May.calls A0 c0 l0 (mayB l0) W (Kd.C_below hr0 hb) hc0 (tree_May_f hsm))
 have HSite:=Zz.k (fun W (_ : Below w.heap.size w W) => Site_calls s W)
 have HText:=Zz.k (fun W (_ : Below w.heap.size w W) => text_May.calls t (Qbq t) W rfl)
 clear hr0 hc0 hsm ht
 rw [hm] at HMay
 rw [hs] at HSite
 rw [hx] at HText
 have HMB:=Zz.k (And.intro hm (And.intro hs hx))
 clear hm hs hx hok
 have hq : ∃ q : Nat,q = (Qba t).length:=⟨_,rfl⟩
 obtain ⟨q,hq⟩:=hq
 have hk : ∃ k : Nat,k = (Qau l0).length:=⟨_,rfl⟩
 obtain ⟨k,hk⟩:=hk
 unfold limB at hlim
 rw [<- hq] at HCnt
 rw [<- hk] at hle HSeen
 rw [<- hq,<- hk] at hlim
 have h1 : ¬ (a : Int) < 0:=by omega
 have h2 : ¬ (a : Int) > (k : Int):=by omega
 have h3 : ¬ (n : Int) < 0:=by omega
 have h4 : ¬ (n : Int) > (k : Int) - (a : Int):=by omega
 have h5 : ¬ (q : Int) > 12:=by omega
 have hw1 : wrap64 ((k : Int) - (a : Int)) = (k : Int) - (a : Int):=Qak (by omega) (by omega)
 have HK:=Zz.k hk
 have HAN:=Zz.k (show a + n <= k by omega)
 have HLE:=Zz.k (show k <= 1000000 by omega)
 clear hq hk hlim
 go_enter Tryz.func10,Tryz.ntmps10
 go_upto_region 6 with (first | ((with_reducible refine Qaf (N:=10) rfl ?_); refine bx 10 #[.int .i64 0, .int .i64 0, .int .i64 0, .int .i64 0, .int .i64 0, .int .i64 0, .string (⟨#[]⟩ : ByteArray), .slice none 0 0, .int .i64 0, .int .i64 0, .int .i64 0] 34 (h := ?_); intro gb1 hg w1 hbox hb; have BK1:=Zz.k hbox; have GE1:=Zz.k ((by rw [hg]; exact (Qal (bw HB)) : w.heap.size <= gb1)); replace HB:=bs HB hb; clear hb hbox hg) | ((with_reducible refine Qac (f:=44) rfl ?_); (try (refine Qah (by rfl) ?_; dsimp only)); refine gl (some 15) Tryz.func44 #[.slice A0 l0.length c0] (h := ?_); (refine (HMay.out _ (bw HB)).mono ?_); rintro e w2 ⟨rfl,hb⟩; refine ⟨_,rfl, ?_⟩; replace BK1:=bl BK1 hb; replace HB:=bs HB hb; clear hb) | ((with_reducible refine Qac (f:=45) rfl ?_); (try (refine Qah (by rfl) ?_; dsimp only)); refine gl (some 19) Tryz.func45 #[.int .i64 s] (h := ?_); (refine (HSite.out _ (bw HB)).mono ?_); rintro e w2 ⟨rfl,hb⟩; refine ⟨_,rfl, ?_⟩; replace BK1:=bl BK1 hb; replace HB:=bs HB hb; clear hb) | ((with_reducible refine Qac (f:=46) rfl ?_); (try (refine Qah (by rfl) ?_; dsimp only)); refine gl (some 24) Tryz.func46 #[.string t] (h := ?_); (refine (HText.out _ (bw HB)).mono ?_); rintro e w2 ⟨rfl,hb⟩; refine ⟨_,rfl, ?_⟩; replace BK1:=bl BK1 hb; replace HB:=bs HB hb; clear hb) | ((with_reducible refine Qac (f:=47) rfl ?_); refine gl (some 29) Tryz.func47 #[.slice A0 l0.length c0] (h := ?_); (refine (HSeen.out _ (bw HB)).mono ?_); rintro e w2 ⟨AS,cS,rfl,hcS,hCS,hb⟩; refine ⟨_,rfl, ?_⟩; have HCS:=Zz.k hCS; have HcS:=Zz.k hcS; replace BK1:=bl BK1 hb; replace HB:=bs HB hb; clear hb hCS hcS) | ((with_reducible refine Qac (f:=48) rfl ?_); (try (refine Qah (by rfl) ?_; dsimp only)); refine gl (some 53) Tryz.func48 #[.string t] (h := ?_); (refine (HCnt.out _ (bw HB)).mono ?_); rintro e w2 ⟨rfl,hb⟩; refine ⟨_,rfl, ?_⟩; replace HCS:=Zz.k (Kd.C_below HCS.out hb); replace BK1:=bl BK1 hb; replace HB:=bs HB hb; clear hb))
 go_cut [3,57] from 14 (fun s3 s57 wx => s3 = .int .i64 (n : Int) /\ s57 = .bool false /\ wx = w2)
 case first =>
  by_cases hn0 : (n : Int) = 0
  ·have ht0 : t.toList.isEmpty = false:=by
    cases ht : t.toList.isEmpty
    ·rfl
    ·exact absurd ⟨by omega,ht⟩ hne
   go_wp2
   go_meet
   case rel => exact ⟨by rw [hn0],rfl,rfl⟩
  ·go_wp2
   go_meet
   case rel => exact ⟨rfl,rfl,rfl⟩
 case rest =>
  clear hne
  obtain ⟨rfl,rfl,rfl⟩:=hcut
  go_upto_region 8 with (fail)
  go_cut [13] from 65 (fun s13 wx => ∃ (gbo : Nat) (AG : Option Addr) (cG : Nat),s13 = .pointer (some ⟨gbo,0,none⟩) /\ Zz (wx.heap[gbo]? = some (.cells #[.int .i64 s, .int .i64 c1, .int .i64 1, .int .i64 0, .int .i64 0, .int .i64 0, .string t, .slice AG gv.length cG, .int .i64 0, .int .i64 0, .int .i64 0] 34 (0,0))) /\ Zz (RE wx w.heap.size (.slice AG gv.length cG) gv) /\ Zz (wx.heap[gb1]? = some (.cells #[.int .i64 0, .int .i64 0, .int .i64 0, .int .i64 0, .int .i64 0, .int .i64 0, .string (⟨#[]⟩ : ByteArray), .slice none 0 0, .int .i64 0, .int .i64 0, .int .i64 0] 34 (0,0))) /\ Zz (Below w.heap.size w wx) /\ Zz (Kd.C Qap wx AS k (Qau l0)) /\ Zz (gb1 ≠ gbo) /\ Zz (gbo ≠ gb1) /\ Zz (w.heap.size <= gbo))
  case first =>
   have hwa : wrap64 ((a : Int) + (n : Int)) = (a : Int) + (n : Int):=Qak (by omega) (by omega)
   have hwa0 : wrap64 (a : Int) = (a : Int):=Qak (by omega) (by omega)
   have hcS:=HcS.out
   have hs1 : (0 : Int) <= (a : Int) + (n : Int):=by omega
   have hs2 : (a : Int) + (n : Int) <= (cS : Int):=by have:=HAN.out; omega
   have hs3 : (a : Int) <= (cS : Int):=by omega
   have hs4 : ((a : Int) + (n : Int)).toNat = a + n:=by omega
   refine stL (S:=fun _ => True) [14] 15 t_edit_Replace.bits8 t_edit_Replace.tab8 (hS:=trivial) (h:=fun hS HT HW => ?_)
   have HB8:=Zz.k (show Below w.heap.size w wc.drew from bw HB)
   replace BK1:=Zz.k (show wc.drew.heap[gb1]? = some _ from kk BK1)
   have HC8:=Zz.k (show Kd.C Qap wc.drew AS k (Qau l0) from HCS.out)
   clear HB HCS
   generalize wc.drew = wd at HB8 BK1 HC8 ⊢
   have HD:=Zz.k (Below.refl wd.heap.size wd)
   have HE8:=HC8
   refine pu HT 0 65 1 (h := ?_)
   refine pu HT 1 66 3 (h := ?_)
   refine pu HT 2 67 7 (h := ?_)
   refine pu HT 4 69 23 (h := ?_)
   refine pu HT 5 70 55 (h := ?_)
   refine pu HT 6 71 119 (h := ?_)
   refine pu HT 7 72 247 (h := ?_)
   refine pu HT 8 73 503 (h := ?_)
   refine pu HT 9 74 1015 (h := ?_)
   refine pu HT 10 75 2039 (h := ?_)
   refine two_ (i:=3) (j:=13) (Ni:=some 68) (Nj:=some 13) (bA 15 2047) (bA 15 10231) rfl rfl rfl rfl (two_of HT.out (by kernel_rfl)) (by decide) (by decide) (fun K hK => ?o1y) (fun K hK => ?o2y)
   case' o1y =>
    refine gS Tryz.func49 #[.slice A0 l0.length c0, .int .i64 s] (h := ?_)
    refine (HNext.out _ (Qas HB8.out (bw HD))).mono ?_
    rintro e w3 ⟨rfl,hb⟩
    replace HC8:=Zz.k (Kd.C_below HC8.out hb)
    replace BK1:=bl BK1 hb
    replace HD:=bs HD hb
    refine ⟨_,rfl, ?_⟩
    refine hK.out _ _ trivial (fun hS => ?_)
    clear hK hb
    refine nm (h := ?_)
    refine two_ (i:=11) (j:=13) (Ni:=some 76) (Nj:=some 13) (bA 15 4095) (bA 15 10239) rfl rfl rfl rfl (two_of HT.out (by kernel_rfl)) (by decide) (by decide) (fun K hK => ?o3y) (fun K hK => ?o4y)
   case' o3y =>
    refine gS Tryz.func50 #[.slice (if cS = a then AS else Option.map (fun x => x.add (a * 3)) AS) n (cS - a)] (h := ?_)
    refine (Clone_at HC8.out HK.out HcS.out HAN.out HLE.out n rfl gv HGV.out).mono ?_
    rintro e w4 ⟨v4,rfl,hR,hb⟩
    obtain ⟨AG,cG,rfl⟩:=Kd.R_slice hR
    have HRG:=Zz.k (Kd.R_lower hR (Qas HB8.out (bw HD)).size)
    replace BK1:=bl BK1 hb
    replace HD:=bs HD hb
    refine ⟨_,rfl, ?_⟩
    refine hK.out _ _ trivial (fun hS => ?_)
    clear hK hb hR HC8
    refine nm (h := ?_)
    refine pu HT 12 77 8191 (h := ?_)
    have hbox:=heap_alloc_new w4 (.cells #[.int .i64 0, .int .i64 0, .int .i64 0, .int .i64 0, .int .i64 0, .int .i64 0, .string (⟨#[]⟩ : ByteArray), .slice none 0 0, .int .i64 0, .int .i64 0, .int .i64 0] 34 (0,0))
    have hbb:=Qag (Below.refl w4.heap.size w4) (.cells #[.int .i64 0, .int .i64 0, .int .i64 0, .int .i64 0, .int .i64 0, .int .i64 0, .string (⟨#[]⟩ : ByteArray), .slice none 0 0, .int .i64 0, .int .i64 0, .int .i64 0] 34 (0,0))
    have GEo:=Zz.k (show wd.heap.size <= w4.heap.size from Qal (bw HD))
    have NBo1:=bn BK1 (show w4.heap.size = w4.heap.size from rfl)
    have NBo2:=bm BK1 (show w4.heap.size = w4.heap.size from rfl)
    refine exS HT 13 (some 13) 16383 (.pointer (some ⟨w4.heap.size,0,none⟩)) (w4.alloc (.cells #[.int .i64 0, .int .i64 0, .int .i64 0, .int .i64 0, .int .i64 0, .int .i64 0, .string (⟨#[]⟩ : ByteArray), .slice none 0 0, .int .i64 0, .int .i64 0, .int .i64 0] 34 (0,0))) (hrun:=by first | (go_simp; done) | (go_simp; rfl)) (hS:=trivial) (h:=fun hS => ?_)
    replace HRG:=Zz.k (Kd.R_below HRG.out hbb)
    replace BK1:=bl BK1 hbb
    replace HD:=bs HD hbb
    generalize w4.alloc (.cells #[.int .i64 0, .int .i64 0, .int .i64 0, .int .i64 0, .int .i64 0, .int .i64 0, .string (⟨#[]⟩ : ByteArray), .slice none 0 0, .int .i64 0, .int .i64 0, .int .i64 0] 34 (0,0)) = wa at hbox BK1 HD HRG ⊢
    generalize hgo : w4.heap.size = gbo at hbox NBo1 NBo2 ⊢
    replace GEo:=Zz.k (show wd.heap.size <= gbo by have:=GEo.out; omega)
    clear hgo
    have BKo:=Zz.k hbox
    clear hbox hbb
    refine nm (h := ?_)
    obtain ⟨_,_,_,_,_,_,_,_,_,_,_,_,_,_,_,_,_,_,_,_,_,_⟩:=kc11 BKo
    refine skL HT 14 32767 (put11 wa gbo (.int .i64 s) (.int .i64 c1) (.int .i64 1) (.int .i64 0) (.int .i64 0) (.int .i64 0) (.string t) (.slice AG gv.length cG) (.int .i64 0) (.int .i64 0) (.int .i64 0)) (hrun:=by first | (go_simp; done) | (go_simp; rfl)) (h := ?_)
    replace HD:=Zz.k (put11_below HD.out GEo.out (.int .i64 s) (.int .i64 c1) (.int .i64 1) (.int .i64 0) (.int .i64 0) (.int .i64 0) (.string t) (.slice AG gv.length cG) (.int .i64 0) (.int .i64 0) (.int .i64 0))
    replace HRG:=Zz.k (put11_R HRG.out BKo.out (.int .i64 s) (.int .i64 c1) (.int .i64 1) (.int .i64 0) (.int .i64 0) (.int .i64 0) (.string t) (.slice AG gv.length cG) (.int .i64 0) (.int .i64 0) (.int .i64 0))
    replace BK1:=Zz.k (put11_far BK1.out NBo1.out (.int .i64 s) (.int .i64 c1) (.int .i64 1) (.int .i64 0) (.int .i64 0) (.int .i64 0) (.string t) (.slice AG gv.length cG) (.int .i64 0) (.int .i64 0) (.int .i64 0))
    replace BKo:=Zz.k (put11_here BKo.out (.int .i64 s) (.int .i64 c1) (.int .i64 1) (.int .i64 0) (.int .i64 0) (.int .i64 0) (.string t) (.slice AG gv.length cG) (.int .i64 0) (.int .i64 0) (.int .i64 0))
    generalize put11 wa gbo (.int .i64 s) (.int .i64 c1) (.int .i64 1) (.int .i64 0) (.int .i64 0) (.int .i64 0) (.string t) (.slice AG gv.length cG) (.int .i64 0) (.int .i64 0) (.int .i64 0) = w8 at HD HRG BK1 BKo ⊢
    refine dn HT (h := ?_)
    clear HT HW hS
    generalize (if cS = a then AS else Option.map (fun x => x.add (a * 3)) AS) = AX
    go_wp2
    go_meet
    case rel => exact ⟨gbo,AG,cG,rfl,BKo,HRG,BK1,⟨Qas HB8.out HD.out⟩,⟨Kd.C_below HE8.out HD.out⟩,NBo1,NBo2,⟨Nat.le_trans HB8.out.size GEo.out⟩⟩
   case' o4y =>
    have hbox:=heap_alloc_new w3 (.cells #[.int .i64 0, .int .i64 0, .int .i64 0, .int .i64 0, .int .i64 0, .int .i64 0, .string (⟨#[]⟩ : ByteArray), .slice none 0 0, .int .i64 0, .int .i64 0, .int .i64 0] 34 (0,0))
    have hbb:=Qag (Below.refl w3.heap.size w3) (.cells #[.int .i64 0, .int .i64 0, .int .i64 0, .int .i64 0, .int .i64 0, .int .i64 0, .string (⟨#[]⟩ : ByteArray), .slice none 0 0, .int .i64 0, .int .i64 0, .int .i64 0] 34 (0,0))
    have GEo:=Zz.k (show wd.heap.size <= w3.heap.size from Qal (bw HD))
    have NBo1:=bn BK1 (show w3.heap.size = w3.heap.size from rfl)
    have NBo2:=bm BK1 (show w3.heap.size = w3.heap.size from rfl)
    refine exKe hK (.pointer (some ⟨w3.heap.size,0,none⟩)) (w3.alloc (.cells #[.int .i64 0, .int .i64 0, .int .i64 0, .int .i64 0, .int .i64 0, .int .i64 0, .string (⟨#[]⟩ : ByteArray), .slice none 0 0, .int .i64 0, .int .i64 0, .int .i64 0] 34 (0,0))) (hrun:=by first | (go_simp; done) | (go_simp; rfl)) (hS:=trivial) (h:=fun hS => ?_)
    clear hK
    replace HC8:=Zz.k (Kd.C_below HC8.out hbb)
    replace BK1:=bl BK1 hbb
    replace HD:=bs HD hbb
    generalize w3.alloc (.cells #[.int .i64 0, .int .i64 0, .int .i64 0, .int .i64 0, .int .i64 0, .int .i64 0, .string (⟨#[]⟩ : ByteArray), .slice none 0 0, .int .i64 0, .int .i64 0, .int .i64 0] 34 (0,0)) = wa at hbox BK1 HD HC8 ⊢
    generalize hgo : w3.heap.size = gbo at hbox NBo1 NBo2 ⊢
    replace GEo:=Zz.k (show wd.heap.size <= gbo by have:=GEo.out; omega)
    clear hgo
    have BKo:=Zz.k hbox
    clear hbox hbb
    refine nm (h := ?_)
    refine ca HT 11 (some 76) 12287 #[.slice (if cS = a then AS else Option.map (fun x => x.add (a * 3)) AS) n (cS - a)] Tryz.func50 (h:=fun K hK => ?_)
    refine (Clone_at HC8.out HK.out HcS.out HAN.out HLE.out n rfl gv HGV.out).mono ?_
    rintro e w4 ⟨v4,rfl,hR,hb⟩
    obtain ⟨AG,cG,rfl⟩:=Kd.R_slice hR
    have HRG:=Zz.k (Kd.R_lower hR (Qas HB8.out (bw HD)).size)
    replace BKo:=bl BKo hb
    replace BK1:=bl BK1 hb
    replace HD:=bs HD hb
    refine ⟨_,rfl, ?_⟩
    refine hK.out _ _ trivial (fun hS => ?_)
    clear hK hb hR HC8
    refine nm (h := ?_)
    refine pu HT 12 77 16383 (h := ?_)
    obtain ⟨_,_,_,_,_,_,_,_,_,_,_,_,_,_,_,_,_,_,_,_,_,_⟩:=kc11 BKo
    refine skL HT 14 32767 (put11 w4 gbo (.int .i64 s) (.int .i64 c1) (.int .i64 1) (.int .i64 0) (.int .i64 0) (.int .i64 0) (.string t) (.slice AG gv.length cG) (.int .i64 0) (.int .i64 0) (.int .i64 0)) (hrun:=by first | (go_simp; done) | (go_simp; rfl)) (h := ?_)
    replace HD:=Zz.k (put11_below HD.out GEo.out (.int .i64 s) (.int .i64 c1) (.int .i64 1) (.int .i64 0) (.int .i64 0) (.int .i64 0) (.string t) (.slice AG gv.length cG) (.int .i64 0) (.int .i64 0) (.int .i64 0))
    replace HRG:=Zz.k (put11_R HRG.out BKo.out (.int .i64 s) (.int .i64 c1) (.int .i64 1) (.int .i64 0) (.int .i64 0) (.int .i64 0) (.string t) (.slice AG gv.length cG) (.int .i64 0) (.int .i64 0) (.int .i64 0))
    replace BK1:=Zz.k (put11_far BK1.out NBo1.out (.int .i64 s) (.int .i64 c1) (.int .i64 1) (.int .i64 0) (.int .i64 0) (.int .i64 0) (.string t) (.slice AG gv.length cG) (.int .i64 0) (.int .i64 0) (.int .i64 0))
    replace BKo:=Zz.k (put11_here BKo.out (.int .i64 s) (.int .i64 c1) (.int .i64 1) (.int .i64 0) (.int .i64 0) (.int .i64 0) (.string t) (.slice AG gv.length cG) (.int .i64 0) (.int .i64 0) (.int .i64 0))
    generalize put11 w4 gbo (.int .i64 s) (.int .i64 c1) (.int .i64 1) (.int .i64 0) (.int .i64 0) (.int .i64 0) (.string t) (.slice AG gv.length cG) (.int .i64 0) (.int .i64 0) (.int .i64 0) = w8 at HD HRG BK1 BKo ⊢
    refine dn HT (h := ?_)
    clear HT HW hS
    generalize (if cS = a then AS else Option.map (fun x => x.add (a * 3)) AS) = AX
    go_wp2
    go_meet
    case rel => exact ⟨gbo,AG,cG,rfl,BKo,HRG,BK1,⟨Qas HB8.out HD.out⟩,⟨Kd.C_below HE8.out HD.out⟩,NBo1,NBo2,⟨Nat.le_trans HB8.out.size GEo.out⟩⟩
   case' o2y =>
    have hbox:=heap_alloc_new wd (.cells #[.int .i64 0, .int .i64 0, .int .i64 0, .int .i64 0, .int .i64 0, .int .i64 0, .string (⟨#[]⟩ : ByteArray), .slice none 0 0, .int .i64 0, .int .i64 0, .int .i64 0] 34 (0,0))
    have hbb:=Qag (Below.refl wd.heap.size wd) (.cells #[.int .i64 0, .int .i64 0, .int .i64 0, .int .i64 0, .int .i64 0, .int .i64 0, .string (⟨#[]⟩ : ByteArray), .slice none 0 0, .int .i64 0, .int .i64 0, .int .i64 0] 34 (0,0))
    have GEo:=Zz.k (show wd.heap.size <= wd.heap.size from Qal (bw HD))
    have NBo1:=bn BK1 (show wd.heap.size = wd.heap.size from rfl)
    have NBo2:=bm BK1 (show wd.heap.size = wd.heap.size from rfl)
    refine exKe hK (.pointer (some ⟨wd.heap.size,0,none⟩)) (wd.alloc (.cells #[.int .i64 0, .int .i64 0, .int .i64 0, .int .i64 0, .int .i64 0, .int .i64 0, .string (⟨#[]⟩ : ByteArray), .slice none 0 0, .int .i64 0, .int .i64 0, .int .i64 0] 34 (0,0))) (hrun:=by first | (go_simp; done) | (go_simp; rfl)) (hS:=trivial) (h:=fun hS => ?_)
    clear hK
    replace HC8:=Zz.k (Kd.C_below HC8.out hbb)
    replace BK1:=bl BK1 hbb
    replace HD:=bs HD hbb
    generalize wd.alloc (.cells #[.int .i64 0, .int .i64 0, .int .i64 0, .int .i64 0, .int .i64 0, .int .i64 0, .string (⟨#[]⟩ : ByteArray), .slice none 0 0, .int .i64 0, .int .i64 0, .int .i64 0] 34 (0,0)) = wa at hbox BK1 HD HC8 ⊢
    generalize hgo : wd.heap.size = gbo at hbox NBo1 NBo2 ⊢
    replace GEo:=Zz.k (show wd.heap.size <= gbo by have:=GEo.out; omega)
    clear hgo
    have BKo:=Zz.k hbox
    clear hbox hbb
    refine nm (h := ?_)
    refine ca HT 3 (some 68) 10239 #[.slice A0 l0.length c0, .int .i64 s] Tryz.func49 (h:=fun K hK => ?_)
    refine (HNext.out _ (Qas HB8.out (bw HD))).mono ?_
    rintro e w3 ⟨rfl,hb⟩
    replace BKo:=bl BKo hb
    replace HC8:=Zz.k (Kd.C_below HC8.out hb)
    replace BK1:=bl BK1 hb
    replace HD:=bs HD hb
    refine ⟨_,rfl, ?_⟩
    refine hK.out _ _ trivial (fun hS => ?_)
    clear hK hb
    refine nm (h := ?_)
    refine ca HT 11 (some 76) 12287 #[.slice (if cS = a then AS else Option.map (fun x => x.add (a * 3)) AS) n (cS - a)] Tryz.func50 (h:=fun K hK => ?_)
    refine (Clone_at HC8.out HK.out HcS.out HAN.out HLE.out n rfl gv HGV.out).mono ?_
    rintro e w4 ⟨v4,rfl,hR,hb⟩
    obtain ⟨AG,cG,rfl⟩:=Kd.R_slice hR
    have HRG:=Zz.k (Kd.R_lower hR (Qas HB8.out (bw HD)).size)
    replace BKo:=bl BKo hb
    replace BK1:=bl BK1 hb
    replace HD:=bs HD hb
    refine ⟨_,rfl, ?_⟩
    refine hK.out _ _ trivial (fun hS => ?_)
    clear hK hb hR HC8
    refine nm (h := ?_)
    refine pu HT 12 77 16383 (h := ?_)
    obtain ⟨_,_,_,_,_,_,_,_,_,_,_,_,_,_,_,_,_,_,_,_,_,_⟩:=kc11 BKo
    refine skL HT 14 32767 (put11 w4 gbo (.int .i64 s) (.int .i64 c1) (.int .i64 1) (.int .i64 0) (.int .i64 0) (.int .i64 0) (.string t) (.slice AG gv.length cG) (.int .i64 0) (.int .i64 0) (.int .i64 0)) (hrun:=by first | (go_simp; done) | (go_simp; rfl)) (h := ?_)
    replace HD:=Zz.k (put11_below HD.out GEo.out (.int .i64 s) (.int .i64 c1) (.int .i64 1) (.int .i64 0) (.int .i64 0) (.int .i64 0) (.string t) (.slice AG gv.length cG) (.int .i64 0) (.int .i64 0) (.int .i64 0))
    replace HRG:=Zz.k (put11_R HRG.out BKo.out (.int .i64 s) (.int .i64 c1) (.int .i64 1) (.int .i64 0) (.int .i64 0) (.int .i64 0) (.string t) (.slice AG gv.length cG) (.int .i64 0) (.int .i64 0) (.int .i64 0))
    replace BK1:=Zz.k (put11_far BK1.out NBo1.out (.int .i64 s) (.int .i64 c1) (.int .i64 1) (.int .i64 0) (.int .i64 0) (.int .i64 0) (.string t) (.slice AG gv.length cG) (.int .i64 0) (.int .i64 0) (.int .i64 0))
    replace BKo:=Zz.k (put11_here BKo.out (.int .i64 s) (.int .i64 c1) (.int .i64 1) (.int .i64 0) (.int .i64 0) (.int .i64 0) (.string t) (.slice AG gv.length cG) (.int .i64 0) (.int .i64 0) (.int .i64 0))
    generalize put11 w4 gbo (.int .i64 s) (.int .i64 c1) (.int .i64 1) (.int .i64 0) (.int .i64 0) (.int .i64 0) (.string t) (.slice AG gv.length cG) (.int .i64 0) (.int .i64 0) (.int .i64 0) = w8 at HD HRG BK1 BKo ⊢
    refine dn HT (h := ?_)
    clear HT HW hS
    generalize (if cS = a then AS else Option.map (fun x => x.add (a * 3)) AS) = AX
    go_wp2
    go_meet
    case rel => exact ⟨gbo,AG,cG,rfl,BKo,HRG,BK1,⟨Qas HB8.out HD.out⟩,⟨Kd.C_below HE8.out HD.out⟩,NBo1,NBo2,⟨Nat.le_trans HB8.out.size GEo.out⟩⟩
  case rest =>
   clear BK1 HB HCS
   obtain ⟨gbo,AG,cG,rfl,BKo,HRG,BK1,HB,HCE,NBo1,NBo2,GEo⟩:=hcut
   obtain ⟨_,_,_,_,_,_,_,_,_,_,_,_,_,_,_,_,_,_,_,_,_,_⟩:=kc11 BKo
   have hCE:=HCE.out
   rcases case_after a t with hA | hA | hA
   case' inl =>
    have hapz : (a : Int) > 0:=by omega
    have hte:=hA.2
    have hwm : wrap64 ((a : Int) - 1) = ((a - 1 : Nat) : Int):=by rw [Qak (by omega) (by omega)]; omega
    have hi0 : (0 : Int) <= ((a - 1 : Nat) : Int):=by omega
    have hi1 : ((a - 1 : Nat) : Int) < (k : Int):=by omega
    obtain ⟨ad,rfl,y0,y1,y2⟩:=Qbd hCE ((a - 1 : Nat) : Int) hi0 hi1
    simp only [Int.toNat_natCast] at y0 y1 y2
    have hz : Qaa (Qau l0) ((a - 1 : Nat) : Int) = repA l0 a t:=by unfold repA; rw [if_pos hA]
    generalize Qaa (Qau l0) ((a - 1 : Nat) : Int) = z at y0 y1 y2 hz
    have HZ:=Zz.k hz
    clear hz hA hCE
    go_upto_region 11 with (fail)
    replace HB:=Zz.k (put3_below HB.out GEo.out (.int .i64 z.f0) (.int .i64 z.f1) (.int .i64 z.f2))
    replace HRG:=Zz.k (put3_R HRG.out BKo.out (.int .i64 z.f0) (.int .i64 z.f1) (.int .i64 z.f2))
    replace BK1:=Zz.k (put3_far BK1.out NBo1.out (.int .i64 z.f0) (.int .i64 z.f1) (.int .i64 z.f2))
    replace BKo:=Zz.k (put3_here BKo.out (.int .i64 z.f0) (.int .i64 z.f1) (.int .i64 z.f2))
    generalize ((wc.setCell ⟨gbo,3,none⟩ (.int .i64 z.f0)).setCell ⟨gbo,4,none⟩ (.int .i64 z.f1)).setCell ⟨gbo,5,none⟩ (.int .i64 z.f2) = wt at HB HRG BK1 BKo ⊢
    clear y0 y1 y2 hapz hte hwm hi0 hi1
   case' inr.inl =>
    obtain ⟨z,hz0⟩ : ∃ z : SElem,z = ⟨0,0,0⟩:=⟨_,rfl⟩
    have hz : z = repA l0 a t:=by unfold repA; rw [hz0,if_neg (fun h => by rw [hA] at h; exact absurd h.2 (by decide))]
    replace BKo:=Zz.k (show wc.heap[gbo]? = some (.cells #[.int .i64 s, .int .i64 c1, .int .i64 1, .int .i64 z.f0, .int .i64 z.f1, .int .i64 z.f2, .string t, .slice AG gv.length cG, .int .i64 0, .int .i64 0, .int .i64 0] 34 (0,0)) by rw [hz0]; exact BKo.out)
    have HZ:=Zz.k hz
    clear hz hz0 hCE
    go_upto_region 11 with (fail)
    clear hA
   case' inr.inr =>
    obtain ⟨z,hz0⟩ : ∃ z : SElem,z = ⟨0,0,0⟩:=⟨_,rfl⟩
    have hz : z = repA l0 a t:=by unfold repA; rw [hz0,if_neg (fun h => by have:=hA.2; omega)]
    replace BKo:=Zz.k (show wc.heap[gbo]? = some (.cells #[.int .i64 s, .int .i64 c1, .int .i64 1, .int .i64 z.f0, .int .i64 z.f1, .int .i64 z.f2, .string t, .slice AG gv.length cG, .int .i64 0, .int .i64 0, .int .i64 0] 34 (0,0)) by rw [hz0]; exact BKo.out)
    have HZ:=Zz.k hz
    have hte:=hA.1
    have hapz : ¬ (a : Int) > 0:=by omega
    clear hz hz0 hCE hA
    go_upto_region 11 with (fail)
    clear hapz hte
   all_goals
    have HM:=Zz.k (show mayB (l0 ++ [⟨s,c1,1,⟨z.f0,z.f1,z.f2⟩,t,sortL gv,0,0,0⟩]) = b by have:=HBB.out; unfold repO at this; rw [<- HZ.out,<- HC1.out,HRL.out] at this; exact this)
    have HSN:=Zz.k (HSN0.out ⟨z.f0,z.f1,z.f2⟩)
    clear NBo1 NBo2 HCE
    obtain ⟨_,_,_,_,_,_,_,_,_,_,_,_,_,_,_,_,_,_,_,_,_,_⟩:=kc11 BKo
    cases b
    case' false =>
     go_wp2_with (first | ((with_reducible refine Qac (f:=51) rfl ?_); refine gl (some 92) Tryz.func51 #[.slice AG gv.length cG, .func (.func 52) #[] #[]] (h := ?_); (refine (sort_any HRG.out HGL.out).mono ?_); rintro e w9 ⟨rfl,hR9,row9,hg9,hk9⟩; refine ⟨_,rfl, ?_⟩; replace BK1:=Zz.k (sort_keep HRG.out BK1.out hg9 hk9); replace BKo:=Zz.k (sort_keep HRG.out BKo.out hg9 hk9); replace HB:=Zz.k (pw_below_grown HB.out row9 HB.out.size hg9 (fun k hk => Kd.R_base HRG.out k (hk9 k hk))); replace HRG:=Zz.k hR9; clear hR9 hg9 hk9; obtain ⟨_,_,_,_,_,_,_,_,_,_,_,_,_,_,_,_,_,_,_,_,_,_⟩:=kc11 BKo) | ((with_reducible refine Qac (f:=53) rfl ?_); refine gl (some 95) Tryz.func53 #[.slice A0 l0.length c0, .agg #[.int .i64 s, .int .i64 c1, .int .i64 1, .int .i64 z.f0, .int .i64 z.f1, .int .i64 z.f2, .string t, .slice AG gv.length cG, .int .i64 0, .int .i64 0, .int .i64 0]] (h := ?_); (refine (full_n A0 c0 l0 s c1 1 z.f0 z.f1 z.f2 t (sortL gv) 0 0 0 AG gv.length cG (sort_len _) false _ (Kd.C_below HR0.out HB.out) HC0.out w.heap.size HRG.out HL.out HSN.out HM.out).mono ?_); rintro e w10 ⟨hres,hb⟩; rw [if_neg nft] at hres; obtain rfl:=hres; refine ⟨_,rfl, ?_⟩; replace BK1:=bl BK1 hb; replace HB:=bs HB hb; replace HRG:=rb HRG hb; clear hb; obtain ⟨_,_,_,_,_,_,_,_,_,_,_,_,_,_,_,_,_,_,_,_,_,_⟩:=kc11 BK1))
     refine bodyPost_ret (Qbv rfl _ _ gb1 34 #[.int .i64 0, .int .i64 0, .int .i64 0, .int .i64 0, .int .i64 0, .int .i64 0, .string (⟨#[]⟩ : ByteArray), .slice none 0 0, .int .i64 0, .int .i64 0, .int .i64 0] (0,0) _ rfl (bp11 (kk BK1)) hu32 rfl (by kernel_rfl)) rfl ?_
     unfold RepPost
     refine ⟨.slice none 0 0, ?_,bw HB⟩
     rw [if_neg nft]
     exact ⟨rfl,rfl⟩
    case' true =>
     go_wp2_with (first | ((with_reducible refine Qac (f:=51) rfl ?_); refine gl (some 92) Tryz.func51 #[.slice AG gv.length cG, .func (.func 52) #[] #[]] (h := ?_); (refine (sort_any HRG.out HGL.out).mono ?_); rintro e w9 ⟨rfl,hR9,row9,hg9,hk9⟩; refine ⟨_,rfl, ?_⟩; replace BK1:=Zz.k (sort_keep HRG.out BK1.out hg9 hk9); replace BKo:=Zz.k (sort_keep HRG.out BKo.out hg9 hk9); replace HB:=Zz.k (pw_below_grown HB.out row9 HB.out.size hg9 (fun k hk => Kd.R_base HRG.out k (hk9 k hk))); replace HRG:=Zz.k hR9; clear hR9 hg9 hk9; obtain ⟨_,_,_,_,_,_,_,_,_,_,_,_,_,_,_,_,_,_,_,_,_,_⟩:=kc11 BKo) | ((with_reducible refine Qac (f:=53) rfl ?_); refine gl (some 95) Tryz.func53 #[.slice A0 l0.length c0, .agg #[.int .i64 s, .int .i64 c1, .int .i64 1, .int .i64 z.f0, .int .i64 z.f1, .int .i64 z.f2, .string t, .slice AG gv.length cG, .int .i64 0, .int .i64 0, .int .i64 0]] (h := ?_); (refine (full_n A0 c0 l0 s c1 1 z.f0 z.f1 z.f2 t (sortL gv) 0 0 0 AG gv.length cG (sort_len _) true _ (Kd.C_below HR0.out HB.out) HC0.out w.heap.size HRG.out HL.out HSN.out HM.out).mono ?_); rintro e w10 ⟨hres,hb⟩; rw [if_pos rfl] at hres; obtain rfl:=hres; refine ⟨_,rfl, ?_⟩; replace BK1:=bl BK1 hb; replace HB:=bs HB hb; replace HRG:=rb HRG hb; clear hb; obtain ⟨_,_,_,_,_,_,_,_,_,_,_,_,_,_,_,_,_,_,_,_,_,_⟩:=kc11 BK1))
     refine bodyPost_ret (Qbv rfl _ _ gb1 34 #[.int .i64 s, .int .i64 c1, .int .i64 1, .int .i64 z.f0, .int .i64 z.f1, .int .i64 z.f2, .string t, .slice AG gv.length cG, .int .i64 0, .int .i64 0, .int .i64 0] (0,0) _ rfl (bp11 (kk BK1)) hu32 rfl (by kernel_rfl)) rfl ?_
     unfold RepPost
     refine ⟨.slice AG gv.length cG, ?_,bw HB⟩
     rw [if_pos rfl,<- HZ.out,<- HC1.out,HRL.out]
     exact ⟨rfl,Kd.R_mono (rf11 (Kd.R_types HRG.out BK1.out (by decide))) (fun _ _ => trivial)⟩
end
section
instance (l0 : List SOp) (a n : Int) (t : ByteArray) : Decidable (limB l0 a n t):=by unfold limB; infer_instance
def repV (l0 : List SOp) (s a n : Int) (t : ByteArray) : SOp × Int :=
 if badB l0 s t = true then (⟨0,0,0,⟨0,0,0⟩,⟨#[]⟩,[],0,0,0⟩,1)
 else if limB l0 a n t then (⟨0,0,0,⟨0,0,0⟩,⟨#[]⟩,[],0,0,0⟩,2)
 else if n = 0 /\ t.toList.isEmpty = true then (⟨0,0,0,⟨0,0,0⟩,⟨#[]⟩,[],0,0,0⟩,3)
 else if mayB (l0 ++ [repO l0 s a.toNat n.toNat t]) = true then (repO l0 s a.toNat n.toNat t,0)
 else (⟨0,0,0,⟨0,0,0⟩,⟨#[]⟩,[],0,0,0⟩,6)
def edit_Replace.f (l0 : List (SOp)) (a1 : Int) (a2 : Int) (a3 : Int) (a4 : ByteArray) : Option (Int × Int × Int × Int × Int × Int × ByteArray × (List (SElem)) × Int × Int × Int × Int) :=
 if smalls l0 = true /\ a4.size <= 1000000 then some ((repV l0 a1 a2 a3 a4).1.f0,(repV l0 a1 a2 a3 a4).1.f1,(repV l0 a1 a2 a3 a4).1.f2,(repV l0 a1 a2 a3 a4).1.f3.f0,(repV l0 a1 a2 a3 a4).1.f3.f1,(repV l0 a1 a2 a3 a4).1.f3.f2,(repV l0 a1 a2 a3 a4).1.f4,(repV l0 a1 a2 a3 a4).1.f5,(repV l0 a1 a2 a3 a4).1.f6,(repV l0 a1 a2 a3 a4).1.f7,(repV l0 a1 a2 a3 a4).1.f8,(repV l0 a1 a2 a3 a4).2) else none
theorem Replace_calls (A0 : Option Addr) (c0 : Nat) (l0 : List SOp) (s a n : Int) (t : ByteArray) (w : World) (hr0 : Kd.C kOp w A0 l0.length l0) (hc0 : l0.length <= c0) (hsm : smalls l0 = true) (ht : t.size <= 1000000) (o : SOp) (err : Int) (hv : repV l0 s a n t = (o,err)) :
  Calls Tryz.prog 10 #[.slice A0 l0.length c0, .int .i64 s, .int .i64 a, .int .i64 n, .string t] w fun e w' => ∃ v7 : Value,e = .returned (.tuple #[.agg #[.int .i64 o.f0, .int .i64 o.f1, .int .i64 o.f2, .int .i64 o.f3.f0, .int .i64 o.f3.f1, .int .i64 o.f3.f2, .string o.f4,v7, .int .i64 o.f6, .int .i64 o.f7, .int .i64 o.f8], .int .i64 err]) /\ RE w' w.heap.size v7 o.f5 /\ Below w.heap.size w w':=by
 unfold repV at hv
 by_cases h1 : badB l0 s t = true
 ·rw [if_pos h1] at hv
  obtain ⟨rfl,rfl⟩:=Prod.mk.inj hv
  exact Rep_bad A0 c0 l0 s a n t w hr0 hc0 hsm ht h1
 ·rw [if_neg h1] at hv
  have h1' : badB l0 s t = false:=by cases h : badB l0 s t; rfl; exact absurd h h1
  by_cases h2 : limB l0 a n t
  ·rw [if_pos h2] at hv
   obtain ⟨rfl,rfl⟩:=Prod.mk.inj hv
   exact Rep_lim A0 c0 l0 s a n t w hr0 hc0 hsm ht h1' h2
  ·rw [if_neg h2] at hv
   by_cases h3 : n = 0 /\ t.toList.isEmpty = true
   ·rw [if_pos h3] at hv
    obtain ⟨rfl,rfl⟩:=Prod.mk.inj hv
    obtain ⟨rfl,h4⟩:=h3
    exact Rep_none A0 c0 l0 s a t w hr0 hc0 hsm ht h1' h2 h4
   ·rw [if_neg h3] at hv
    have ha : a = (a.toNat : Int):=by unfold limB at h2; omega
    have hn : n = (n.toNat : Int):=by unfold limB at h2; omega
    have hne : ¬ (n.toNat = 0 /\ t.toList.isEmpty = true):=fun h => h3 ⟨by omega,h.2⟩
    rw [ha,hn] at h2
    have hk:=Rep_ok A0 c0 l0 s a.toNat n.toNat t w hr0 hc0 hsm ht h1' h2 hne _ rfl
    rw [<- ha,<- hn] at hk
    refine hk.mono ?_
    intro e w' hp
    unfold RepPost at hp
    obtain ⟨v7,hq,hb⟩:=hp
    by_cases h5 : mayB (l0 ++ [repO l0 s a.toNat n.toNat t]) = true
    ·rw [if_pos h5] at hv hq
     obtain ⟨rfl,rfl⟩:=Prod.mk.inj hv
     exact ⟨v7,hq.1,hq.2,hb⟩
    ·rw [if_neg h5] at hv hq
     obtain ⟨rfl,rfl⟩:=Prod.mk.inj hv
     obtain ⟨rfl,rfl⟩:=hq
     exact ⟨_,rfl,Kd.R_nil _ _ _ _ _,hb⟩
theorem edit_Replace.calls (A0 : Option Addr) (c0 : Nat) (l0 : List (SOp)) (a1 : Int) (a2 : Int) (a3 : Int) (a4 : ByteArray) (r1 : Int) (r2 : Int) (r3 : Int) (r4 : Int) (r5 : Int) (r6 : Int) (r7 : ByteArray) (r8 : List (SElem)) (r9 : Int) (r10 : Int) (r11 : Int) (r12 : Int) (w : World) (hr0 : Kd.C kOp w A0 l0.length l0) (hc0 : l0.length <= c0) (h : edit_Replace.f l0 a1 a2 a3 a4 = some (r1,r2,r3,r4,r5,r6,r7,r8,r9,r10,r11,r12)) :
  Calls Tryz.prog 10 #[.slice A0 l0.length c0, .int .i64 a1, .int .i64 a2, .int .i64 a3, .string a4] w fun e w' => ∃ v7_ : Value,e = .returned (.tuple #[.agg #[.int .i64 r1, .int .i64 r2, .int .i64 r3, .int .i64 r4, .int .i64 r5, .int .i64 r6, .string r7,v7_, .int .i64 r9, .int .i64 r10, .int .i64 r11], .int .i64 r12]) /\ Kd.R Qap 32 w' w.heap.size (fun _ => True) v7_ r8 /\ Below w.heap.size w w':=by
 unfold edit_Replace.f at h
 split at h
 case isFalse => cases h
 rename_i hq
 have h:=Zo h
 simp only [Prod.mk.injEq] at h
 obtain ⟨rfl,rfl,rfl,rfl,rfl,rfl,rfl,rfl,rfl,rfl,rfl,rfl⟩:=h
 exact Replace_calls A0 c0 l0 a1 a2 a3 a4 w hr0 hc0 hq.1 hq.2 _ _ rfl
end
section
attribute [local go_sem] Qbm Qbk Qbu Qbt Qbc Qbb Qbl Qbj
def w7_num.f (a0 : Int) : Option (Int):=some a0
theorem w7_num.calls (a0 : Int) (r : Int) (w : World) (h : w7_num.f a0 = some r) :
  Calls Tryz.prog 11 #[.int .i64 a0] w fun e w' => e = .returned (.int .i64 r) /\ Drawn0 w w':=by
 unfold w7_num.f at h; have H:=h
 clear h
 obtain rfl:=Zo H
 go_enter Tryz.func11,Tryz.ntmps11
 go_wp2
 go_ret
 exact ⟨rf,by repeat (first | exact Drawn0.refl _ | apply Drawn0.step)⟩
end
section
def t_doc_At.T1 : Bool × List (List Nat × List Nat):=(true,[([],[]),([],[]),([],[]),([2],[2]),([],[]),([4],[4]),([1,3,5],[1,3,5]),([0,6],[0,6]),([7],[7]),([8],[8]),([9],[9]),([],[]),([11],[11]),([10,12],[10,12]),([13],[13]),([14,6,0,1,2,3,4,5,6,7,8,9,10,11,12,13,14],[14])])
def t_doc_At.B1 : List Nat:=[0,0,0,4,0,16,62,127,255,511,1023,0,2048,8191,16383,32767]
theorem t_doc_At.tab1 : rtab .any (Qdb Tryz.f89 1) = t_doc_At.T1:=by kernel_rfl
theorem t_doc_At.bits1 : Qay t_doc_At.T1.2 t_doc_At.B1 = true:=by kernel_rfl
end
section
theorem runesFrom_eq (s : ByteArray) : ∀ (n i : Nat) (acc : Array Value),Conv.runesFrom s n i acc = acc ++ ((Qca s n i).map (Value.int .i32)).toArray
 | 0,i,acc => by simp [Conv.runesFrom,Qca]
 | n + 1,i,acc => by
  unfold Conv.runesFrom Qca
  by_cases h : i < s.size
  ·rw [if_pos h,if_pos h]
   refine (runesFrom_eq s n (i + (Utf8.decode s i).2) (acc.push (.int .i32 ((Utf8.decode s i).1 : Int)))).trans ?_
   simp
  ·rw [if_neg h,if_neg h]; simp
theorem runesFrom_all (s : ByteArray) : Conv.runesFrom s s.size 0 #[] = ((Qba s).map (Value.int .i32)).toArray:=by rw [runesFrom_eq]; simp [Qba]
def doc_At.f (l0 : List (SOp)) (a1_0 : Int) (a1_1 : Int) (a1_2 : Int) : Option (Int) :=
 if l0.length <= 1000000 /\ 0 <= Qbf l0 a1_0 a1_1 /\ 0 <= a1_2 /\ a1_2 < (Qaj (Qad l0 (Qbf l0 a1_0 a1_1)) : Int) /\ Qaj (Qad l0 (Qbf l0 a1_0 a1_1)) <= 1000000 then some ((Qba (Qad l0 (Qbf l0 a1_0 a1_1)).f4).getD a1_2.toNat 0) else none
theorem doc_At.calls (A0 : Option Addr) (c0 : Nat) (l0 : List (SOp)) (a1_0 : Int) (a1_1 : Int) (a1_2 : Int) (r : Int) (w : World) (hr0 : Kd.C kOp w A0 l0.length l0) (hc0 : l0.length <= c0) (h : doc_At.f l0 a1_0 a1_1 a1_2 = some r) :
  Calls Tryz.prog 89 #[.slice A0 l0.length c0, .agg #[.int .i64 a1_0, .int .i64 a1_1, .int .i64 a1_2]] w fun e w' => e = .returned (.int .i32 r) /\ Below w.heap.size w w':=by
 unfold doc_At.f at h
 split at h
 case isFalse => cases h
 rename_i hq
 obtain ⟨hl,hf0,h2,h3,h4⟩:=hq
 obtain rfl:=Zo h
 clear h
 obtain ⟨i,hi,hfi⟩ : ∃ i,i < l0.length /\ Qbf l0 a1_0 a1_1 = (i : Int):=by
  rcases Qbh l0 a1_0 a1_1 with ⟨i,hi,_,_,_,e⟩ | ⟨_,e⟩
  ·exact ⟨i,hi,e⟩
  ·omega
 have hcF:=fun W (hb : Below w.heap.size w W) => tree_Find.calls A0 c0 l0 a1_0 a1_1 (i : Int) W (Kd.C_below hr0 hb) hc0 (by rw [tree_Find_f hl,hfi])
 rw [hfi] at h3 h4 ⊢
 have hi0 : (0 : Int) <= (i : Int):=by omega
 have hi1 : (i : Int) < (l0.length : Int):=by omega
 obtain ⟨ad,A7,c7,rfl,x0,x1,x2,x3,x4,x5,x6,x7,x8,x9,x10,l7,g7⟩:=Qcg hr0 (i : Int) hi0 hi1
 simp only [Int.toNat_natCast] at x6
 generalize Qad l0 (i : Int) = o at x6 h3 h4 ⊢
 clear x0 x1 x2 x3 x4 x5 x7 x8 x9 x10 l7 g7 hr0 hf0 hfi hi hl
 have HF:=Zz.k hcF
 clear hcF
 obtain ⟨j,rfl⟩ : ∃ j : Nat,a1_2 = (j : Int):=⟨a1_2.toNat,by omega⟩
 have hj : j < (Qba o.f4).length:=by have : Qaj o = (Qba o.f4).length:=rfl; omega
 rw [Int.toNat_natCast]
 generalize hrv : (Qba o.f4).getD j 0 = rv
 have HRV:=Zz.k hrv
 clear hrv
 have hru:=Tryz.underlying9
 have hrs:=Tryz.underlying48
 have hri:=Tryz.underlying21
 have hal : Below w.heap.size w (w.alloc (.cells #[.int .i64 a1_0, .int .i64 a1_1, .int .i64 (j : Int)] 32)):=Qag (Below.refl _ _) _
 have y6:=Qab hal x6
 have b0 : (w.alloc (.cells #[.int .i64 a1_0, .int .i64 a1_1, .int .i64 (j : Int)] 32)).cell? ⟨w.heap.size,0,none⟩ = some (.int .i64 a1_0):=by simp
 have b1 : (w.alloc (.cells #[.int .i64 a1_0, .int .i64 a1_1, .int .i64 (j : Int)] 32)).cell? ⟨w.heap.size,1,none⟩ = some (.int .i64 a1_1):=by simp
 have b2 : (w.alloc (.cells #[.int .i64 a1_0, .int .i64 a1_1, .int .i64 (j : Int)] 32)).cell? ⟨w.heap.size,2,none⟩ = some (.int .i64 (j : Int)):=by simp
 have HAL:=Zz.k hal
 have HB3:=Zz.k h3
 have HB4:=Zz.k h4
 clear hal x6 h3 h4 h2
 go_enter Tryz.func89,Tryz.ntmps89
 go_wp2_with fail
 refine stL (S:=fun w' => w'.cell? ⟨w.heap.size,0,none⟩ = some (.int .i64 a1_0) /\ w'.cell? ⟨w.heap.size,1,none⟩ = some (.int .i64 a1_1) /\ w'.cell? ⟨w.heap.size,2,none⟩ = some (.int .i64 (j : Int)) /\ w'.cell? ⟨(ad.add (i * 11)).block,(ad.add (i * 11)).off + 6,none⟩ = some (.string o.f4)) [14] 16 t_doc_At.bits1 t_doc_At.tab1 (hS:=⟨b0,b1,b2,y6⟩) (h:=fun hS HT HW => ?_)
 refine pu HT 0 5 1 (h := ?_)
 refine pu HT 1 6 3 (h := ?_)
 refine pu HT 2 7 7 (h := ?_)
 refine tk HT HW hS 3 8 15 (h := ?_)
 refine pu HT 4 9 31 (h := ?_)
 refine tk HT HW hS 5 10 63 (h := ?_)
 refine pu HT 11 16 2111 (h := ?_)
 refine tk HT HW hS 12 17 6207 (h := ?_)
 refine ca HT 6 (some 11) 6271 #[.slice (some ad) l0.length c0, .int .i64 a1_0, .int .i64 a1_1] Tryz.func125 (h:=fun K hK => ?_)
 refine (HF.out _ (Qae HAL.out)).mono ?_
 rintro e w3 ⟨rfl,hb3⟩
 refine ⟨_,rfl, ?_⟩
 refine hK.out _ _ ⟨Qab hb3 b0,Qab hb3 b1,Qab hb3 b2,Qab hb3 y6⟩ (fun hS => ?_)
 have HBW:=Zz.k (Qas (Qae HAL.out) hb3)
 clear hK hb3 b0 b1 b2 y6 HF
 refine nm (h := ?_)
 refine pu HT 7 12 6399 (h := ?_)
 refine pu HT 8 13 6655 (h := ?_)
 refine tk HT HW hS 9 14 7167 (h := ?_)
 have hcv:=run_runes_of_string (P:=Tryz.prog) w3 9 48 21 o.f4 hru hrs hri (by rw [runesFrom_all]; have hs : Qaj o = (Qba o.f4).length:=rfl; simp; have:=HB4.out; omega)
 rw [runesFrom_all] at hcv
 have hcap:=grownCap_ge w3 ((Qba o.f4).map (Value.int .i32)).toArray.size 0 21
 generalize hgc : grownCap w3 ((Qba o.f4).map (Value.int .i32)).toArray.size 0 21 = gc at hcv hcap
 have hsz : ((Qba o.f4).map (Value.int .i32)).toArray.size = (Qba o.f4).length:=by simp
 rw [hsz] at hcv hcap
 have hcell : (w3.drew.alloc (.cells (((Qba o.f4).map (Value.int .i32)).toArray ++ Array.replicate (gc - (Qba o.f4).length) (.int .i32 0)) 21)).cell? ⟨w3.heap.size,j,none⟩ = some (.int .i32 rv):=by
  rw [<- HRV.out]
  have:=top_cell w3.drew (((Qba o.f4).map (Value.int .i32)).toArray ++ Array.replicate (gc - (Qba o.f4).length) (.int .i32 0)) 21 w3.heap.size j rfl
  rw [this,Array.getElem?_append_left (by simp; exact hj)]
  simp [List.getD_eq_getElem?_getD,hj]
 have HBE:=Zz.k (Qas HBW.out (Qag (Qae (Below.refl w3.heap.size w3)) (.cells (((Qba o.f4).map (Value.int .i32)).toArray ++ Array.replicate (gc - (Qba o.f4).length) (.int .i32 0)) 21)))
 have hjz : (j : Int) < ((Qba o.f4).length : Int):=by omega
 have hj0 : (0 : Int) <= (j : Int):=by omega
 have hbv:=Qag (Qae (Below.refl w3.heap.size w3)) (.cells (((Qba o.f4).map (Value.int .i32)).toArray ++ Array.replicate (gc - (Qba o.f4).length) (.int .i32 0)) 21)
 have s0:=Qab hbv hS.1
 have s1:=Qab hbv hS.2.1
 have s2:=Qab hbv hS.2.2.1
 have s3:=Qab hbv hS.2.2.2
 clear hbv
 generalize w3.drew.alloc (.cells (((Qba o.f4).map (Value.int .i32)).toArray ++ Array.replicate (gc - (Qba o.f4).length) (.int .i32 0)) 21) = w4 at hcv hcell HBE s0 s1 s2 s3
 generalize (Qba o.f4).length = rl at hcv hjz hcap
 refine exS HT 10 (some 15) 8191 (.slice (some ⟨w3.heap.size,0,none⟩) rl gc) w4 (hrun := ?_) (hS:=⟨s0,s1,s2,s3⟩) (h:=fun hS => ?_)
 ·go_simp
 clear hcv hcap hsz hS
 refine nm (h := ?_)
 refine pu HT 13 18 16383 (h := ?_)
 refine exL HT 14 (some 19) 32767 (.int .i32 rv) w4 (hrun := ?_) (h := ?_)
 ·go_simp
 refine nm (h := ?_)
 refine pu HT 15 4 65535 (h := ?_)
 refine dn HT (h := ?_)
 clear HT HW
 go_wp2
 go_ret
 exact ⟨rfl,HBE.out⟩
end
section
theorem infoI32 : (Tryz.prog.info? 21).map (fun i => (i.zero,i.size,i.bytes)) = some (some (.int .i32 0),1,4):=by kernel_rfl
def atR (l : List SOp) (e : SElem) : Int:=(Qba (Qad l (Qbf l e.f0 e.f1)).f4).getD e.f2.toNat 0
def plainR (l : List SOp) : ByteArray:=runesBytes ((Qau l).map (atR l))
def doc_Plain.f (l0 : List (SOp)) : Option (ByteArray):=if smalls l0 = true /\ mayB l0 = true then some (plainR l0) else none
theorem At_ok {l : List SOp} (h : RowOk l) {e : SElem} (he : e ∈ ordL l) : doc_At.f l e.f0 e.f1 e.f2 = some (atR l e):=by
 obtain ⟨p,hp,e0,e1,h2,h3⟩:=(Qcm h e).1 he
 obtain ⟨i,hi,ef,ei⟩:=Qdd h hp
 rw [e0,e1] at ef
 have hs:=(Qcr (h.oks p hp)).1
 have h40:=h.sums.1
 unfold doc_At.f atR
 rw [ef,Qar _ _ hi,ei,if_pos ⟨by omega,by omega,h2,h3,by omega⟩]
theorem doc_Plain.calls (A0 : Option Addr) (c0 : Nat) (l0 : List (SOp)) (r : ByteArray) (w : World) (hr0 : Kd.C kOp w A0 l0.length l0) (hc0 : l0.length <= c0) (h : doc_Plain.f l0 = some r) :
  Calls Tryz.prog 56 #[.slice A0 l0.length c0] w fun e w' => e = .returned (.string r) /\ Below w.heap.size w w':=by
 unfold doc_Plain.f at h
 split at h
 case isFalse => cases h
 rename_i hsm
 obtain rfl:=Zo h
 have hrow:=(Qci l0).1 hsm.2
 have hcS:=doc_Seen.calls A0 c0 l0 (Qau l0) w hr0 hc0 (by unfold doc_Seen.f; rw [if_pos hsm])
 have hru:=Tryz.underlying9
 have hrs:=Tryz.underlying48
 have hri:=Tryz.underlying21
 have HR0:=Zz.k hr0
 have HC0:=Zz.k hc0
 have HS:=Zz.k hcS
 have HROW:=Zz.k hrow
 clear hr0 hc0 h hcS hsm hrow
 go_enter Tryz.func56,Tryz.ntmps56
 go_wp2_with fail
 refine HS.out.mono ?_
 rintro e wS ⟨vS,rfl,hRS,hbS⟩
 obtain ⟨AS,cS,rfl,hcS,hCS⟩:=Kd.R_reads hRS
 have HBS:=Zz.k hbS
 have HCS:=Zz.k hCS
 have hlen : (Qau l0).length <= 200:=Nat.le_trans (List.length_filter_le _ _) (by rw [(Qda HROW.out).2]; exact HROW.out.sums.2)
 have HLEN:=Zz.k hlen
 clear hRS hbS hCS hcS hlen HS
 go_wp2
 go_loopg [3,9] (Qau l0).length (fun gg s3 s9 w' => ∃ j : Nat,j <= (Qau l0).length /\ (Qau l0).length - j <= gg /\ s9 = .int .i64 j /\ Zz (Below wS.heap.size wS w') /\ Zz (Kd.R (Kd.int .i32) 21 w' wS.heap.size (fun _ => True) s3 (((Qau l0).take j).map (atR l0))))
 case atStart => exact ⟨0,Nat.zero_le _,by omega,rfl,⟨Below.refl _ _⟩,⟨Kd.R_nil _ _ _ _ _⟩⟩
 case round =>
  obtain ⟨j,hj,hgk,rfl,HB,HR⟩:=hrel
  by_cases hjl : j < (Qau l0).length
  ·obtain ⟨g2,rfl⟩ : ∃ g2,gk = g2 + 1:=⟨gk - 1,by omega⟩
   have hjz : (j : Int) < ((Qau l0).length : Int):=by omega
   have hj0 : (0 : Int) <= (j : Int):=by omega
   obtain ⟨ad7,rfl,y0,y1,y2⟩:=Qbd (Kd.C_below HCS.out HB.out) (j : Int) hj0 hjz
   simp only [Int.toNat_natCast,Qat _ _ hjl] at y0 y1 y2
   have hmem : (Qau l0)[j] ∈ ordL l0:=(seen_mem.1 (List.getElem_mem hjl)).1
   have hat:=At_ok HROW.out hmem
   have htk : ((Qau l0).take (j + 1)).map (atR l0) = ((Qau l0).take j).map (atR l0) ++ [atR l0 (Qau l0)[j]]:=by rw [List.take_succ_eq_append_getElem hjl,List.map_append]; rfl
   have HTK:=Zz.k htk
   clear htk
   generalize hxe : (Qau l0)[j] = x at y0 y1 y2 hat HTK
   generalize atR l0 x = rv at hat HTK
   have hal : Below wr.heap.size wr (wr.alloc (.cells #[.int .i64 x.f0, .int .i64 x.f1, .int .i64 x.f2] 32)):=Qag (Below.refl _ _) _
   have hbw : Below wS.heap.size wS (wr.alloc (.cells #[.int .i64 x.f0, .int .i64 x.f1, .int .i64 x.f2] 32)):=Qas HB.out hal
   have HAT:=Zz.k (doc_At.calls A0 c0 l0 x.f0 x.f1 x.f2 rv _ (Kd.C_below HR0.out (Qas HBS.out hbw)) HC0.out hat)
   have HB2:=Zz.k hbw
   have HR2:=Zz.k (Kd.R_below HR.out hal)
   clear hal hbw hat hxe hmem HB HR
   go_wp2_with fail
   refine HAT.out.mono ?_
   rintro e w5 ⟨rfl,hb5⟩
   have HB5:=Zz.k (Qas HB2.out hb5)
   have HR5:=Zz.k (Kd.R_below HR2.out hb5)
   clear hb5 HB2 HR2 HAT
   have hl200 : (((Qau l0).take j).map (atR l0)).length <= 200:=by rw [List.length_map,List.length_take]; have:=HLEN.out; omega
   have hsz5:=HB5.out.size
   have hl2:=HLEN.out
   go_wp2_with (first | ((with_reducible refine Qbz (b:=.append) (xs:=#[.tmp 13, .tmp 17]) rfl ?_); at_builtin; refine Kd.R_append (Kd.int .i32) (w0:=wS) wS.heap.size rfl (.tmp 13) (.tmp 17) 48 21 (.int .i32 0) 4 rfl Tryz.underlying48 infoI32 rfl (by decide) (by omega) u3 (((Qau l0).take j).map (atR l0)) rv [.int .i32 rv] (fun _ => True) (fun _ => False) rfl rfl ?aP (fun _ hk => hk.elim) ?aF ?aO ?aB ?aS ?aL ?_; (case aP => exact rfl); (case aB => exact HB5.out); (case aF => exact (fun _ _ => trivial)); (case aO => exact HR5.out); (case aS => exact hsz5); (case aL => omega); intro v1 w6 ho hb hg hat; have HO:=Zz.k ho; have HBB:=Zz.k hb; clear ho hb hg hat))
   go_roundg g2
   case measure => omega
   case rel => exact ⟨j + 1,by omega,by omega,by go_num,HBB,⟨by rw [HTK.out]; exact HO.out⟩⟩
  ·obtain rfl : j = (Qau l0).length:=by omega
   have hjz : ¬ ((Qau l0).length : Int) < ((Qau l0).length : Int):=by omega
   rw [List.take_length] at HR
   obtain ⟨AR,cR,rfl,hcR,hCR⟩:=Kd.R_reads HR.out
   have hcv : ∀ v,(convert 48 9 (.slice AR ((Qau l0).map (atR l0)).length cR)).run Tryz.prog wr = .ok v wr -> v = .string (plainR l0) -> True:=fun _ _ _ => trivial
   have hcv : (convert 48 9 (.slice AR ((Qau l0).map (atR l0)).length cR)).run Tryz.prog wr = .ok (.string (plainR l0)) wr:=by
    unfold plainR
    cases AR with
    | none =>
     cases hz : (Qau l0).map (atR l0) with
     | nil => exact run_convert_runes_nil wr _ _ 21 _ _ hrs hri hru
     | cons a b =>
      rw [hz] at hCR
      obtain ⟨ad,e,_⟩:=Kd.at_int hCR 0 (Int.le_refl _) (by simp)
      cases e
    | some ad =>
     have:=run_convert_runes (P:=Tryz.prog) wr 48 9 21 ad ((Qau l0).map (atR l0)).length cR ((Qau l0).map (atR l0)) (Nat.le_refl _) hrs hri hru (fun q hq => by
      obtain ⟨ad',e,hc⟩:=Kd.at_int hCR (q : Int) (by omega) (by omega)
      injection e with e
      subst e
      rw [Int.toNat_natCast] at hc
      rw [hc]; unfold rd; rw [Int.toNat_natCast])
     rw [List.take_length] at this
     exact this
   have HBE:=Zz.k (Qas HBS.out HB.out)
   clear hcR hCR HR HB
   generalize ((Qau l0).map (atR l0)).length = nn at hcv
   go_wp2
   go_ret
   exact ⟨rfl,HBE.out⟩
end
section
attribute [local go_sem] Qbm Qbk Qbu Qbt Qbc Qbb Qbl Qbj
def doc_Text.f (l0 : List (SOp)) : Option (ByteArray × Int):=(tree_May.f l0).bind fun t262 => (if t262 = true then ((doc_Plain.f l0).bind fun t263 => (some (t263,0))) else (some ((⟨#[]⟩ : ByteArray),1)))
theorem doc_Text.calls (A0 : Option Addr) (c0 : Nat) (l0 : List (SOp)) (r1 : ByteArray) (r2 : Int) (w : World) (hr0 : Kd.C kOp w A0 l0.length l0) (hc0 : l0.length <= c0) (h : doc_Text.f l0 = some (r1,r2)) :
  Calls Tryz.prog 17 #[.slice A0 l0.length c0] w fun e w' => e = .returned (.tuple #[.string r1, .int .i64 r2]) /\ Below w.heap.size w w':=by
 have HR0:=Zz.k hr0
 have HC0:=Zz.k hc0
 clear hr0 hc0
 have HB:=Zz.k (Below.refl w.heap.size w)
 unfold doc_Text.f at h; have H:=h
 clear h
 obtain ⟨t262,A2,H⟩:=bE H
 by_cases c3 : t262 = true
 ·subst c3
  rw [if_pos rfl] at H
  obtain ⟨t263,A4,H⟩:=bE H
  simp only [Option.some.injEq,Prod.mk.injEq] at H
  obtain ⟨rfl,rfl⟩:=H
  go_enter Tryz.func17,Tryz.ntmps17
  go_wp2_with (first | ((with_reducible refine Qac (f:=44) rfl ?_); refine gl (some 5) Tryz.func44 #[.slice A0 l0.length c0] (h := ?_); (with_reducible refine (tree_May.calls _ _ l0 true _ ?side1 ?side2 A2.out).mono ?_); (case side1 => repeat (first | exact HR0.out | (with_reducible refine Kd.C_alloc ?_ _) | (with_reducible refine Kd.C_drewN ?_ _) | (with_reducible refine Kd.C_drew ?_))); (case side2 => exact HC0.out); rintro e w5 ⟨rfl,hb⟩; refine ⟨_,rfl, ?_⟩; replace HB:=bs HB hb; clear hb) | ((with_reducible refine Qac (f:=56) rfl ?_); refine gl (some 8) Tryz.func56 #[.slice A0 l0.length c0] (h := ?_); (with_reducible refine (doc_Plain.calls _ _ l0 t263 _ ?side1 ?side2 A4.out).mono ?_); (case side1 => exact cb HR0 HB); (case side2 => exact HC0.out); rintro e w6 ⟨rfl,hb⟩; refine ⟨_,rfl, ?_⟩; replace HB:=bs HB hb; clear hb))
  go_ret2
  exact ⟨re,bw HB⟩
 replace c3:=Zf c3
 subst c3
 rw [if_neg nft] at H
 simp only [Option.some.injEq,Prod.mk.injEq] at H
 obtain ⟨rfl,rfl⟩:=H
 go_enter Tryz.func17,Tryz.ntmps17
 go_wp2_with (first | ((with_reducible refine Qac (f:=44) rfl ?_); refine gl (some 5) Tryz.func44 #[.slice A0 l0.length c0] (h := ?_); (with_reducible refine (tree_May.calls _ _ l0 false _ ?side1 ?side2 A2.out).mono ?_); (case side1 => repeat (first | exact HR0.out | (with_reducible refine Kd.C_alloc ?_ _) | (with_reducible refine Kd.C_drewN ?_ _) | (with_reducible refine Kd.C_drew ?_))); (case side2 => exact HC0.out); rintro e w7 ⟨rfl,hb⟩; refine ⟨_,rfl, ?_⟩; replace HB:=bs HB hb; clear hb))
 go_ret2
 exact ⟨re,bw HB⟩
def edit_Insert.f (l0 : List (SOp)) (a1 : Int) (a2 : Int) (a3 : ByteArray) : Option (Int × Int × Int × Int × Int × Int × ByteArray × (List (SElem)) × Int × Int × Int × Int):=(edit_Replace.f l0 a1 a2 0 a3).bind fun bt265 => (some (bt265.1,bt265.2.1,bt265.2.2.1,bt265.2.2.2.1,bt265.2.2.2.2.1,bt265.2.2.2.2.2.1,bt265.2.2.2.2.2.2.1,bt265.2.2.2.2.2.2.2.1,bt265.2.2.2.2.2.2.2.2.1,bt265.2.2.2.2.2.2.2.2.2.1,bt265.2.2.2.2.2.2.2.2.2.2.1,bt265.2.2.2.2.2.2.2.2.2.2.2))
theorem edit_Insert.calls (A0 : Option Addr) (c0 : Nat) (l0 : List (SOp)) (a1 : Int) (a2 : Int) (a3 : ByteArray) (r1 : Int) (r2 : Int) (r3 : Int) (r4 : Int) (r5 : Int) (r6 : Int) (r7 : ByteArray) (r8 : List (SElem)) (r9 : Int) (r10 : Int) (r11 : Int) (r12 : Int) (w : World) (hr0 : Kd.C kOp w A0 l0.length l0) (hc0 : l0.length <= c0) (h : edit_Insert.f l0 a1 a2 a3 = some (r1,r2,r3,r4,r5,r6,r7,r8,r9,r10,r11,r12)) :
  Calls Tryz.prog 27 #[.slice A0 l0.length c0, .int .i64 a1, .int .i64 a2, .string a3] w fun e w' => ∃ v7_ : Value,e = .returned (.tuple #[.agg #[.int .i64 r1, .int .i64 r2, .int .i64 r3, .int .i64 r4, .int .i64 r5, .int .i64 r6, .string r7,v7_, .int .i64 r9, .int .i64 r10, .int .i64 r11], .int .i64 r12]) /\ Kd.R Qap 32 w' w.heap.size (fun _ => True) v7_ r8 /\ Below w.heap.size w w':=by
 have hu34:=Tryz.underlying34
 have HR0:=Zz.k hr0
 have HC0:=Zz.k hc0
 clear hr0 hc0
 have HB:=Zz.k (Below.refl w.heap.size w)
 unfold edit_Insert.f at h; have H:=h
 clear h
 obtain ⟨⟨t265,t266,t267,t268,t269,t270,t271,t272,t275,t276,t277,t278⟩,A5,H⟩:=bE H
 try dsimp only at H
 simp only [Option.some.injEq,Prod.mk.injEq] at H
 obtain ⟨rfl,rfl,rfl,rfl,rfl,rfl,rfl,rfl,rfl,rfl,rfl,rfl⟩:=H
 go_enter Tryz.func27,Tryz.ntmps27
 go_wp2_with (first | ((with_reducible refine Qaf (N:=8) rfl ?_); refine bx 8 #[.int .i64 0, .int .i64 0, .int .i64 0, .int .i64 0, .int .i64 0, .int .i64 0, .string (⟨#[]⟩ : ByteArray), .slice none 0 0, .int .i64 0, .int .i64 0, .int .i64 0] 34 (h := ?_); intro gb264 hg w6 hbox hb; have BK264:=Zz.k (hbox); have GW264:=bz HB hg; have GE264:=bz HB hg; replace HB:=bs HB hb; clear hb hbox hg) | ((with_reducible refine Qac (f:=10) rfl ?_); refine gl (some 14) Tryz.func10 #[.slice A0 l0.length c0, .int .i64 a1, .int .i64 a2, .int .i64 0, .string a3] (h := ?_); (with_reducible refine (edit_Replace.calls _ _ l0 a1 a2 0 a3 t265 t266 t267 t268 t269 t270 t271 t272 t275 t276 t277 t278 _ ?side1 ?side2 A5.out).mono ?_); (case side1 => exact cb HR0 HB); (case side2 => exact HC0.out); rintro e w7 ⟨v273,rfl,ho0,hb⟩; refine ⟨_,rfl, ?_⟩; have HO274:=Zz.k (Kd.R_lower ho0 (Qal (bw HB))); replace BK264:=bl BK264 hb; replace HB:=bs HB hb; clear hb; clear ho0; obtain ⟨_,_,_,_,_,_,_,_,_,_,_,_,_,_,_,_,_,_,_,_,_,_⟩:=kc11 BK264; obtain ⟨Ao9,co9,eo9⟩:=Kd.R_slice HO274.out; subst eo9))
 refine bodyPost_ret (Qbv rfl _ _ gb264 34 #[.int .i64 t265, .int .i64 t266, .int .i64 t267, .int .i64 t268, .int .i64 t269, .int .i64 t270, .string t271, .slice Ao9 t272.length co9, .int .i64 t275, .int .i64 t276, .int .i64 t277] (0,0) _ rfl (bp11 (kk BK264)) Tryz.underlying34 rfl (by kernel_rfl)) rfl ?_
 exact ⟨_,re,by (with_reducible repeat (first | apply Kd.R_alloc | apply Kd.R_drewN | apply Kd.R_drew)); exact Kd.R_mono (rf11 (Kd.R_types HO274.out BK264.out (by decide))) (fun _ hk => trivial),bw HB⟩
end
section
section
variable {P : Program} {ops : Array Oper} {rest : List Oper} {o : Oper} {a : Act} {Q : Exit -> Act -> World -> Prop}
theorem lit_event {W : World} (hgd : o.guard = none) {N : Tmp} (_hd : o.dst = some N) {cs : Array Value} {t : TypeId} {n : Nat}
  (hrun : (execOp a.eval o).run P W = .ok (.value (.slice (some ⟨W.heap.size,0,none⟩) n n)) (W.alloc (.cells cs t (0,0))))
  (h : ∀ g,g = W.heap.size -> ∀ w1,w1.heap[g]? = some (.cells cs t (0,0)) -> Below W.heap.size W w1 -> wpList P ops Q rest (a.put o.dst (.slice (some ⟨g,0,none⟩) n n)) w1) : wpList P ops Q (o :: rest) a W :=
 Kd.event_run hgd hrun (h _ rfl _ (blk_new W _) (Qag (Below.refl _ _) _))
end
theorem one_reads {Rr : SOp -> List Value -> Prop} {W : World} {g : Nat} {o : SOp} {cells : List Value} {t : TypeId} (hb : W.heap[g]? = some (.cells cells.toArray t (0,0))) (hl : cells.length = 11) (hR : Rr o cells) : Qcu Rr kOp.sz W (some ⟨g,0,none⟩) 1 [o]:=by
 refine ⟨rfl,by omega,fun _ => ⟨_,rfl,fun j p hp => ?_⟩⟩
 have hj : j = 0:=by
  rcases j with _ | j
  ·rfl
  ·simp at hp
 subst hj
 simp only [List.getElem?_cons_zero,Option.some.injEq] at hp
 subst hp
 refine ⟨cells,hl,hR,fun i u hu => ?_⟩
 have ea : (⟨g,0,none⟩ : Addr).add (0 * kOp.sz + i) = ⟨g,i,none⟩:=by rw [Addr.add_lit,Nat.zero_mul,Nat.zero_add,Nat.zero_add]
 rw [ea,Qdf hb i]
 simpa using hu
theorem one_op {W : World} {base g : Nat} {a0 a1 a2 a3 a4 a5 : Int} {a6 : ByteArray} {A7 : Option Addr} {m c7 : Nat} {l7 : List SElem} {a8 a9 a10 : Int} {t : TypeId} (hb : W.heap[g]? = some (.cells #[.int .i64 a0, .int .i64 a1, .int .i64 a2, .int .i64 a3, .int .i64 a4, .int .i64 a5, .string a6, .slice A7 m c7, .int .i64 a8, .int .i64 a9, .int .i64 a10] t (0,0))) (hR : RE W base (.slice A7 m c7) l7) : Kd.C kOp W (some ⟨g,0,none⟩) 1 [⟨a0,a1,a2,⟨a3,a4,a5⟩,a6,l7,a8,a9,a10⟩]:=by
 obtain ⟨rfl,h2,h3⟩:=Kd.R_reads' hR
 exact one_reads (cells:=[.int .i64 a0, .int .i64 a1, .int .i64 a2, .int .i64 a3, .int .i64 a4, .int .i64 a5, .string a6, .slice A7 l7.length c7, .int .i64 a8, .int .i64 a9, .int .i64 a10]) hb rfl (kOp_mk W ⟨a0,a1,a2,⟨a3,a4,a5⟩,a6,l7,a8,a9,a10⟩ h2 h3)
theorem insW : edit_Insert.f [] 1 0 (⟨#[97,98]⟩ : ByteArray) = some (1,1,1,0,0,0,(⟨#[97,98]⟩ : ByteArray),[],0,0,0,0):=by kernel_rfl
theorem txtW : doc_Text.f [⟨1,1,1,⟨0,0,0⟩,⟨#[97,98]⟩,[],0,0,0⟩] = some ((⟨#[97,98]⟩ : ByteArray),0):=by decide +kernel
theorem wakes7 (w : World) : Calls Tryz.prog 16 #[] w fun e w' => e = .returned (.bool true) /\ Below w.heap.size w w':=by
 have HB:=Zz.k (Below.refl w.heap.size w)
 go_enter Tryz.func16,Tryz.ntmps16
 go_wp2_with (first | ((with_reducible refine Qac (f:=27) rfl ?_); refine gl (some 6) Tryz.func27 #[.slice none 0 0, .int .i64 1, .int .i64 0, .string (⟨#[97,98]⟩ : ByteArray)] (h := ?_); (refine (edit_Insert.calls none 0 [] 1 0 (⟨#[97,98]⟩ : ByteArray) 1 1 1 0 0 0 (⟨#[97,98]⟩ : ByteArray) [] 0 0 0 0 _ (Kd.C_nil _ _) (Nat.le_refl _) insW).mono ?_); rintro e w2 ⟨v7,rfl,hR,hb⟩; obtain ⟨A7,c7,rfl⟩:=Kd.R_slice hR; refine ⟨_,rfl, ?_⟩; have HR7:=Zz.k hR; replace HB:=bs HB hb; clear hb hR) | ((with_reducible refine Qaf (N:=1) rfl ?_); refine bx 1 #[.int .i64 0, .int .i64 0, .int .i64 0, .int .i64 0, .int .i64 0, .int .i64 0, .string (⟨#[]⟩ : ByteArray), .slice none 0 0, .int .i64 0, .int .i64 0, .int .i64 0] 34 (h := ?_); intro gb1 hg w3 hbox hb; have BK1:=Zz.k hbox; have GE1:=Zz.k ((by rw [hg]; exact (Qal (bw HB)) : w.heap.size <= gb1)); replace HR7:=rb HR7 hb; replace HB:=bs HB hb; clear hb hbox hg; obtain ⟨_,_,_,_,_,_,_,_,_,_,_,_,_,_,_,_,_,_,_,_,_,_⟩:=kc11 BK1) | ((with_reducible refine Qaf (N:=11) rfl ?_); refine lit_event rfl rfl (cs:=#[.int .i64 1, .int .i64 1, .int .i64 1, .int .i64 0, .int .i64 0, .int .i64 0, .string (⟨#[97,98]⟩ : ByteArray), .slice A7 0 c7, .int .i64 0, .int .i64 0, .int .i64 0]) (t:=34) (n:=1) (hrun:=by first | (go_simp; done) | (go_simp; rfl)) ?_; intro gb2 hg w4 hbox hb; have HR8:=Zz.k (Kd.R_below (put11_R HR7.out BK1.out (.int .i64 1) (.int .i64 1) (.int .i64 1) (.int .i64 0) (.int .i64 0) (.int .i64 0) (.string (⟨#[97,98]⟩ : ByteArray)) (.slice A7 0 c7) (.int .i64 0) (.int .i64 0) (.int .i64 0)) hb); have BK2:=Zz.k hbox; replace HB:=bs HB hb; replace BK1:=Zz.k (Qcp (bp11 (kk BK1)) hb); clear hb hbox hg HR7) | ((with_reducible refine Qac (f:=17) rfl ?_); refine gl (some 12) Tryz.func17 #[.slice (some ⟨gb2,0,none⟩) 1 1] (h := ?_); (refine (doc_Text.calls (some ⟨gb2,0,none⟩) 1 [⟨1,1,1,⟨0,0,0⟩,⟨#[97,98]⟩,[],0,0,0⟩] (⟨#[97,98]⟩ : ByteArray) 0 _ (one_op BK2.out HR8.out) (Nat.le_refl _) txtW).mono ?_); rintro e w5 ⟨rfl,hb⟩; refine ⟨_,rfl, ?_⟩; replace HB:=bs HB hb; replace BK1:=bl BK1 hb; clear hb; obtain ⟨_,_,_,_,_,_,_,_,_,_,_,_,_,_,_,_,_,_,_,_,_,_⟩:=kc11 BK1) | ((with_reducible refine Qaf (N:=16) rfl ?_); (try (refine Qah (by rfl) ?_; dsimp only)); refine gl (some 16) Tryz.func11 #[.int .i64 0] (h := ?_); (refine (w7_num.calls 0 0 _ rfl).mono ?_); rintro e w6 ⟨rfl,hd⟩; refine ⟨_,rfl, ?_⟩; have hb:=hd.below; replace HB:=bs HB hb; replace BK1:=bl BK1 hb; clear hb hd; obtain ⟨_,_,_,_,_,_,_,_,_,_,_,_,_,_,_,_,_,_,_,_,_,_⟩:=kc11 BK1) | ((with_reducible refine Qaf (N:=20) rfl ?_); (try (refine Qah (by rfl) ?_; dsimp only)); refine gl (some 20) Tryz.func11 #[.int .i64 0] (h := ?_); (refine (w7_num.calls 0 0 _ rfl).mono ?_); rintro e w6 ⟨rfl,hd⟩; refine ⟨_,rfl, ?_⟩; have hb:=hd.below; replace HB:=bs HB hb; replace BK1:=bl BK1 hb; clear hb hd; obtain ⟨_,_,_,_,_,_,_,_,_,_,_,_,_,_,_,_,_,_,_,_,_,_⟩:=kc11 BK1))
 go_ret
 exact ⟨rfl,bw HB⟩
def w7_wakes.f : Option Bool:=some true
theorem w7_wakes.calls (r : Bool) (w : World) (h : w7_wakes.f = some r) :
  Calls Tryz.prog 16 #[] w fun e w' => e = .returned (.bool r) /\ Below w.heap.size w w':=by
 obtain rfl:=Zo h
 exact wakes7 w
end
section
attribute [local go_sem] Qbm Qbk Qbu Qbt Qbc Qbb Qbl Qbj
attribute [local go_sem high] eqAElem
def r0_At.l0 : Nat -> List (SElem) -> Int -> Int -> Int -> Int -> Option (Int)
 | 0,_,_,_,_,_ => none
 | k + 1,x0,x5,x327000,x327001,x327002 => if x5 < (x0.length : Int) then (if 0 <= x5 then (if (((Qaa x0 x5).f0) == x327000 && (((Qaa x0 x5).f1) == x327001 && (((Qaa x0 x5).f2) == x327002))) = true then (some x5) else (r0_At.l0 k x0 (wrap64 (x5 + 1)) x327000 x327001 x327002)) else (none)) else (some (-1))
def r0_At.f (k : Nat) (l0 : List (SElem)) (a1_0 : Int) (a1_1 : Int) (a1_2 : Int) : Option (Int):=r0_At.l0 k l0 0 a1_0 a1_1 a1_2
theorem r0_At.calls (k : Nat) (A0 : Option Addr) (c0 : Nat) (l0 : List (SElem)) (a1_0 : Int) (a1_1 : Int) (a1_2 : Int) (r : Int) (w : World) (hr0 : Kd.C Qap w A0 l0.length l0) (hc0 : l0.length <= c0) (h : r0_At.f k l0 a1_0 a1_1 a1_2 = some r) :
  Calls Tryz.prog 15 #[.slice A0 l0.length c0, .agg #[.int .i64 a1_0, .int .i64 a1_1, .int .i64 a1_2]] w fun e w' => e = .returned (.int .i64 r) /\ Below w.heap.size w w':=by
 have hu32:=Tryz.underlying32
 have HR0:=Zz.k hr0
 have HC0:=Zz.k hc0
 clear hr0 hc0
 have HB:=Zz.k (Below.refl w.heap.size w)
 unfold r0_At.f at h; have H:=h
 clear h
 have H':=Zz.k H
 clear H
 go_enter Tryz.func15,Tryz.ntmps15
 go_wp2_with (first | ((with_reducible refine Qaf (N:=3) rfl ?_); refine bx 3 #[.int .i64 a1_0, .int .i64 a1_1, .int .i64 a1_2] 32 (h := ?_); intro gb326 hg w3 hbox hb; have BK326:=Zz.k (hbox); have GW326:=bz HB hg; have GE326:=bz HB hg; replace HB:=bs HB hb; clear hb hbox hg))
 repeat (go_quiet (first | ((with_reducible refine Qaf (N:=3) rfl ?_); refine bx 3 #[.int .i64 a1_0, .int .i64 a1_1, .int .i64 a1_2] 32 (h := ?_); intro gb326 hg w3 hbox hb; have BK326:=Zz.k (hbox); have GW326:=bz HB hg; have GE326:=bz HB hg; replace HB:=bs HB hb; clear hb hbox hg)); try go_wp2_with (first | ((with_reducible refine Qaf (N:=3) rfl ?_); refine bx 3 #[.int .i64 a1_0, .int .i64 a1_1, .int .i64 a1_2] 32 (h := ?_); intro gb326 hg w3 hbox hb; have BK326:=Zz.k (hbox); have GW326:=bz HB hg; have GE326:=bz HB hg; replace HB:=bs HB hb; clear hb hbox hg)))
 go_loopg [5] k (fun kq v5 w' => ∃ (x5_1 : Int),v5 = .int .i64 x5_1 /\ Zz (r0_At.l0 kq l0 x5_1 a1_0 a1_1 a1_2 = some r) /\ Zz (kq <= k) /\ Zz (w'.heap[gb326]? = some (.cells #[.int .i64 a1_0, .int .i64 a1_1, .int .i64 a1_2] 32 (0,0))) /\ Zz (Below w.heap.size w w'))
 case atStart => exact ⟨(0),rf,H',⟨Nat.le_refl _⟩,⟨kk BK326⟩,⟨bw HB⟩⟩
 case round =>
  clear H'
  obtain ⟨x5_1,rfl,HA,HK1,BK326,HB⟩:=hrel
  cases gk with
  | zero => exact absurd HA.out (by simp [r0_At.l0])
  | succ k1 =>
   have H:=HA.out
   clear HA
   simp only [r0_At.l0] at H
   by_cases c4 : x5_1 < (l0.length : Int); rotate_left
   ·rw [if_neg c4] at H
    have c4b0:=Ze c4
    clear c4
    obtain rfl:=Zo H
    go_wp2
    repeat (go_quiet (fail); try go_wp2)
    go_ret
    exact ⟨re,bw HB⟩
   rw [if_pos c4] at H
   have c4b0:=Zd c4
   clear c4
   by_cases c5 : 0 <= x5_1; rotate_left
   ·rw [if_neg c5] at H
    exact absurd H (by simp)
   rw [if_pos c5] at H
   have c5b0:=Zd c5
   clear c5
   by_cases c6 : (((Qaa l0 x5_1).f0) == a1_0 && (((Qaa l0 x5_1).f1) == a1_1 && (((Qaa l0 x5_1).f2) == a1_2))) = true
   ·rw [if_pos c6] at H
    have c6b0 : (((Qaa l0 x5_1).f0) == a1_0 && (((Qaa l0 x5_1).f1) == a1_1 && (((Qaa l0 x5_1).f2) == a1_2))) = true:=c6
    (try (have c6b1 : decide (((Qaa l0 x5_1).f0) = a1_0 && (((Qaa l0 x5_1).f1) == a1_1 && (((Qaa l0 x5_1).f2) == a1_2))) = true:=by simpa using c6))
    (try (have c6b2 : (((Qaa l0 x5_1).f0) == a1_0 && (((Qaa l0 x5_1).f1) == a1_1 && (((Qaa l0 x5_1).f2) == a1_2))) = true:=by simpa using c6))
    clear c6
    obtain rfl:=Zo H
    have p327 : 0 <= (x5_1 : Int):=od
    have q327 : x5_1 < (l0.length : Int):=od
    obtain ⟨ad327,e327,hx327_0,hx327_1,hx327_2⟩:=Qbd HR0.out x5_1 p327 q327
    cases e327
    replace hx327_0:=cl HB hx327_0
    replace hx327_1:=cl HB hx327_1
    replace hx327_2:=cl HB hx327_2
    replace p327:=eq_true p327
    replace q327:=eq_true q327
    obtain ⟨_,_,_,_,_,_⟩:=kc3 BK326
    go_wp2
    repeat (go_quiet (fail); try go_wp2)
    go_ret
    exact ⟨re,bw HB⟩
   rw [if_neg c6] at H
   have c6b0 : (((Qaa l0 x5_1).f0) == a1_0 && (((Qaa l0 x5_1).f1) == a1_1 && (((Qaa l0 x5_1).f2) == a1_2))) = false:=by simpa using c6
   (try (have c6b1 : decide (((Qaa l0 x5_1).f0) = a1_0 && (((Qaa l0 x5_1).f1) == a1_1 && (((Qaa l0 x5_1).f2) == a1_2))) = false:=by simpa using c6))
   (try (have c6b2 : (((Qaa l0 x5_1).f0) == a1_0 && (((Qaa l0 x5_1).f1) == a1_1 && (((Qaa l0 x5_1).f2) == a1_2))) = false:=by simpa using c6))
   (try (have c6b3 : ¬ (((Qaa l0 x5_1).f0) = a1_0 && (((Qaa l0 x5_1).f1) == a1_1 && (((Qaa l0 x5_1).f2) == a1_2))):=by simpa using c6))
   clear c6
   have H':=Zz.k H
   clear H
   have p327 : 0 <= (x5_1 : Int):=od
   have q327 : x5_1 < (l0.length : Int):=od
   obtain ⟨ad327,e327,hx327_0,hx327_1,hx327_2⟩:=Qbd HR0.out x5_1 p327 q327
   cases e327
   replace hx327_0:=cl HB hx327_0
   replace hx327_1:=cl HB hx327_1
   replace hx327_2:=cl HB hx327_2
   replace p327:=eq_true p327
   replace q327:=eq_true q327
   obtain ⟨_,_,_,_,_,_⟩:=kc3 BK326
   go_wp2
   repeat (go_quiet (fail); try go_wp2)
   go_roundg k1
   case measure => have:=HK1.out; omega
   case rel => exact ⟨(wrap64 (x5_1 + 1)),rf,H',⟨by have:=HK1.out; omega⟩,⟨kk BK326⟩,⟨bw HB⟩⟩
def r4_Count.l0 : Nat -> List (SOp) -> Int -> Int -> Int -> Int -> Option (Int)
 | 0,_,_,_,_,_ => none
 | k + 1,x0,x1,x2,x7,x8 => if x8 < (x0.length : Int) then (if 0 <= x8 then (if ((Qad x0 x8).f2) = 2 then (if ((Qad x0 x8).f6) = x1 then (if ((Qad x0 x8).f7) = x2 then (if ((Qad x0 x8).f8) = x7 then (r4_Count.l0 k x0 x1 x2 (wrap64 (x7 + 1)) (wrap64 (x8 + 1))) else (r4_Count.l0 k x0 x1 x2 x7 (wrap64 (x8 + 1)))) else (r4_Count.l0 k x0 x1 x2 x7 (wrap64 (x8 + 1)))) else (r4_Count.l0 k x0 x1 x2 x7 (wrap64 (x8 + 1)))) else (r4_Count.l0 k x0 x1 x2 x7 (wrap64 (x8 + 1)))) else (none)) else (some x7)
def r4_Count.f (k : Nat) (l0 : List (SOp)) (a1 : Int) (a2 : Int) : Option (Int):=r4_Count.l0 k l0 a1 a2 0 0
theorem r4_Count.calls (k : Nat) (A0 : Option Addr) (c0 : Nat) (l0 : List (SOp)) (a1 : Int) (a2 : Int) (r : Int) (w : World) (hr0 : Kd.C kOp w A0 l0.length l0) (hc0 : l0.length <= c0) (h : r4_Count.f k l0 a1 a2 = some r) :
  Calls Tryz.prog 65 #[.slice A0 l0.length c0, .int .i64 a1, .int .i64 a2] w fun e w' => e = .returned (.int .i64 r) /\ Drawn0 w w':=by
 have HR0:=Zz.k hr0
 have HC0:=Zz.k hc0
 clear hr0 hc0
 unfold r4_Count.f at h; have H:=h
 clear h
 have H':=Zz.k H
 clear H
 go_enter Tryz.func65,Tryz.ntmps65
 go_wp2
 go_loopg [7,8] k (fun kq v7 v8 w' => ∃ (x7_1 : Int) (x8_1 : Int),v7 = .int .i64 x7_1 /\ v8 = .int .i64 x8_1 /\ Zz (r4_Count.l0 kq l0 a1 a2 x7_1 x8_1 = some r) /\ Zz (kq <= k) /\ Drawn0 w w')
 case atStart => exact ⟨(0),(0),rf,rf,H',⟨Nat.le_refl _⟩,by repeat (first | exact Drawn0.refl _ | apply Drawn0.step)⟩
 case round =>
  clear H'
  obtain ⟨x7_1,x8_1,rfl,rfl,HA,HK1,⟨m1,rfl⟩⟩:=hrel
  cases gk with
  | zero => exact absurd HA.out (by simp [r4_Count.l0])
  | succ k1 =>
   have H:=HA.out
   clear HA
   simp only [r4_Count.l0] at H
   by_cases c4 : x8_1 < (l0.length : Int); rotate_left
   ·rw [if_neg c4] at H
    have c4b0:=Ze c4
    clear c4
    obtain rfl:=Zo H
    go_wp2
    go_ret
    exact ⟨rf,by repeat (first | exact Drawn0.refl _ | apply Drawn0.step)⟩
   rw [if_pos c4] at H
   have c4b0:=Zd c4
   clear c4
   by_cases c5 : 0 <= x8_1; rotate_left
   ·rw [if_neg c5] at H
    exact absurd H (by simp)
   rw [if_pos c5] at H
   have c5b0:=Zd c5
   clear c5
   by_cases c6 : ((Qad l0 x8_1).f2) = 2; rotate_left
   ·rw [if_neg c6] at H
    obtain ⟨c6b0,c6b1⟩:=bF c6
    have H':=Zz.k H
    clear H
    have p328 : 0 <= (x8_1 : Int):=od
    have q328 : x8_1 < (l0.length : Int):=od
    obtain ⟨ad328,A328_7,c328_7,e328,hx328_0,hx328_1,hx328_2,hx328_3,hx328_4,hx328_5,hx328_6,hx328_7,hx328_8,hx328_9,hx328_10,hl328_7,hi328_7⟩:=Qcg HR0.out x8_1 p328 q328
    cases e328
    have HR328_7:=Zz.k hi328_7
    have HC328_7:=Zz.k hl328_7
    clear hi328_7 hl328_7
    replace p328:=eq_true p328
    replace q328:=eq_true q328
    go_wp2
    go_roundg k1
    case measure => have:=HK1.out; omega
    case rel => exact ⟨(x7_1),(wrap64 (x8_1 + 1)),rf,rf,H',⟨by have:=HK1.out; omega⟩,by repeat (first | exact Drawn0.refl _ | apply Drawn0.step)⟩
   rw [if_pos c6] at H
   obtain ⟨c6b0,c6b1⟩:=bT c6
   clear c6
   by_cases c7 : ((Qad l0 x8_1).f6) = a1; rotate_left
   ·rw [if_neg c7] at H
    obtain ⟨c7b0,c7b1⟩:=bF c7
    have H':=Zz.k H
    clear H
    have p328 : 0 <= (x8_1 : Int):=od
    have q328 : x8_1 < (l0.length : Int):=od
    obtain ⟨ad328,A328_7,c328_7,e328,hx328_0,hx328_1,hx328_2,hx328_3,hx328_4,hx328_5,hx328_6,hx328_7,hx328_8,hx328_9,hx328_10,hl328_7,hi328_7⟩:=Qcg HR0.out x8_1 p328 q328
    cases e328
    have HR328_7:=Zz.k hi328_7
    have HC328_7:=Zz.k hl328_7
    clear hi328_7 hl328_7
    replace p328:=eq_true p328
    replace q328:=eq_true q328
    go_wp2
    go_roundg k1
    case measure => have:=HK1.out; omega
    case rel => exact ⟨(x7_1),(wrap64 (x8_1 + 1)),rf,rf,H',⟨by have:=HK1.out; omega⟩,by repeat (first | exact Drawn0.refl _ | apply Drawn0.step)⟩
   rw [if_pos c7] at H
   obtain ⟨c7b0,c7b1⟩:=bT c7
   clear c7
   by_cases c8 : ((Qad l0 x8_1).f7) = a2; rotate_left
   ·rw [if_neg c8] at H
    obtain ⟨c8b0,c8b1⟩:=bF c8
    have H':=Zz.k H
    clear H
    have p328 : 0 <= (x8_1 : Int):=od
    have q328 : x8_1 < (l0.length : Int):=od
    obtain ⟨ad328,A328_7,c328_7,e328,hx328_0,hx328_1,hx328_2,hx328_3,hx328_4,hx328_5,hx328_6,hx328_7,hx328_8,hx328_9,hx328_10,hl328_7,hi328_7⟩:=Qcg HR0.out x8_1 p328 q328
    cases e328
    have HR328_7:=Zz.k hi328_7
    have HC328_7:=Zz.k hl328_7
    clear hi328_7 hl328_7
    replace p328:=eq_true p328
    replace q328:=eq_true q328
    go_wp2
    go_roundg k1
    case measure => have:=HK1.out; omega
    case rel => exact ⟨(x7_1),(wrap64 (x8_1 + 1)),rf,rf,H',⟨by have:=HK1.out; omega⟩,by repeat (first | exact Drawn0.refl _ | apply Drawn0.step)⟩
   rw [if_pos c8] at H
   obtain ⟨c8b0,c8b1⟩:=bT c8
   clear c8
   by_cases c9 : ((Qad l0 x8_1).f8) = x7_1
   ·rw [if_pos c9] at H
    obtain ⟨c9b0,c9b1⟩:=bT c9
    clear c9
    have H':=Zz.k H
    clear H
    have p328 : 0 <= (x8_1 : Int):=od
    have q328 : x8_1 < (l0.length : Int):=od
    obtain ⟨ad328,A328_7,c328_7,e328,hx328_0,hx328_1,hx328_2,hx328_3,hx328_4,hx328_5,hx328_6,hx328_7,hx328_8,hx328_9,hx328_10,hl328_7,hi328_7⟩:=Qcg HR0.out x8_1 p328 q328
    cases e328
    have HR328_7:=Zz.k hi328_7
    have HC328_7:=Zz.k hl328_7
    clear hi328_7 hl328_7
    replace p328:=eq_true p328
    replace q328:=eq_true q328
    go_wp2
    go_roundg k1
    case measure => have:=HK1.out; omega
    case rel => exact ⟨(wrap64 (x7_1 + 1)),(wrap64 (x8_1 + 1)),rf,rf,H',⟨by have:=HK1.out; omega⟩,by repeat (first | exact Drawn0.refl _ | apply Drawn0.step)⟩
   rw [if_neg c9] at H
   obtain ⟨c9b0,c9b1⟩:=bF c9
   have H':=Zz.k H
   clear H
   have p328 : 0 <= (x8_1 : Int):=od
   have q328 : x8_1 < (l0.length : Int):=od
   obtain ⟨ad328,A328_7,c328_7,e328,hx328_0,hx328_1,hx328_2,hx328_3,hx328_4,hx328_5,hx328_6,hx328_7,hx328_8,hx328_9,hx328_10,hl328_7,hi328_7⟩:=Qcg HR0.out x8_1 p328 q328
   cases e328
   have HR328_7:=Zz.k hi328_7
   have HC328_7:=Zz.k hl328_7
   clear hi328_7 hl328_7
   replace p328:=eq_true p328
   replace q328:=eq_true q328
   go_wp2
   go_roundg k1
   case measure => have:=HK1.out; omega
   case rel => exact ⟨(x7_1),(wrap64 (x8_1 + 1)),rf,rf,H',⟨by have:=HK1.out; omega⟩,by repeat (first | exact Drawn0.refl _ | apply Drawn0.step)⟩
def r4_Effective.f (k : Nat) (l0 : List (SOp)) (a1 : Int) (a2 : Int) : Option (Bool):=(r4_Count.f k l0 a1 a2).bind fun t332 => (some ((Int.tmod t332 2) == 0))
theorem r4_Effective.calls (k : Nat) (A0 : Option Addr) (c0 : Nat) (l0 : List (SOp)) (a1 : Int) (a2 : Int) (r : Bool) (w : World) (hr0 : Kd.C kOp w A0 l0.length l0) (hc0 : l0.length <= c0) (h : r4_Effective.f k l0 a1 a2 = some r) :
  Calls Tryz.prog 41 #[.slice A0 l0.length c0, .int .i64 a1, .int .i64 a2] w fun e w' => e = .returned (.bool r) /\ Drawn0 w w':=by
 have HR0:=Zz.k hr0
 have HC0:=Zz.k hc0
 clear hr0 hc0
 unfold r4_Effective.f at h; have H:=h
 clear h
 obtain ⟨t332,A4,H⟩:=bE H
 obtain rfl:=Zo H
 go_enter Tryz.func41,Tryz.ntmps41
 go_wp2_with (first | ((with_reducible refine Qac (f:=65) rfl ?_); refine gl (some 10) Tryz.func65 #[.slice A0 l0.length c0, .int .i64 a1, .int .i64 a2] (h := ?_); (with_reducible refine (r4_Count.calls k _ _ l0 a1 a2 t332 _ ?side1 ?side2 A4.out).mono ?_); (case side1 => repeat (first | exact HR0.out | (with_reducible refine Kd.C_alloc ?_ _) | (with_reducible refine Kd.C_drewN ?_ _) | (with_reducible refine Kd.C_drew ?_))); (case side2 => exact HC0.out); rintro e w' ⟨rfl,⟨nd,rfl⟩⟩; refine ⟨_,rfl, ?_⟩))
 go_ret
 exact ⟨rf,by repeat (first | exact Drawn0.refl _ | apply Drawn0.step)⟩
end
end Go.Proofs.YtlllghajjamdpaaGreatDoor.L
end
