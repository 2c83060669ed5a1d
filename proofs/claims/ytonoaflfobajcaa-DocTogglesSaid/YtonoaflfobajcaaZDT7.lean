/- Part 7 of the proof that for every argument the law DocToggles answers true: with a toggle that does not count the text is as it was, with two of one edit too, with one what it wrote is visible no more, or again. -/
import Derived.Test.YtonoaflfobajcaaZDT6
import Derived.Lib.SliceRun
import Derived.Laws.IdiomStrings
import Derived.Laws.Cover4
section
namespace Go.Proofs.Ytonoaflfobajcaa.L
open Go.RowKit Go.Proofs.YtonoaflfobajcaaW.PrintWords Go.Proofs.YtonoaflfobajcaaW.PrintLast Go.Proofs.YtonoaflfobajcaaW.PrintMore
attribute [local go_sem] max2_int min2_int max_two min_two max_three min_three max_four min_four
set_option linter.unusedVariables false
set_option linter.unusedSimpArgs false
def doc_Counts.l0 : Nat → List (SOp) → List Int → List (SOp) → Int → Int → Option (List Int)
 | 0,_,_,_,_,_ => none
 | k + 1,x0,x3,x10,x11,x12 => if x12 < x11 then (if 0 ≤ x12 then (if x12 < (x10.length : Int) then (if ((rd_Op x10 x12).f2) = 2 then ((tree_Find.f x0 ((rd_Op x10 x12).f6) ((rd_Op x10 x12).f7)).bind fun t167 => (if 0 ≤ t167 then (if t167 < (x3.length : Int) then (if ((rd_Op x10 x12).f8) = (rd x3 t167) then (doc_Counts.l0 k x0 (x3.set (t167 : Int).toNat (wrap64 ((rd x3 t167) + 1))) x10 x11 (wrap64 (x12 + 1))) else (doc_Counts.l0 k x0 x3 x10 x11 (wrap64 (x12 + 1)))) else (none)) else (none))) else (doc_Counts.l0 k x0 x3 x10 x11 (wrap64 (x12 + 1)))) else (none)) else (none)) else (some x3)
def doc_Counts.f (k : Nat) (l0 : List (SOp)) : Option (List Int):=if 0 ≤ (l0.length : Int) then (if ((l0.length : Int) : Int).toNat ≤ 35184372088832 then (doc_Counts.l0 k l0 (List.replicate ((l0.length : Int) : Int).toNat 0) l0 (l0.length : Int) 0) else (none)) else (none)
set_option maxHeartbeats 8000000 in
set_option maxRecDepth 100000 in
theorem doc_Counts.calls (k : Nat) (A0 : Option Addr) (c0 : Nat) (l0 : List (SOp)) (r : List Int) (w : World) (hr0 : Kd.C kOp w A0 l0.length l0) (hc0 : l0.length ≤ c0) (h : doc_Counts.f k l0 = some r) :
  Calls Try.prog 30 #[.slice A0 l0.length c0] w fun e w' => ∃ v0_ : Value,e = .returned (v0_) ∧ Kd.R (Kd.int .i64) 3 w' w.heap.size (fun _ => True) v0_ r ∧ Below w.heap.size w w':=by
 have hu38:=Try.underlying38
 have HR0:=Aside0.mk hr0
 have HC0:=Aside0.mk hc0
 clear hr0 hc0
 have HB:=Aside0.mk (Below.refl w.heap.size w)
 unfold doc_Counts.f at h; have H:=h
 clear h
 by_cases c2 : 0 ≤ (l0.length : Int); rotate_left
 ·rw [if_neg c2] at H
  exact absurd H (by simp)
 rw [if_pos c2] at H
 have c2b0:=eq_true c2
 have c2b1:=decide_eq_true c2
 clear c2
 by_cases c3 : ((l0.length : Int) : Int).toNat ≤ 35184372088832; rotate_left
 ·rw [if_neg c3] at H
  exact absurd H (by simp)
 rw [if_pos c3] at H
 have c3b0:=eq_true c3
 have c3b1:=decide_eq_true c3
 clear c3
 obtain ⟨y162,hy162⟩ : ∃ y_ : List Int,y_ = (List.replicate ((l0.length : Int) : Int).toNat 0):=⟨_,rfl⟩
 first | rw [Option.bind_some,← hy162] at H | rw [← hy162] at H
 have Ny162:=Aside0.mk hy162
 clear hy162
 have H':=Aside0.mk H
 clear H
 go_enter Try.func30,Try.ntmps30
 go_wp2_with (first | ((with_reducible refine gate_dst (N:=9) rfl ?_); refine Kd.R_make (Kd.int .i64) _ 3 rfl (N:=9) rfl 25 _ _ rfl (l0.length : Int) rfl rfl Try.underlying25 (.int .i64 0) 8 info3 rfl (by decide) (by omega) 0 (ok:=fun _ => True) (okp:=fun _ => True) rfl (fun _ hk => hk) trivial (od) (Nat.le_trans (Nat.mul_le_mul_right _ (od : (l0.length : Int).toNat ≤ 35184372088832)) (by omega)) (Below.refl _ _) (Nat.le_refl _) ?_; intro v163 w4 ho5 hb hg_ hnew_; clear hg_ hnew_; (first | rw [← Ny162.out] at ho5 | (simp only [Int.reduceToNat] at ho5; rw [← Ny162.out] at ho5)); have HO164:=Aside0.mk (Kd.R_lower ho5 (below_size (bw HB))); replace HB:=bs HB hb; clear hb ho5))
 repeat (go_quiet (first | ((with_reducible refine gate_dst (N:=9) rfl ?_); refine Kd.R_make (Kd.int .i64) _ 3 rfl (N:=9) rfl 25 _ _ rfl (l0.length : Int) rfl rfl Try.underlying25 (.int .i64 0) 8 info3 rfl (by decide) (by omega) 0 (ok:=fun _ => True) (okp:=fun _ => True) rfl (fun _ hk => hk) trivial (od) (Nat.le_trans (Nat.mul_le_mul_right _ (od : (l0.length : Int).toNat ≤ 35184372088832)) (by omega)) (Below.refl _ _) (Nat.le_refl _) ?_; intro v163 w4 ho5 hb hg_ hnew_; clear hg_ hnew_; (first | rw [← Ny162.out] at ho5 | (simp only [Int.reduceToNat] at ho5; rw [← Ny162.out] at ho5)); have HO164:=Aside0.mk (Kd.R_lower ho5 (below_size (bw HB))); replace HB:=bs HB hb; clear hb ho5)); try go_wp2_with (first | ((with_reducible refine gate_dst (N:=9) rfl ?_); refine Kd.R_make (Kd.int .i64) _ 3 rfl (N:=9) rfl 25 _ _ rfl (l0.length : Int) rfl rfl Try.underlying25 (.int .i64 0) 8 info3 rfl (by decide) (by omega) 0 (ok:=fun _ => True) (okp:=fun _ => True) rfl (fun _ hk => hk) trivial (od) (Nat.le_trans (Nat.mul_le_mul_right _ (od : (l0.length : Int).toNat ≤ 35184372088832)) (by omega)) (Below.refl _ _) (Nat.le_refl _) ?_; intro v163 w4 ho5 hb hg_ hnew_; clear hg_ hnew_; (first | rw [← Ny162.out] at ho5 | (simp only [Int.reduceToNat] at ho5; rw [← Ny162.out] at ho5)); have HO164:=Aside0.mk (Kd.R_lower ho5 (below_size (bw HB))); replace HB:=bs HB hb; clear hb ho5)))
 go_loopg [12] k (fun kq v12 w' => ∃ (x3_1 : List Int) (x12_1 : Int),v12 = .int .i64 x12_1 ∧ Aside0 (doc_Counts.l0 kq l0 x3_1 l0 (l0.length : Int) x12_1 = some r) ∧ Aside0 (kq ≤ k) ∧ Aside0 (Kd.R (Kd.int .i64) 3 w' w.heap.size (fun _ => True) v163 x3_1) ∧ Aside0 (Below w.heap.size w w'))
 case atStart => exact ⟨(y162),(0),rf,H',⟨Nat.le_refl _⟩,⟨rk HO164⟩,⟨bw HB⟩⟩
 case round =>
  clear H'
  try clear c2b0; try clear c2b1; try clear c3b0; try clear c3b1
  obtain ⟨x3_1,x12_1,rfl,HA,HK1,HO_3,HB⟩:=hrel
  cases gk with
  | zero => exact absurd HA.out (by simp [doc_Counts.l0])
  | succ k1 =>
   have H:=HA.out
   clear HA
   simp only [doc_Counts.l0] at H
   by_cases c6 : x12_1 < (l0.length : Int); rotate_left
   ·rw [if_neg c6] at H
    have c6b0:=decide_eq_false c6
    clear c6
    obtain rfl:=Option.some.inj H
    go_wp2
    repeat (go_quiet (fail); try go_wp2)
    go_ret
    exact ⟨_,re,by (with_reducible repeat (first | apply Kd.R_alloc | apply Kd.R_drewN | apply Kd.R_drew)); exact HO_3.out,bw HB⟩
   rw [if_pos c6] at H
   have c6b0:=decide_eq_true c6
   clear c6
   by_cases c7 : 0 ≤ x12_1; rotate_left
   ·rw [if_neg c7] at H
    exact absurd H (by simp)
   rw [if_pos c7] at H
   have c7b0:=decide_eq_true c7
   clear c7
   by_cases c8 : x12_1 < (l0.length : Int); rotate_left
   ·rw [if_neg c8] at H
    exact absurd H (by simp)
   rw [if_pos c8] at H
   have c8b0:=decide_eq_true c8
   clear c8
   by_cases c9 : ((rd_Op l0 x12_1).f2) = 2; rotate_left
   ·rw [if_neg c9] at H
    obtain ⟨c9b0,c9b1⟩:=bF c9
    have H':=Aside0.mk H
    clear H
    have p165 : 0 ≤ (x12_1 : Int):=od
    have q165 : x12_1 < (l0.length : Int):=od
    obtain ⟨ad165,A165_7,c165_7,e165,hx165_0,hx165_1,hx165_2,hx165_3,hx165_4,hx165_5,hx165_6,hx165_7,hx165_8,hx165_9,hx165_10,hl165_7,hi165_7⟩:=at_Op HR0.out x12_1 p165 q165
    cases e165
    replace hx165_0:=cl HB hx165_0
    replace hx165_1:=cl HB hx165_1
    replace hx165_2:=cl HB hx165_2
    replace hx165_3:=cl HB hx165_3
    replace hx165_4:=cl HB hx165_4
    replace hx165_5:=cl HB hx165_5
    replace hx165_6:=cl HB hx165_6
    replace hx165_7:=cl HB hx165_7
    replace hx165_8:=cl HB hx165_8
    replace hx165_9:=cl HB hx165_9
    replace hx165_10:=cl HB hx165_10
    have HR165_7:=Aside0.mk hi165_7
    have HC165_7:=Aside0.mk hl165_7
    clear hi165_7 hl165_7
    replace p165:=eq_true p165
    replace q165:=eq_true q165
    go_wp2_with (first | ((with_reducible refine gate_dst (N:=5) rfl ?_); refine bx 5 #[.int .i64 0, .int .i64 0, .int .i64 0, .int .i64 0, .int .i64 0, .int .i64 0, .string (⟨#[]⟩ : ByteArray), .slice none 0 0, .int .i64 0, .int .i64 0, .int .i64 0] 38 (h := ?_); intro gb166 hg w27 hbox hb; have BK166:=Aside0.mk (hbox); have GW166:=bz HB hg; have GE166:=bz HB hg; replace HO_3:=rb HO_3 hb; replace HB:=bs HB hb; clear hb hbox hg; obtain ⟨_,_,_,_,_,_,_,_,_,_,_,_,_,_,_,_,_,_,_,_,_,_⟩:=kc11 BK166))
    repeat (go_quiet (first | ((with_reducible refine gate_dst (N:=5) rfl ?_); refine bx 5 #[.int .i64 0, .int .i64 0, .int .i64 0, .int .i64 0, .int .i64 0, .int .i64 0, .string (⟨#[]⟩ : ByteArray), .slice none 0 0, .int .i64 0, .int .i64 0, .int .i64 0] 38 (h := ?_); intro gb166 hg w27 hbox hb; have BK166:=Aside0.mk (hbox); have GW166:=bz HB hg; have GE166:=bz HB hg; replace HO_3:=rb HO_3 hb; replace HB:=bs HB hb; clear hb hbox hg; obtain ⟨_,_,_,_,_,_,_,_,_,_,_,_,_,_,_,_,_,_,_,_,_,_⟩:=kc11 BK166)); try go_wp2_with (first | ((with_reducible refine gate_dst (N:=5) rfl ?_); refine bx 5 #[.int .i64 0, .int .i64 0, .int .i64 0, .int .i64 0, .int .i64 0, .int .i64 0, .string (⟨#[]⟩ : ByteArray), .slice none 0 0, .int .i64 0, .int .i64 0, .int .i64 0] 38 (h := ?_); intro gb166 hg w27 hbox hb; have BK166:=Aside0.mk (hbox); have GW166:=bz HB hg; have GE166:=bz HB hg; replace HO_3:=rb HO_3 hb; replace HB:=bs HB hb; clear hb hbox hg; obtain ⟨_,_,_,_,_,_,_,_,_,_,_,_,_,_,_,_,_,_,_,_,_,_⟩:=kc11 BK166)))
    go_roundg k1
    case measure => have:=HK1.out; omega
    case rel => exact ⟨(x3_1),(wrap64 (x12_1 + 1)),rf,H',⟨by have:=HK1.out; omega⟩,⟨by (with_reducible repeat (first | apply Kd.R_alloc | apply Kd.R_drewN | apply Kd.R_drew)); exact Kd.R_mono (rf11 (Kd.R_types HO_3.out BK166.out (by decide))) (fun _ hk => trivial)⟩,⟨bw HB⟩⟩
   rw [if_pos c9] at H
   obtain ⟨c9b0,c9b1⟩:=bT c9
   clear c9
   obtain ⟨t167,A10,H⟩:=bE H
   by_cases c11 : 0 ≤ t167; rotate_left
   ·rw [if_neg c11] at H
    exact absurd H (by simp)
   rw [if_pos c11] at H
   have c11b0:=decide_eq_true c11
   clear c11
   by_cases c12 : t167 < (x3_1.length : Int); rotate_left
   ·rw [if_neg c12] at H
    exact absurd H (by simp)
   rw [if_pos c12] at H
   have c12b0:=decide_eq_true c12
   clear c12
   by_cases c13 : ((rd_Op l0 x12_1).f8) = (rd x3_1 t167); rotate_left
   ·rw [if_neg c13] at H
    obtain ⟨c13b0,c13b1⟩:=bF c13
    have H':=Aside0.mk H
    clear H
    have p165 : 0 ≤ (x12_1 : Int):=od
    have q165 : x12_1 < (l0.length : Int):=od
    obtain ⟨ad165,A165_7,c165_7,e165,hx165_0,hx165_1,hx165_2,hx165_3,hx165_4,hx165_5,hx165_6,hx165_7,hx165_8,hx165_9,hx165_10,hl165_7,hi165_7⟩:=at_Op HR0.out x12_1 p165 q165
    cases e165
    replace hx165_0:=cl HB hx165_0
    replace hx165_1:=cl HB hx165_1
    replace hx165_2:=cl HB hx165_2
    replace hx165_3:=cl HB hx165_3
    replace hx165_4:=cl HB hx165_4
    replace hx165_5:=cl HB hx165_5
    replace hx165_6:=cl HB hx165_6
    replace hx165_7:=cl HB hx165_7
    replace hx165_8:=cl HB hx165_8
    replace hx165_9:=cl HB hx165_9
    replace hx165_10:=cl HB hx165_10
    have HR165_7:=Aside0.mk hi165_7
    have HC165_7:=Aside0.mk hl165_7
    clear hi165_7 hl165_7
    replace p165:=eq_true p165
    replace q165:=eq_true q165
    go_wp2_with (first | ((with_reducible refine gate_dst (N:=5) rfl ?_); refine bx 5 #[.int .i64 0, .int .i64 0, .int .i64 0, .int .i64 0, .int .i64 0, .int .i64 0, .string (⟨#[]⟩ : ByteArray), .slice none 0 0, .int .i64 0, .int .i64 0, .int .i64 0] 38 (h := ?_); intro gb166 hg w22 hbox hb; have BK166:=Aside0.mk (hbox); have GW166:=bz HB hg; have GE166:=bz HB hg; replace HO_3:=rb HO_3 hb; replace HB:=bs HB hb; clear hb hbox hg; obtain ⟨_,_,_,_,_,_,_,_,_,_,_,_,_,_,_,_,_,_,_,_,_,_⟩:=kc11 BK166) | (go_at_call 33; (with_reducible refine (tree_Find.calls _ _ l0 ((rd_Op l0 x12_1).f6) ((rd_Op l0 x12_1).f7) t167 _ ?side1 ?side2 A10.out).mono ?_); (case side1 => exact Kd.C_below HR0.out (bw HB)); (case side2 => exact HC0.out); rintro e w24 ⟨rfl,hb⟩; replace HO_3:=Aside0.mk (Kd.R_below (by (with_reducible repeat (first | apply Kd.R_alloc | apply Kd.R_drewN | apply Kd.R_drew)); exact (Kd.R_mono (rf11 (Kd.R_types HO_3.out BK166.out (by decide))) (fun _ h_ => h_.1))) hb); replace BK166:=Aside0.mk (blk_below (bp11 (kk BK166)) hb); replace HB:=bs HB hb; clear hb; obtain ⟨_,_,_,_,_,_,_,_,_,_,_,_,_,_,_,_,_,_,_,_,_,_⟩:=kc11 BK166; obtain ⟨Ao26,co26,eo26⟩:=Kd.R_slice HO_3.out; subst eo26; have p168 : 0 ≤ (t167 : Int):=od; have q168 : t167 < (x3_1.length : Int):=od; obtain ⟨ad168,e168,hx168_0⟩:=Kd.at_int (Kd.R_reads' HO_3.out).2.2 t167 p168 q168; cases e168; replace p168:=eq_true p168; replace q168:=eq_true q168))
    repeat (go_quiet (first | ((with_reducible refine gate_dst (N:=5) rfl ?_); refine bx 5 #[.int .i64 0, .int .i64 0, .int .i64 0, .int .i64 0, .int .i64 0, .int .i64 0, .string (⟨#[]⟩ : ByteArray), .slice none 0 0, .int .i64 0, .int .i64 0, .int .i64 0] 38 (h := ?_); intro gb166 hg w22 hbox hb; have BK166:=Aside0.mk (hbox); have GW166:=bz HB hg; have GE166:=bz HB hg; replace HO_3:=rb HO_3 hb; replace HB:=bs HB hb; clear hb hbox hg; obtain ⟨_,_,_,_,_,_,_,_,_,_,_,_,_,_,_,_,_,_,_,_,_,_⟩:=kc11 BK166) | (go_at_call 33; (with_reducible refine (tree_Find.calls _ _ l0 ((rd_Op l0 x12_1).f6) ((rd_Op l0 x12_1).f7) t167 _ ?side1 ?side2 A10.out).mono ?_); (case side1 => exact Kd.C_below HR0.out (bw HB)); (case side2 => exact HC0.out); rintro e w24 ⟨rfl,hb⟩; replace HO_3:=Aside0.mk (Kd.R_below (by (with_reducible repeat (first | apply Kd.R_alloc | apply Kd.R_drewN | apply Kd.R_drew)); exact (Kd.R_mono (rf11 (Kd.R_types HO_3.out BK166.out (by decide))) (fun _ h_ => h_.1))) hb); replace BK166:=Aside0.mk (blk_below (bp11 (kk BK166)) hb); replace HB:=bs HB hb; clear hb; obtain ⟨_,_,_,_,_,_,_,_,_,_,_,_,_,_,_,_,_,_,_,_,_,_⟩:=kc11 BK166; obtain ⟨Ao26,co26,eo26⟩:=Kd.R_slice HO_3.out; subst eo26; have p168 : 0 ≤ (t167 : Int):=od; have q168 : t167 < (x3_1.length : Int):=od; obtain ⟨ad168,e168,hx168_0⟩:=Kd.at_int (Kd.R_reads' HO_3.out).2.2 t167 p168 q168; cases e168; replace p168:=eq_true p168; replace q168:=eq_true q168)); try go_wp2_with (first | ((with_reducible refine gate_dst (N:=5) rfl ?_); refine bx 5 #[.int .i64 0, .int .i64 0, .int .i64 0, .int .i64 0, .int .i64 0, .int .i64 0, .string (⟨#[]⟩ : ByteArray), .slice none 0 0, .int .i64 0, .int .i64 0, .int .i64 0] 38 (h := ?_); intro gb166 hg w22 hbox hb; have BK166:=Aside0.mk (hbox); have GW166:=bz HB hg; have GE166:=bz HB hg; replace HO_3:=rb HO_3 hb; replace HB:=bs HB hb; clear hb hbox hg; obtain ⟨_,_,_,_,_,_,_,_,_,_,_,_,_,_,_,_,_,_,_,_,_,_⟩:=kc11 BK166) | (go_at_call 33; (with_reducible refine (tree_Find.calls _ _ l0 ((rd_Op l0 x12_1).f6) ((rd_Op l0 x12_1).f7) t167 _ ?side1 ?side2 A10.out).mono ?_); (case side1 => exact Kd.C_below HR0.out (bw HB)); (case side2 => exact HC0.out); rintro e w24 ⟨rfl,hb⟩; replace HO_3:=Aside0.mk (Kd.R_below (by (with_reducible repeat (first | apply Kd.R_alloc | apply Kd.R_drewN | apply Kd.R_drew)); exact (Kd.R_mono (rf11 (Kd.R_types HO_3.out BK166.out (by decide))) (fun _ h_ => h_.1))) hb); replace BK166:=Aside0.mk (blk_below (bp11 (kk BK166)) hb); replace HB:=bs HB hb; clear hb; obtain ⟨_,_,_,_,_,_,_,_,_,_,_,_,_,_,_,_,_,_,_,_,_,_⟩:=kc11 BK166; obtain ⟨Ao26,co26,eo26⟩:=Kd.R_slice HO_3.out; subst eo26; have p168 : 0 ≤ (t167 : Int):=od; have q168 : t167 < (x3_1.length : Int):=od; obtain ⟨ad168,e168,hx168_0⟩:=Kd.at_int (Kd.R_reads' HO_3.out).2.2 t167 p168 q168; cases e168; replace p168:=eq_true p168; replace q168:=eq_true q168)))
    go_roundg k1
    case measure => have:=HK1.out; omega
    case rel => exact ⟨(x3_1),(wrap64 (x12_1 + 1)),rf,H',⟨by have:=HK1.out; omega⟩,⟨rk HO_3⟩,⟨bw HB⟩⟩
   rw [if_pos c13] at H
   obtain ⟨c13b0,c13b1⟩:=bT c13
   clear c13
   obtain ⟨y170,hy170⟩ : ∃ y_ : List Int,y_ = (x3_1.set (t167 : Int).toNat (wrap64 ((rd x3_1 t167) + 1))):=⟨_,rfl⟩
   first | rw [Option.bind_some,← hy170] at H | rw [← hy170] at H
   have Ny170:=Aside0.mk hy170
   clear hy170
   have H':=Aside0.mk H
   clear H
   have p165 : 0 ≤ (x12_1 : Int):=od
   have q165 : x12_1 < (l0.length : Int):=od
   obtain ⟨ad165,A165_7,c165_7,e165,hx165_0,hx165_1,hx165_2,hx165_3,hx165_4,hx165_5,hx165_6,hx165_7,hx165_8,hx165_9,hx165_10,hl165_7,hi165_7⟩:=at_Op HR0.out x12_1 p165 q165
   cases e165
   replace hx165_0:=cl HB hx165_0
   replace hx165_1:=cl HB hx165_1
   replace hx165_2:=cl HB hx165_2
   replace hx165_3:=cl HB hx165_3
   replace hx165_4:=cl HB hx165_4
   replace hx165_5:=cl HB hx165_5
   replace hx165_6:=cl HB hx165_6
   replace hx165_7:=cl HB hx165_7
   replace hx165_8:=cl HB hx165_8
   replace hx165_9:=cl HB hx165_9
   replace hx165_10:=cl HB hx165_10
   have HR165_7:=Aside0.mk hi165_7
   have HC165_7:=Aside0.mk hl165_7
   clear hi165_7 hl165_7
   replace p165:=eq_true p165
   replace q165:=eq_true q165
   go_wp2_with (first | ((with_reducible refine gate_dst (N:=5) rfl ?_); refine bx 5 #[.int .i64 0, .int .i64 0, .int .i64 0, .int .i64 0, .int .i64 0, .int .i64 0, .string (⟨#[]⟩ : ByteArray), .slice none 0 0, .int .i64 0, .int .i64 0, .int .i64 0] 38 (h := ?_); intro gb166 hg w15 hbox hb; have BK166:=Aside0.mk (hbox); have GW166:=bz HB hg; have GE166:=bz HB hg; replace HO_3:=rb HO_3 hb; replace HB:=bs HB hb; clear hb hbox hg; obtain ⟨_,_,_,_,_,_,_,_,_,_,_,_,_,_,_,_,_,_,_,_,_,_⟩:=kc11 BK166) | (go_at_call 33; (with_reducible refine (tree_Find.calls _ _ l0 ((rd_Op l0 x12_1).f6) ((rd_Op l0 x12_1).f7) t167 _ ?side1 ?side2 A10.out).mono ?_); (case side1 => exact Kd.C_below HR0.out (bw HB)); (case side2 => exact HC0.out); rintro e w17 ⟨rfl,hb⟩; replace HO_3:=Aside0.mk (Kd.R_below (by (with_reducible repeat (first | apply Kd.R_alloc | apply Kd.R_drewN | apply Kd.R_drew)); exact (Kd.R_mono (rf11 (Kd.R_types HO_3.out BK166.out (by decide))) (fun _ h_ => h_.1))) hb); replace BK166:=Aside0.mk (blk_below (bp11 (kk BK166)) hb); replace HB:=bs HB hb; clear hb; obtain ⟨_,_,_,_,_,_,_,_,_,_,_,_,_,_,_,_,_,_,_,_,_,_⟩:=kc11 BK166; obtain ⟨Ao19,co19,eo19⟩:=Kd.R_slice HO_3.out; subst eo19; have p168 : 0 ≤ (t167 : Int):=od; have q168 : t167 < (x3_1.length : Int):=od; obtain ⟨ad168,e168,hx168_0⟩:=Kd.at_int (Kd.R_reads' HO_3.out).2.2 t167 p168 q168; cases e168; replace p168:=eq_true p168; replace q168:=eq_true q168; have p169 : 0 ≤ (t167 : Int):=od; have q169 : t167 < (x3_1.length : Int):=od; obtain ⟨ad169,e169,hx169_0⟩:=Kd.at_int (Kd.R_reads' HO_3.out).2.2 t167 p169 q169; obtain rfl : ad168 = ad169:=(by injection e169); replace p169:=eq_true p169; replace q169:=eq_true q169; have p14 : 0 ≤ (t167 : Int):=od; have q14 : (t167 : Int) < ((x3_1.length : Int) : Int):=od; obtain ⟨go14,co14,eo14,gb14,gl14,cl14,HG14⟩:=Kd.R_form HO_3.out (by omega); (first | cases eo14 | (injection eo14 with ea_ en_ ec_; (first | subst ea_ | (injection ea_ with ea_; subst ea_)); subst ec_; clear en_)); have GB14:=Aside0.mk gb14; have GG14:=Aside0.mk HG14; clear gb14 gl14 HG14; (first | simp only [add_plain] at hx168_0 | skip); (first | simp only [add_plain] at hx169_0 | skip); obtain ⟨hx14_0,hf14_0⟩:=Kd.R_celln 0 HO_3.out (t167 : Int) p14 q14; replace p14:=eq_true p14; replace q14:=eq_true q14; obtain ⟨hy20_,hz20_⟩:=Kd.R_celln 0 HO_3.out (t167 : Int) (od) (od); have HP20:=Kd.R_putg HO_3.out (t167 : Int) (wrap64 ((rd x3_1 t167) + 1))) | ((with_reducible refine gate_store (t:=3) (p:=37) rfl ?_); (try (rw [drewN_self w17]; generalize hq_ : World.drewN w17 _ = w17; have n0_:=Aside0.mk (Kd.R_at hq_ HO_3.out); have n1_:=Aside0.mk (blk_at hq_ BK166.out); have n2_:=Aside0.mk (below_at hq_ HB.out); clear hq_ HO_3 BK166 HB; have HO_3:=n0_; have BK166:=n1_; have HB:=n2_; clear n0_ n1_ n2_; (try (obtain ⟨hy20_,hz20_⟩:=Kd.R_celln 0 HO_3.out (t167 : Int) (od) (od))); (try (have HP20:=Kd.R_putg HO_3.out (t167 : Int) (wrap64 ((rd x3_1 t167) + 1)))))); refine store_event (t:=3) (p:=37) (v := ?vo_w21) (w1:=(w17.setCell ⟨go14,(t167 : Int).toNat,none⟩ (.int .i64 (wrap64 ((rd x3_1 t167) + 1))))) ?hg ?ho ?hn ?hr ?_; (case ho => rfl); (case hg => rfl); (case hn => rfl); (case hr => first | (go_simp; done) | (go_simp; rfl)); intro w21 hw; have hg : w17.grownBy w21 (some go14):=(by rw [hw]; exact HP20.2); have hp_ : Kd.R (Kd.int .i64) 3 w21 w.heap.size (fun _ => True) (.slice (some ⟨go14,0,none⟩) x3_1.length co19) y170:=(by rw [hw,Ny170.out]; exact HP20.1); clear HP20; replace BK166:=Aside0.mk (blk_grown (kk BK166) hg (Kd.R_ne HO_3.out BK166.out (by decide))); replace HO_3:=Aside0.mk (hp_); replace HB:=Aside0.mk ((by rw [hw]; exact below_set (HB.out) GB14.out : Below w.heap.size w w21)); clear hg hw hp_))
   repeat (go_quiet (first | ((with_reducible refine gate_dst (N:=5) rfl ?_); refine bx 5 #[.int .i64 0, .int .i64 0, .int .i64 0, .int .i64 0, .int .i64 0, .int .i64 0, .string (⟨#[]⟩ : ByteArray), .slice none 0 0, .int .i64 0, .int .i64 0, .int .i64 0] 38 (h := ?_); intro gb166 hg w15 hbox hb; have BK166:=Aside0.mk (hbox); have GW166:=bz HB hg; have GE166:=bz HB hg; replace HO_3:=rb HO_3 hb; replace HB:=bs HB hb; clear hb hbox hg; obtain ⟨_,_,_,_,_,_,_,_,_,_,_,_,_,_,_,_,_,_,_,_,_,_⟩:=kc11 BK166) | (go_at_call 33; (with_reducible refine (tree_Find.calls _ _ l0 ((rd_Op l0 x12_1).f6) ((rd_Op l0 x12_1).f7) t167 _ ?side1 ?side2 A10.out).mono ?_); (case side1 => exact Kd.C_below HR0.out (bw HB)); (case side2 => exact HC0.out); rintro e w17 ⟨rfl,hb⟩; replace HO_3:=Aside0.mk (Kd.R_below (by (with_reducible repeat (first | apply Kd.R_alloc | apply Kd.R_drewN | apply Kd.R_drew)); exact (Kd.R_mono (rf11 (Kd.R_types HO_3.out BK166.out (by decide))) (fun _ h_ => h_.1))) hb); replace BK166:=Aside0.mk (blk_below (bp11 (kk BK166)) hb); replace HB:=bs HB hb; clear hb; obtain ⟨_,_,_,_,_,_,_,_,_,_,_,_,_,_,_,_,_,_,_,_,_,_⟩:=kc11 BK166; obtain ⟨Ao19,co19,eo19⟩:=Kd.R_slice HO_3.out; subst eo19; have p168 : 0 ≤ (t167 : Int):=od; have q168 : t167 < (x3_1.length : Int):=od; obtain ⟨ad168,e168,hx168_0⟩:=Kd.at_int (Kd.R_reads' HO_3.out).2.2 t167 p168 q168; cases e168; replace p168:=eq_true p168; replace q168:=eq_true q168; have p169 : 0 ≤ (t167 : Int):=od; have q169 : t167 < (x3_1.length : Int):=od; obtain ⟨ad169,e169,hx169_0⟩:=Kd.at_int (Kd.R_reads' HO_3.out).2.2 t167 p169 q169; obtain rfl : ad168 = ad169:=(by injection e169); replace p169:=eq_true p169; replace q169:=eq_true q169; have p14 : 0 ≤ (t167 : Int):=od; have q14 : (t167 : Int) < ((x3_1.length : Int) : Int):=od; obtain ⟨go14,co14,eo14,gb14,gl14,cl14,HG14⟩:=Kd.R_form HO_3.out (by omega); (first | cases eo14 | (injection eo14 with ea_ en_ ec_; (first | subst ea_ | (injection ea_ with ea_; subst ea_)); subst ec_; clear en_)); have GB14:=Aside0.mk gb14; have GG14:=Aside0.mk HG14; clear gb14 gl14 HG14; (first | simp only [add_plain] at hx168_0 | skip); (first | simp only [add_plain] at hx169_0 | skip); obtain ⟨hx14_0,hf14_0⟩:=Kd.R_celln 0 HO_3.out (t167 : Int) p14 q14; replace p14:=eq_true p14; replace q14:=eq_true q14; obtain ⟨hy20_,hz20_⟩:=Kd.R_celln 0 HO_3.out (t167 : Int) (od) (od); have HP20:=Kd.R_putg HO_3.out (t167 : Int) (wrap64 ((rd x3_1 t167) + 1))) | ((with_reducible refine gate_store (t:=3) (p:=37) rfl ?_); (try (rw [drewN_self w17]; generalize hq_ : World.drewN w17 _ = w17; have n0_:=Aside0.mk (Kd.R_at hq_ HO_3.out); have n1_:=Aside0.mk (blk_at hq_ BK166.out); have n2_:=Aside0.mk (below_at hq_ HB.out); clear hq_ HO_3 BK166 HB; have HO_3:=n0_; have BK166:=n1_; have HB:=n2_; clear n0_ n1_ n2_; (try (obtain ⟨hy20_,hz20_⟩:=Kd.R_celln 0 HO_3.out (t167 : Int) (od) (od))); (try (have HP20:=Kd.R_putg HO_3.out (t167 : Int) (wrap64 ((rd x3_1 t167) + 1)))))); refine store_event (t:=3) (p:=37) (v := ?vo_w21) (w1:=(w17.setCell ⟨go14,(t167 : Int).toNat,none⟩ (.int .i64 (wrap64 ((rd x3_1 t167) + 1))))) ?hg ?ho ?hn ?hr ?_; (case ho => rfl); (case hg => rfl); (case hn => rfl); (case hr => first | (go_simp; done) | (go_simp; rfl)); intro w21 hw; have hg : w17.grownBy w21 (some go14):=(by rw [hw]; exact HP20.2); have hp_ : Kd.R (Kd.int .i64) 3 w21 w.heap.size (fun _ => True) (.slice (some ⟨go14,0,none⟩) x3_1.length co19) y170:=(by rw [hw,Ny170.out]; exact HP20.1); clear HP20; replace BK166:=Aside0.mk (blk_grown (kk BK166) hg (Kd.R_ne HO_3.out BK166.out (by decide))); replace HO_3:=Aside0.mk (hp_); replace HB:=Aside0.mk ((by rw [hw]; exact below_set (HB.out) GB14.out : Below w.heap.size w w21)); clear hg hw hp_)); try go_wp2_with (first | ((with_reducible refine gate_dst (N:=5) rfl ?_); refine bx 5 #[.int .i64 0, .int .i64 0, .int .i64 0, .int .i64 0, .int .i64 0, .int .i64 0, .string (⟨#[]⟩ : ByteArray), .slice none 0 0, .int .i64 0, .int .i64 0, .int .i64 0] 38 (h := ?_); intro gb166 hg w15 hbox hb; have BK166:=Aside0.mk (hbox); have GW166:=bz HB hg; have GE166:=bz HB hg; replace HO_3:=rb HO_3 hb; replace HB:=bs HB hb; clear hb hbox hg; obtain ⟨_,_,_,_,_,_,_,_,_,_,_,_,_,_,_,_,_,_,_,_,_,_⟩:=kc11 BK166) | (go_at_call 33; (with_reducible refine (tree_Find.calls _ _ l0 ((rd_Op l0 x12_1).f6) ((rd_Op l0 x12_1).f7) t167 _ ?side1 ?side2 A10.out).mono ?_); (case side1 => exact Kd.C_below HR0.out (bw HB)); (case side2 => exact HC0.out); rintro e w17 ⟨rfl,hb⟩; replace HO_3:=Aside0.mk (Kd.R_below (by (with_reducible repeat (first | apply Kd.R_alloc | apply Kd.R_drewN | apply Kd.R_drew)); exact (Kd.R_mono (rf11 (Kd.R_types HO_3.out BK166.out (by decide))) (fun _ h_ => h_.1))) hb); replace BK166:=Aside0.mk (blk_below (bp11 (kk BK166)) hb); replace HB:=bs HB hb; clear hb; obtain ⟨_,_,_,_,_,_,_,_,_,_,_,_,_,_,_,_,_,_,_,_,_,_⟩:=kc11 BK166; obtain ⟨Ao19,co19,eo19⟩:=Kd.R_slice HO_3.out; subst eo19; have p168 : 0 ≤ (t167 : Int):=od; have q168 : t167 < (x3_1.length : Int):=od; obtain ⟨ad168,e168,hx168_0⟩:=Kd.at_int (Kd.R_reads' HO_3.out).2.2 t167 p168 q168; cases e168; replace p168:=eq_true p168; replace q168:=eq_true q168; have p169 : 0 ≤ (t167 : Int):=od; have q169 : t167 < (x3_1.length : Int):=od; obtain ⟨ad169,e169,hx169_0⟩:=Kd.at_int (Kd.R_reads' HO_3.out).2.2 t167 p169 q169; obtain rfl : ad168 = ad169:=(by injection e169); replace p169:=eq_true p169; replace q169:=eq_true q169; have p14 : 0 ≤ (t167 : Int):=od; have q14 : (t167 : Int) < ((x3_1.length : Int) : Int):=od; obtain ⟨go14,co14,eo14,gb14,gl14,cl14,HG14⟩:=Kd.R_form HO_3.out (by omega); (first | cases eo14 | (injection eo14 with ea_ en_ ec_; (first | subst ea_ | (injection ea_ with ea_; subst ea_)); subst ec_; clear en_)); have GB14:=Aside0.mk gb14; have GG14:=Aside0.mk HG14; clear gb14 gl14 HG14; (first | simp only [add_plain] at hx168_0 | skip); (first | simp only [add_plain] at hx169_0 | skip); obtain ⟨hx14_0,hf14_0⟩:=Kd.R_celln 0 HO_3.out (t167 : Int) p14 q14; replace p14:=eq_true p14; replace q14:=eq_true q14; obtain ⟨hy20_,hz20_⟩:=Kd.R_celln 0 HO_3.out (t167 : Int) (od) (od); have HP20:=Kd.R_putg HO_3.out (t167 : Int) (wrap64 ((rd x3_1 t167) + 1))) | ((with_reducible refine gate_store (t:=3) (p:=37) rfl ?_); (try (rw [drewN_self w17]; generalize hq_ : World.drewN w17 _ = w17; have n0_:=Aside0.mk (Kd.R_at hq_ HO_3.out); have n1_:=Aside0.mk (blk_at hq_ BK166.out); have n2_:=Aside0.mk (below_at hq_ HB.out); clear hq_ HO_3 BK166 HB; have HO_3:=n0_; have BK166:=n1_; have HB:=n2_; clear n0_ n1_ n2_; (try (obtain ⟨hy20_,hz20_⟩:=Kd.R_celln 0 HO_3.out (t167 : Int) (od) (od))); (try (have HP20:=Kd.R_putg HO_3.out (t167 : Int) (wrap64 ((rd x3_1 t167) + 1)))))); refine store_event (t:=3) (p:=37) (v := ?vo_w21) (w1:=(w17.setCell ⟨go14,(t167 : Int).toNat,none⟩ (.int .i64 (wrap64 ((rd x3_1 t167) + 1))))) ?hg ?ho ?hn ?hr ?_; (case ho => rfl); (case hg => rfl); (case hn => rfl); (case hr => first | (go_simp; done) | (go_simp; rfl)); intro w21 hw; have hg : w17.grownBy w21 (some go14):=(by rw [hw]; exact HP20.2); have hp_ : Kd.R (Kd.int .i64) 3 w21 w.heap.size (fun _ => True) (.slice (some ⟨go14,0,none⟩) x3_1.length co19) y170:=(by rw [hw,Ny170.out]; exact HP20.1); clear HP20; replace BK166:=Aside0.mk (blk_grown (kk BK166) hg (Kd.R_ne HO_3.out BK166.out (by decide))); replace HO_3:=Aside0.mk (hp_); replace HB:=Aside0.mk ((by rw [hw]; exact below_set (HB.out) GB14.out : Below w.heap.size w w21)); clear hg hw hp_)))
   go_roundg k1
   case measure => have:=HK1.out; omega
   case rel => exact ⟨(y170),(wrap64 (x12_1 + 1)),rf,H',⟨by have:=HK1.out; omega⟩,⟨rk HO_3⟩,⟨bw HB⟩⟩
def doc_Works.l0 : Nat → List (SOp) → List Bool → List Int → Int → Int → Option (List Bool)
 | 0,_,_,_,_,_ => none
 | k + 1,x0,x3,x10,x11,x12 => if x12 < x11 then (if 0 ≤ x12 then (if x12 < (x10.length : Int) then (if x12 < (x0.length : Int) then (if ((rd_Op x0 x12).f2) = 1 then (if x12 < (x3.length : Int) then (doc_Works.l0 k x0 (x3.set (x12 : Int).toNat ((Int.tmod (rd x10 x12) 2) == 0)) x10 x11 (wrap64 (x12 + 1))) else (none)) else (if x12 < (x3.length : Int) then (doc_Works.l0 k x0 (x3.set (x12 : Int).toNat false) x10 x11 (wrap64 (x12 + 1))) else (none))) else (none)) else (none)) else (none)) else (some x3)
def doc_Works.f (k : Nat) (l0 : List (SOp)) : Option (List Bool):=if 0 ≤ (l0.length : Int) then (if ((l0.length : Int) : Int).toNat ≤ 281474976710656 then ((doc_Counts.f k l0).bind fun t174 => (doc_Works.l0 k l0 (List.replicate ((l0.length : Int) : Int).toNat false) t174 (t174.length : Int) 0)) else (none)) else (none)
set_option maxHeartbeats 8000000 in
set_option maxRecDepth 100000 in
theorem doc_Works.calls (k : Nat) (A0 : Option Addr) (c0 : Nat) (l0 : List (SOp)) (r : List Bool) (w : World) (hr0 : Kd.C kOp w A0 l0.length l0) (hc0 : l0.length ≤ c0) (h : doc_Works.f k l0 = some r) :
  Calls Try.prog 55 #[.slice A0 l0.length c0] w fun e w' => ∃ v0_ : Value,e = .returned (v0_) ∧ Kd.R Kd.bool 4 w' w.heap.size (fun _ => True) v0_ r ∧ Below w.heap.size w w':=by
 have HR0:=Aside0.mk hr0
 have HC0:=Aside0.mk hc0
 clear hr0 hc0
 have HB:=Aside0.mk (Below.refl w.heap.size w)
 unfold doc_Works.f at h; have H:=h
 clear h
 by_cases c2 : 0 ≤ (l0.length : Int); rotate_left
 ·rw [if_neg c2] at H
  exact absurd H (by simp)
 rw [if_pos c2] at H
 have c2b0:=eq_true c2
 have c2b1:=decide_eq_true c2
 clear c2
 by_cases c3 : ((l0.length : Int) : Int).toNat ≤ 281474976710656; rotate_left
 ·rw [if_neg c3] at H
  exact absurd H (by simp)
 rw [if_pos c3] at H
 have c3b0:=eq_true c3
 have c3b1:=decide_eq_true c3
 clear c3
 obtain ⟨y171,hy171⟩ : ∃ y_ : List Bool,y_ = (List.replicate ((l0.length : Int) : Int).toNat false):=⟨_,rfl⟩
 first | rw [Option.bind_some,← hy171] at H | rw [← hy171] at H
 have Ny171:=Aside0.mk hy171
 clear hy171
 obtain ⟨t174,A4,H⟩:=bE H
 have H':=Aside0.mk H
 clear H
 go_enter Try.func55,Try.ntmps55
 go_wp2_with (first | ((with_reducible refine gate_dst (N:=8) rfl ?_); refine Kd.R_make Kd.bool _ 4 rfl (N:=8) rfl 86 _ _ rfl (l0.length : Int) rfl rfl Try.underlying86 (.bool false) 1 info4 rfl (by decide) (by omega) false (ok:=fun _ => True) (okp:=fun _ => True) rfl (fun _ hk => hk) trivial (od) (Nat.le_trans (Nat.mul_le_mul_right _ (od : (l0.length : Int).toNat ≤ 281474976710656)) (by omega)) (Below.refl _ _) (Nat.le_refl _) ?_; intro v172 w5 ho6 hb hg_ hnew_; clear hg_ hnew_; (first | rw [← Ny171.out] at ho6 | (simp only [Int.reduceToNat] at ho6; rw [← Ny171.out] at ho6)); have HO173:=Aside0.mk (Kd.R_lower ho6 (below_size (bw HB))); replace HB:=bs HB hb; clear hb ho6) | ((with_reducible refine gate_callee (f:=30) rfl ?_); refine gl (some 10) Try.func30 #[.slice A0 l0.length c0] (h := ?_); (with_reducible refine (doc_Counts.calls k _ _ l0 t174 _ ?side1 ?side2 A4.out).mono ?_); (case side1 => exact cb HR0 HB); (case side2 => exact HC0.out); rintro e w7 ⟨v175,rfl,ho0,hb⟩; refine ⟨_,rfl, ?_⟩; have HO176:=Aside0.mk (Kd.R_lower ho0 (below_size (bw HB))); replace HO173:=rb HO173 hb; replace HB:=bs HB hb; clear hb; clear ho0; obtain ⟨Ao8,co8,eo8⟩:=Kd.R_slice HO176.out; subst eo8))
 go_loopg [12] k (fun kq v12 w' => ∃ (x3_1 : List Bool) (x12_1 : Int),v12 = .int .i64 x12_1 ∧ Aside0 (doc_Works.l0 kq l0 x3_1 t174 (t174.length : Int) x12_1 = some r) ∧ Aside0 (kq ≤ k) ∧ Aside0 (Kd.R Kd.bool 4 w' w.heap.size (fun _ => True) v172 x3_1) ∧ Aside0 (Kd.R (Kd.int .i64) 3 w' w.heap.size (fun _ => True) (.slice Ao8 t174.length co8) t174) ∧ Aside0 (Below w.heap.size w w'))
 case atStart => exact ⟨(y171),(0),rf,H',⟨Nat.le_refl _⟩,⟨rk HO173⟩,⟨rk HO176⟩,⟨bw HB⟩⟩
 case round =>
  clear H'
  try clear c2b0; try clear c2b1; try clear c3b0; try clear c3b1
  obtain ⟨x3_1,x12_1,rfl,HA,HK1,HO_3,HO_10,HB⟩:=hrel
  cases gk with
  | zero => exact absurd HA.out (by simp [doc_Works.l0])
  | succ k1 =>
   have H:=HA.out
   clear HA
   simp only [doc_Works.l0] at H
   by_cases c9 : x12_1 < (t174.length : Int); rotate_left
   ·rw [if_neg c9] at H
    have c9b0:=decide_eq_false c9
    clear c9
    obtain rfl:=Option.some.inj H
    go_wp2
    go_ret
    exact ⟨_,re,by (with_reducible repeat (first | apply Kd.R_alloc | apply Kd.R_drewN | apply Kd.R_drew)); exact HO_3.out,bw HB⟩
   rw [if_pos c9] at H
   have c9b0:=decide_eq_true c9
   clear c9
   by_cases c10 : 0 ≤ x12_1; rotate_left
   ·rw [if_neg c10] at H
    exact absurd H (by simp)
   rw [if_pos c10] at H
   have c10b0:=decide_eq_true c10
   clear c10
   by_cases c11 : x12_1 < (t174.length : Int); rotate_left
   ·rw [if_neg c11] at H
    exact absurd H (by simp)
   rw [if_pos c11] at H
   have c11b0:=decide_eq_true c11
   clear c11
   by_cases c12 : x12_1 < (l0.length : Int); rotate_left
   ·rw [if_neg c12] at H
    exact absurd H (by simp)
   rw [if_pos c12] at H
   have c12b0:=decide_eq_true c12
   clear c12
   by_cases c13 : ((rd_Op l0 x12_1).f2) = 1
   ·rw [if_pos c13] at H
    obtain ⟨c13b0,c13b1⟩:=bT c13
    clear c13
    by_cases c14 : x12_1 < (x3_1.length : Int); rotate_left
    ·rw [if_neg c14] at H
     exact absurd H (by simp)
    rw [if_pos c14] at H
    have c14b0:=decide_eq_true c14
    clear c14
    obtain ⟨y179,hy179⟩ : ∃ y_ : List Bool,y_ = (x3_1.set (x12_1 : Int).toNat ((Int.tmod (rd t174 x12_1) 2) == 0)):=⟨_,rfl⟩
    first | rw [Option.bind_some,← hy179] at H | rw [← hy179] at H
    have Ny179:=Aside0.mk hy179
    clear hy179
    have H':=Aside0.mk H
    clear H
    have p177 : 0 ≤ (x12_1 : Int):=od
    have q177 : x12_1 < (t174.length : Int):=od
    obtain ⟨ad177,e177,hx177_0⟩:=Kd.at_int (Kd.R_reads' HO_10.out).2.2 x12_1 p177 q177
    cases e177
    replace p177:=eq_true p177
    replace q177:=eq_true q177
    have p178 : 0 ≤ (x12_1 : Int):=od
    have q178 : x12_1 < (l0.length : Int):=od
    obtain ⟨ad178,A178_7,c178_7,e178,hx178_0,hx178_1,hx178_2,hx178_3,hx178_4,hx178_5,hx178_6,hx178_7,hx178_8,hx178_9,hx178_10,hl178_7,hi178_7⟩:=at_Op HR0.out x12_1 p178 q178
    cases e178
    replace hx178_0:=cl HB hx178_0
    replace hx178_1:=cl HB hx178_1
    replace hx178_2:=cl HB hx178_2
    replace hx178_3:=cl HB hx178_3
    replace hx178_4:=cl HB hx178_4
    replace hx178_5:=cl HB hx178_5
    replace hx178_6:=cl HB hx178_6
    replace hx178_7:=cl HB hx178_7
    replace hx178_8:=cl HB hx178_8
    replace hx178_9:=cl HB hx178_9
    replace hx178_10:=cl HB hx178_10
    have HR178_7:=Aside0.mk hi178_7
    have HC178_7:=Aside0.mk hl178_7
    clear hi178_7 hl178_7
    replace p178:=eq_true p178
    replace q178:=eq_true q178
    have p15 : 0 ≤ (x12_1 : Int):=od
    have q15 : (x12_1 : Int) < ((x3_1.length : Int) : Int):=od
    obtain ⟨go15,co15,eo15,gb15,gl15,cl15,HG15⟩:=Kd.R_form HO_3.out (by omega)
    (first | cases eo15 | (injection eo15 with ea_ en_ ec_; (first | subst ea_ | (injection ea_ with ea_; subst ea_)); subst ec_; clear en_))
    have GB15:=Aside0.mk gb15
    have GG15:=Aside0.mk HG15
    clear gb15 gl15 HG15
    obtain ⟨hx15_0,hf15_0⟩:=Kd.R_celln false HO_3.out (x12_1 : Int) p15 q15
    replace p15:=eq_true p15
    replace q15:=eq_true q15
    have HP16:=Kd.R_putg HO_3.out (x12_1 : Int) ((Int.tmod (rd t174 x12_1) 2) == 0)
    go_wp2_with (first | ((with_reducible refine gate_store (t:=4) (p:=30) rfl ?_); refine store_event (t:=4) (p:=30) (v := ?vo_w17) (w1:=(wr.setCell ⟨go15,(x12_1 : Int).toNat,none⟩ (.bool ((Int.tmod (rd t174 x12_1) 2) == 0)))) ?hg ?ho ?hn ?hr ?_; (case ho => rfl); (case hg => rfl); (case hn => rfl); (case hr => first | (go_simp; done) | (go_simp; rfl)); intro w17 hw; have hg : wr.grownBy w17 (some go15):=(by rw [hw]; exact HP16.2); have hp_ : Kd.R Kd.bool 4 w17 w.heap.size (fun _ => True) (.slice (some ⟨go15,0,none⟩) x3_1.length co15) y179:=(by rw [hw,Ny179.out]; exact HP16.1); clear HP16; replace HO_10:=Aside0.mk (Kd.R_over' (v:=(.slice (some ⟨go15,0,none⟩) x3_1.length co15)) (rk HO_10) (Kd.R_typed HO_3.out) (by decide) hg); replace HO_3:=Aside0.mk (hp_); replace HB:=Aside0.mk ((by rw [hw]; exact below_set (HB.out) GB15.out : Below w.heap.size w w17)); clear hg hw hp_))
    go_roundg k1
    case measure => have:=HK1.out; omega
    case rel => exact ⟨(y179),(wrap64 (x12_1 + 1)),rf,H',⟨by have:=HK1.out; omega⟩,⟨rk HO_3⟩,⟨rk HO_10⟩,⟨bw HB⟩⟩
   rw [if_neg c13] at H
   obtain ⟨c13b0,c13b1⟩:=bF c13
   by_cases c18 : x12_1 < (x3_1.length : Int); rotate_left
   ·rw [if_neg c18] at H
    exact absurd H (by simp)
   rw [if_pos c18] at H
   have c18b0:=decide_eq_true c18
   clear c18
   obtain ⟨y180,hy180⟩ : ∃ y_ : List Bool,y_ = (x3_1.set (x12_1 : Int).toNat false):=⟨_,rfl⟩
   first | rw [Option.bind_some,← hy180] at H | rw [← hy180] at H
   have Ny180:=Aside0.mk hy180
   clear hy180
   have H':=Aside0.mk H
   clear H
   have p177 : 0 ≤ (x12_1 : Int):=od
   have q177 : x12_1 < (t174.length : Int):=od
   obtain ⟨ad177,e177,hx177_0⟩:=Kd.at_int (Kd.R_reads' HO_10.out).2.2 x12_1 p177 q177
   cases e177
   replace p177:=eq_true p177
   replace q177:=eq_true q177
   have p178 : 0 ≤ (x12_1 : Int):=od
   have q178 : x12_1 < (l0.length : Int):=od
   obtain ⟨ad178,A178_7,c178_7,e178,hx178_0,hx178_1,hx178_2,hx178_3,hx178_4,hx178_5,hx178_6,hx178_7,hx178_8,hx178_9,hx178_10,hl178_7,hi178_7⟩:=at_Op HR0.out x12_1 p178 q178
   cases e178
   replace hx178_0:=cl HB hx178_0
   replace hx178_1:=cl HB hx178_1
   replace hx178_2:=cl HB hx178_2
   replace hx178_3:=cl HB hx178_3
   replace hx178_4:=cl HB hx178_4
   replace hx178_5:=cl HB hx178_5
   replace hx178_6:=cl HB hx178_6
   replace hx178_7:=cl HB hx178_7
   replace hx178_8:=cl HB hx178_8
   replace hx178_9:=cl HB hx178_9
   replace hx178_10:=cl HB hx178_10
   have HR178_7:=Aside0.mk hi178_7
   have HC178_7:=Aside0.mk hl178_7
   clear hi178_7 hl178_7
   replace p178:=eq_true p178
   replace q178:=eq_true q178
   have p19 : 0 ≤ (x12_1 : Int):=od
   have q19 : (x12_1 : Int) < ((x3_1.length : Int) : Int):=od
   obtain ⟨go19,co19,eo19,gb19,gl19,cl19,HG19⟩:=Kd.R_form HO_3.out (by omega)
   (first | cases eo19 | (injection eo19 with ea_ en_ ec_; (first | subst ea_ | (injection ea_ with ea_; subst ea_)); subst ec_; clear en_))
   have GB19:=Aside0.mk gb19
   have GG19:=Aside0.mk HG19
   clear gb19 gl19 HG19
   obtain ⟨hx19_0,hf19_0⟩:=Kd.R_celln false HO_3.out (x12_1 : Int) p19 q19
   replace p19:=eq_true p19
   replace q19:=eq_true q19
   have HP20:=Kd.R_putg HO_3.out (x12_1 : Int) false
   go_wp2_with (first | ((with_reducible refine gate_store (t:=4) (p:=30) rfl ?_); refine store_event (t:=4) (p:=30) (v := ?vo_w21) (w1:=(wr.setCell ⟨go19,(x12_1 : Int).toNat,none⟩ (.bool false))) ?hg ?ho ?hn ?hr ?_; (case ho => rfl); (case hg => rfl); (case hn => rfl); (case hr => first | (go_simp; done) | (go_simp; rfl)); intro w21 hw; have hg : wr.grownBy w21 (some go19):=(by rw [hw]; exact HP20.2); have hp_ : Kd.R Kd.bool 4 w21 w.heap.size (fun _ => True) (.slice (some ⟨go19,0,none⟩) x3_1.length co19) y180:=(by rw [hw,Ny180.out]; exact HP20.1); clear HP20; replace HO_10:=Aside0.mk (Kd.R_over' (v:=(.slice (some ⟨go19,0,none⟩) x3_1.length co19)) (rk HO_10) (Kd.R_typed HO_3.out) (by decide) hg); replace HO_3:=Aside0.mk (hp_); replace HB:=Aside0.mk ((by rw [hw]; exact below_set (HB.out) GB19.out : Below w.heap.size w w21)); clear hg hw hp_))
   go_roundg k1
   case measure => have:=HK1.out; omega
   case rel => exact ⟨(y180),(wrap64 (x12_1 + 1)),rf,H',⟨by have:=HK1.out; omega⟩,⟨rk HO_3⟩,⟨rk HO_10⟩,⟨bw HB⟩⟩
end Go.Proofs.Ytonoaflfobajcaa.L
end

section
namespace Go.Proofs.Ytonoaflfobajcaa.L
open Go.RowKit Go.Proofs.YtonoaflfobajcaaW.PrintWords Go.Proofs.YtonoaflfobajcaaW.PrintLast Go.Proofs.YtonoaflfobajcaaW.PrintMore
set_option linter.unusedVariables false
set_option linter.unusedSimpArgs false
abbrev RE (w : World) (base : Nat) (v : Value) (xs : List SElem) : Prop:=kElem.R 36 w base (fun _ => True) v xs
theorem RE_set {w : World} {base g n c : Nat} {xs : List SElem} (h : RE w base (.slice (some ⟨g,0,none⟩) n c) xs) (i : Nat) (hi : i < n) (x : SElem) :
  RE (((w.setCell ⟨g,i * 3,none⟩ (.int .i64 x.f0)).setCell ⟨g,i * 3 + 1,none⟩ (.int .i64 x.f1)).setCell ⟨g,i * 3 + 2,none⟩ (.int .i64 x.f2)) base (.slice (some ⟨g,0,none⟩) n c) (xs.set i x) ∧
   w.grownBy (((w.setCell ⟨g,i * 3,none⟩ (.int .i64 x.f0)).setCell ⟨g,i * 3 + 1,none⟩ (.int .i64 x.f1)).setCell ⟨g,i * 3 + 2,none⟩ (.int .i64 x.f2)) (some g):=by
 obtain ⟨cs,hl,hM,hc,hf⟩:=Kd.R_elem h zElem (i : Int) (by omega) (by omega)
 have hl3 : cs.length = 3:=hl
 have:=Kd.R_seg h (i : Int) (by omega) (by omega) (c:=cs) (seg:=[.int .i64 x.f0, .int .i64 x.f1, .int .i64 x.f2]) (j:=0) (x':=x) (okp:=fun k => True ∧ k ≠ g) hl hc (by show 0 + 3 ≤ 3; omega) (by
  have : cs.take 0 ++ [Value.int .i64 x.f0, .int .i64 x.f1, .int .i64 x.f2] ++ cs.drop (0 + [Value.int .i64 x.f0, .int .i64 x.f1, .int .i64 x.f2].length) = [.int .i64 x.f0, .int .i64 x.f1, .int .i64 x.f2]:=by
   rw [List.take_zero,List.nil_append,List.drop_eq_nil_of_le (by simp; omega),List.append_nil]
  rw [this]; exact kElem_mkM _ _ _ x) (fun k hk => hk)
 exact this
theorem grown_then {w w1 w2 : World} {row : Option Nat} (h : w.grownBy w1 row) (k : Below w1.heap.size w1 w2) : w.grownBy w2 row :=
 ⟨k.os.trans h.os,k.tape.trans h.tape,k.output.trans h.output,Nat.le_trans h.size k.size,fun i hi hne => (k.block i (Nat.lt_of_lt_of_le hi h.size)).trans (h.block i hi hne)⟩
theorem grown_grown {w w1 w2 : World} {row : Option Nat} (h : w.grownBy w1 row) (k : w1.grownBy w2 row) : w.grownBy w2 row :=
 ⟨k.os.trans h.os,k.tape.trans h.tape,k.output.trans h.output,Nat.le_trans h.size k.size,fun i hi hne => (k.block i (Nat.lt_of_lt_of_le hi h.size) hne).trans (h.block i hi hne)⟩
theorem filter_first (l : List SElem) (p : SElem → Bool) {i : Nat} (hi : i < l.length) (hpi : p (rd_Elem l (i : Int)) = true) (hlt : ∀ j,j < i → p (rd_Elem l (j : Int)) = false) : l.take i = (l.take (i + 1)).filter (fun x => !p x):=by
 rw [List.take_succ_eq_append_getElem hi,List.filter_append]
 rw [rd_Elem_nat _ _ hi] at hpi
 have h1 : (l.take i).filter (fun x => !p x) = l.take i:=by
  rw [List.filter_eq_self]
  intro x hx
  obtain ⟨j,hj,rfl⟩:=List.mem_take_iff_getElem.1 hx
  have:=hlt j (by omega)
  rw [rd_Elem_nat _ _ (by omega)] at this
  simp [this]
 rw [h1]; simp [hpi]
def zs (n : Nat) : List Value:=(Builtin.zeroCells #[.int .i64 0, .int .i64 0, .int .i64 0] n).toList
theorem zs_len (n : Nat) : (zs n).length = n * 3:=by simp [zs,Builtin.zeroCells]
theorem zs_one (n : Nat) : ∀ v ∈ zs n,v.oneCell' = true:=by
 intro v hv
 unfold zs Builtin.zeroCells at hv
 simp only [Array.toList_map,List.mem_map] at hv
 obtain ⟨i,_,rfl⟩:=hv
 have h : i % 3 = 0 ∨ i % 3 = 1 ∨ i % 3 = 2:=by omega
 show (#[Value.int .i64 0, .int .i64 0, .int .i64 0][i % 3]!).oneCell' = true
 rcases h with h | h | h <;> rw [h] <;> rfl
theorem run_clear_elem (w : World) (ty : TypeId) (b o n c : Nat) (hn : 0 < n) (hc : ∀ j,j < n * 3 → (w.cell? ⟨b,o + j,none⟩).isSome = true) (hf : ∀ j,j < n * 3 → w.frozen? ⟨b,o + j,none⟩ = false) :
  (Builtin.clear_ #[23] ty #[.slice (some ⟨b,o,none⟩) n c]).run Try.prog w = .ok (.tuple #[]) (w.setCells b o (zs n)):=by
 have hst:=run_storeCells_cells (P:=Try.prog) b o (zs n) 0 w (by rw [zs_len]; simpa using hc) (by rw [zs_len]; simpa using hf) (zs_one n)
 simp only [Nat.add_zero] at hst
 have hv:=Try.zeroValue36
 obtain ⟨m,rfl⟩ : ∃ m,n = m + 1:=⟨n - 1,by omega⟩
 simp only [Builtin.clear_]
 unfold zs at hst ⊢
 simp [run_underlying Try.underlying23,hv,Value.cells,hst]
theorem RE_clear {w : World} {base g n c : Nat} {xs : List SElem} (h : RE w base (.slice (some ⟨g,0,none⟩) n c) xs) (a : Nat) (ha : a ≤ n) (seg : List Value) (hs : a * 3 + seg.length ≤ n * 3) :
  RE (w.setCells g (a * 3) seg) base (.slice (some ⟨g,0,none⟩) a c) (xs.take a) ∧ w.grownBy (w.setCells g (a * 3) seg) (some g) ∧ (∀ j,j < n * 3 → (w.cell? ⟨g,j,none⟩).isSome = true) ∧ ∀ j,w.frozen? ⟨g,j,none⟩ = false:=by
 have hn:=(Kd.R_reads' h).1
 obtain ⟨_,inner0,own0,hr0⟩:=h
 have hT:=Kd.R_take (m:=a) (show RE w base (.slice (some ⟨g,0,none⟩) n c) xs from ⟨fun _ _ => trivial,inner0,own0,hr0⟩) (by omega)
 obtain ⟨hok,inner,ho,hr⟩:=hT
 obtain ⟨ho1,ho2⟩:=ho
 obtain ⟨_,ho02⟩:=own0
 rcases ho02 with ⟨hv,_⟩ | ⟨g0,cap0,cur0,hv0,hb0,hh0,hnc0,hcm0,hcs0,ht0⟩
 ·cases hv
 rcases ho2 with ⟨hv,_⟩ | ⟨g',cap',cur,hv,hb,hh,hnc',hcm,hcs,ht⟩
 ·cases hv
 injection hv with hA _ hc
 injection hA with hA
 injection hA with hg
 subst hg; subst hc
 injection hv0 with hA _ hc
 injection hA with hA
 injection hA with hg
 subst hg; subst hc
 have e : cur0 = cur:=by
  rw [hh] at hh0; injection hh0 with hh0; injection hh0 with hh0; exact hh0.symm
 subst e
 have hfit : a * 3 + seg.length ≤ cur0.size:=by
  have h3 : kElem.sz = 3:=rfl
  rw [hcs0,h3]; omega
 obtain ⟨cur',h3,h4,h5⟩:=setCells_row seg (a * 3) w cur0 hh hfit
 obtain ⟨s1,s2,s3,s4⟩:=setCells_same g seg (a * 3) w
 refine ⟨⟨hok,inner,⟨ho1, .inr ⟨g,c,cur',by rw [List.length_take,Nat.min_eq_left (by omega)],hb,h3,hnc',hcm,by rw [h4,hcs], ?_⟩⟩,hr⟩,⟨s1,s2,s3,by rw [s4]; exact Nat.le_refl _,fun k _ hk => setCells_far seg _ k (fun he => hk (by rw [he]))⟩,fun j hj => ?_,fun j => blk_frozen hh j⟩
 ·rw [← ht,h5]
  have hl : (cur0.toList.take (a * 3)).length = a * 3:=by rw [List.length_take,Array.length_toList]; omega
  have h33 : (xs.take a).length * 3 = a * 3:=by rw [List.length_take]; omega
  show List.take ((xs.take a).length * 3) _ = List.take ((xs.take a).length * 3) _
  rw [h33,List.append_assoc,List.take_append_of_le_length (by omega),List.take_take,Nat.min_self]
 ·rw [cell_of_row w g j cur0 _ (0,0) hh,Array.getElem?_eq_getElem (by have h3 : kElem.sz = 3:=rfl; rw [hcs0,h3]; omega)]
  rfl
set_option maxHeartbeats 4000000 in
set_option maxRecDepth 1000000 in
theorem DeleteFuncElem (gf : Nat) (lb : Array Value) (base c : Nat) (A : Option Addr) (l : List SElem) (p : SElem → Bool) (w : World) (eg : ∀ args w,(callFunc gf args).run Try.prog w = .ok (.enter gf args) w)
  (hm : l.length ≤ 1000000000) (h0 : RE w base (.slice A l.length c) l)
  (hs : ∀ W x,x ∈ l → w.grownBy W (Value.slice A l.length c).ownBlock → Calls Try.prog gf (#[elV x] ++ lb) W fun e w' => e = .returned (.bool (p x)) ∧ Below W.heap.size W w') :
  Calls Try.prog 40 #[.slice A l.length c, .func (.func gf) #[] lb] w fun e w' => ∃ v,e = .returned v ∧ RE w' base v (l.filter fun x => !p x) ∧ w.grownBy w' (Value.slice A l.length c).ownBlock:=by
 have hu1:=Try.underlying23
 have hu2:=Try.underlying36
 have cI:=IndexFuncElem gf lb A c l (fun i => p (rd_Elem l (i : Int))) (fun _ W => Below w.heap.size w W) (fun _ W => Below w.heap.size w W) w eg (by omega) (Below.refl _ _) (fun i W hb => (Kd.R_reads' (Kd.R_below h0 hb)).2.2) (fun i W hi hb => by
  refine (hs W (rd_Elem l (i : Int)) (by rw [rd_Elem_nat _ _ hi]; exact List.getElem_mem hi) (grown_of_below hb _)).mono ?_
  rintro e w' ⟨rfl,hb'⟩
  have : Below w.heap.size w w':=below_step hb hb'
  exact ⟨rfl,fun _ => this,fun _ => this⟩)
 have HI:=Aside0.mk (firstAt_cases (fun i : Nat => p (rd_Elem l (i : Int))) l.length)
 generalize firstAt (fun i : Nat => p (rd_Elem l (i : Int))) l.length l.length 0 = i0 at cI HI
 have CI:=Aside0.mk cI
 have HS:=Aside0.mk hs
 have H0:=Aside0.mk h0
 clear cI hs h0
 go_enter Try.func40,Try.ntmps40
 go_wp2_with fail
 refine CI.out.mono ?_
 rintro e w1 ⟨rfl,hpost⟩
 have HP:=Aside0.mk hpost
 clear hpost CI
 rcases HI.out with ⟨i,hi,hpi,hlt,rfl⟩ | ⟨hno,rfl⟩
 ·have hne : ((i : Int) == -1) = false:=by simp
  obtain ⟨g,cap,hv,hbg,hgl,_⟩:=Kd.R_form H0.out (by omega)
  injection hv with ha _ hcap
  subst ha; subst hcap
  have hb1 : Below w.heap.size w w1:=by rcases HP.out with ⟨_,_,_,_,h⟩ | ⟨_,h⟩ <;> exact h
  have HG1:=Aside0.mk (grown_of_below hb1 (some g))
  have HR1:=Aside0.mk (Kd.R_below H0.out hb1)
  have HFT:=Aside0.mk (filter_first l p hi hpi hlt)
  clear HP HI hb1 H0
  go_wp2
  go_loopg [5,6,7] l.length (fun gg s5 s6 _ wr => ∃ (a b : Nat) (xs : List SElem),a < b ∧ b ≤ l.length ∧ l.length - b ≤ gg ∧ s5 = .int .i64 a ∧ s6 = .int .i64 b ∧ Aside0 (xs.length = l.length) ∧ Aside0 (xs.take a = (l.take b).filter (fun x => !p x)) ∧ Aside0 (xs.drop b = l.drop b) ∧ Aside0 (RE wr base (.slice (some ⟨g,0,none⟩) l.length c) xs) ∧ Aside0 (w.grownBy wr (some g)))
  case atStart => exact ⟨i,i + 1,l,by omega,by omega,by omega,rfl,by go_num,⟨rfl⟩,HFT,⟨rfl⟩,HR1,HG1⟩
  case round =>
   clear HFT HR1 HG1
   obtain ⟨a,b,xs,hab,hbn,hgk,rfl,rfl,HL,HF,HD,HR,HG⟩:=hrel
   by_cases hlt2 : b < l.length
   ·obtain ⟨g',rfl⟩ : ∃ g',gk = g' + 1:=⟨gk - 1,by omega⟩
    have hltz : (b : Int) < (l.length : Int):=by omega
    have h0z : (0 : Int) ≤ (b : Int):=by omega
    obtain ⟨hn,_,hC⟩:=Kd.R_reads' HR.out
    obtain ⟨ad,hA,x0,x1,x2⟩:=at_Elem hC (b : Int) h0z (by omega)
    injection hA with hA
    subst hA
    clear hC hn
    simp only [Int.toNat_natCast,add_plain] at x0 x1 x2
    have hx : rd_Elem xs (b : Int) = rd_Elem l (b : Int):=by
     have hb2 : b < xs.length:=by rw [HL.out]; exact hlt2
     rw [rd_Elem_nat _ _ hb2,rd_Elem_nat _ _ hlt2]
     have:=HD.out
     rw [List.drop_eq_getElem_cons hb2,List.drop_eq_getElem_cons hlt2] at this
     injection this
    rw [hx] at x0 x1 x2
    have HM:=Aside0.mk (show rd_Elem l (b : Int) ∈ l by rw [rd_Elem_nat _ _ hlt2]; exact List.getElem_mem hlt2)
    generalize hxe : rd_Elem l (b : Int) = x at x0 x1 x2 HM
    have HXE:=Aside0.mk hxe
    clear hxe hx
    have hal : Below wr.heap.size wr (wr.alloc (.cells #[.int .i64 x.f0, .int .i64 x.f1, .int .i64 x.f2] 36)):=below_alloc (Below.refl _ _) _
    have HC:=Aside0.mk (HS.out _ x HM.out (grown_then HG.out hal))
    have HG2:=Aside0.mk (grown_then HG.out hal)
    have HR2:=Aside0.mk (Kd.R_below HR.out hal)
    have HLT : xs.length = l.length:=HL.out
    have ha1 : a < xs.length:=by omega
    clear hal HG HR
    go_wp2_with fail
    refine HC.out.mono ?_
    rintro e w2 ⟨rfl,hb2⟩
    have d0:=pw_cell_below hb2 (show (wr.alloc (.cells #[.int .i64 x.f0, .int .i64 x.f1, .int .i64 x.f2] 36)).cell? ⟨wr.heap.size,0,none⟩ = some (.int .i64 x.f0) by simp)
    have d1:=pw_cell_below hb2 (show (wr.alloc (.cells #[.int .i64 x.f0, .int .i64 x.f1, .int .i64 x.f2] 36)).cell? ⟨wr.heap.size,1,none⟩ = some (.int .i64 x.f1) by simp)
    have d2:=pw_cell_below hb2 (show (wr.alloc (.cells #[.int .i64 x.f0, .int .i64 x.f1, .int .i64 x.f2] 36)).cell? ⟨wr.heap.size,2,none⟩ = some (.int .i64 x.f2) by simp)
    have HG3:=Aside0.mk (grown_then HG2.out hb2)
    have HR3:=Aside0.mk (Kd.R_below HR2.out hb2)
    clear hb2 HG2 HR2 x0 x1 x2 HC
    have hxl : l[b] = x:=by rw [← rd_Elem_nat _ _ hlt2]; exact HXE.out
    have hD2 : xs.drop (b + 1) = l.drop (b + 1):=by
     have:=HD.out
     rw [List.drop_eq_getElem_cons (show b < xs.length by omega),List.drop_eq_getElem_cons hlt2] at this
     injection this
    have HD2:=Aside0.mk hD2
    have hF2:=HF.out
    cases hp : p x with
    | true =>
     have hF3 : xs.take a = (l.take (b + 1)).filter (fun x => !p x):=by
      rw [List.take_succ_eq_append_getElem hlt2,List.filter_append,hxl,← hF2]; simp [hp]
     have HF3:=Aside0.mk hF3
     clear hF3 hF2 hD2 hp HF HD hxl
     go_wp2
     go_roundg g'
     case measure => omega
     case rel => exact ⟨a,b + 1,xs,by omega,by omega,by omega,rfl,by go_num,HL,HF3,HD2,HR3,HG3⟩
    | false =>
     have hF3 : (xs.set a x).take (a + 1) = (l.take (b + 1)).filter (fun x => !p x):=by
      rw [List.take_succ_eq_append_getElem hlt2,List.filter_append,hxl,← hF2,List.take_succ_eq_append_getElem (by simp; omega),List.take_set_of_le (Nat.le_refl a)]; simp [hp]
     have HF3:=Aside0.mk hF3
     have HL3:=Aside0.mk (show (xs.set a x).length = l.length by rw [List.length_set]; exact HLT)
     have HD3:=Aside0.mk (show (xs.set a x).drop (b + 1) = l.drop (b + 1) by rw [List.drop_set_of_lt (by omega)]; exact hD2)
     obtain ⟨cs,hcl,_,hcc,hff⟩:=Kd.R_elem HR3.out zElem (a : Int) (by omega) (by omega)
     have hcl3 : cs.length = 3:=hcl
     have hR4:=RE_set HR3.out a (by omega) x
     have HR4:=Aside0.mk hR4.1
     have HG4:=Aside0.mk (grown_grown HG3.out hR4.2)
     obtain ⟨q0,q1,q2,rfl⟩ : ∃ q0 q1 q2,cs = [q0,q1,q2]:=by
      match cs,hcl3 with
      | [q0,q1,q2],_ => exact ⟨q0,q1,q2,rfl⟩
     have e0 : w2.cell? ⟨g,a * 3,none⟩ = some q0:=hcc 0 _ rfl
     have e1 : w2.cell? ⟨g,a * 3 + 1,none⟩ = some q1:=hcc 1 _ rfl
     have e2 : w2.cell? ⟨g,a * 3 + 2,none⟩ = some q2:=hcc 2 _ rfl
     have f0 : w2.frozen? ⟨g,a * 3,none⟩ = false:=hff 0
     have f1 : w2.frozen? ⟨g,a * 3 + 1,none⟩ = false:=hff 1
     have f2 : w2.frozen? ⟨g,a * 3 + 2,none⟩ = false:=hff 2
     clear hF3 hF2 hD2 hp HF HD hxl hR4 hcc hff hcl hcl3 HG3 HR3
     go_wp2
     go_roundg g'
     case measure => omega
     case rel => exact ⟨a + 1,b + 1,xs.set a x,by omega,by omega,by omega,by go_num,by go_num,HL3,HF3,HD3,HR4,HG4⟩
   ·obtain rfl : b = l.length:=by omega
    have hltz : ¬ (l.length : Int) < (l.length : Int):=by omega
    obtain ⟨r1,r2,r3,r4⟩:=RE_clear HR.out a (by omega) (zs (l.length - a)) (by rw [zs_len]; omega)
    have HR5:=Aside0.mk r1
    have HG5:=Aside0.mk (grown_grown HG.out r2)
    have hcl : ∀ ty,(Builtin.clear_ #[23] ty #[.slice (some ⟨g,a * 3,none⟩) (l.length - a) (c - a)]).run Try.prog wr = .ok (.tuple #[]) (wr.setCells g (a * 3) (zs (l.length - a))) :=
     fun ty => run_clear_elem wr ty g (a * 3) _ _ (by omega) (fun j hj => r3 _ (by omega)) (fun j hj => r4 _)
    have hF5:=HF.out
    rw [List.take_length] at hF5
    have HF5:=Aside0.mk hF5
    have hnc:=(Kd.R_reads' HR.out).2.1
    have hac : c ≠ a:=by omega
    have hac1 : (a : Int) ≤ (c : Int):=by omega
    have hac2 : ¬ (c : Int) < (a : Int):=by omega
    clear r1 r2 r3 r4 HR HG HD HF hF5
    go_wp2
    go_ret
    exact ⟨_,rfl,by rw [← HF5.out]; exact HR5.out,HG5.out⟩
 ·go_wp2
  go_ret
  have hb1 : Below w.heap.size w w1:=by rcases HP.out with ⟨_,_,_,_,h⟩ | ⟨_,h⟩ <;> exact h
  refine ⟨_,rfl, ?_,grown_of_below hb1 _⟩
  have : l.filter (fun x => !p x) = l:=by
   rw [List.filter_eq_self]
   intro x hx
   obtain ⟨j,hj,rfl⟩:=List.getElem_of_mem hx
   have:=hno j hj
   rw [rd_Elem_nat _ _ hj] at this
   simp [this]
  rw [this]
  exact Kd.R_below H0.out hb1
end Go.Proofs.Ytonoaflfobajcaa.L
end

section
namespace Go.Proofs.Ytonoaflfobajcaa.L
open Go.RowKit Go.Proofs.YtonoaflfobajcaaW.PrintWords Go.Proofs.YtonoaflfobajcaaW.PrintLast Go.Proofs.YtonoaflfobajcaaW.PrintMore
set_option linter.unusedVariables false
set_option linter.unusedSimpArgs false
abbrev MapE (w : World) (b n : Nat) (S : Int × Int × Int → Bool) : Prop:=MapB encE 36 4 w b n S
set_option maxHeartbeats 4000000 in
set_option maxRecDepth 1000000 in
theorem seen1_calls (c1 c2 b1 b2 n1 n2 : Nat) (x : SElem) (G T : Int × Int × Int → Bool) (W : World) (h1 : W.cell? ⟨c1,0,none⟩ = some (.map (some b1))) (h2 : W.cell? ⟨c2,0,none⟩ = some (.map (some b2)))
  (hG : MapE W b1 n1 G) (hT : MapE W b2 n2 T) (hx : inI x.f0 ∧ inI x.f1 ∧ inI x.f2) :
  Calls Try.prog 57 #[elV x, .pointer (some ⟨c1,0,none⟩), .pointer (some ⟨c2,0,none⟩)] W fun e w' => e = .returned (.bool (G (x.f0,x.f1,x.f2) || !T (x.f0,x.f1,x.f2))) ∧ Below W.heap.size W w':=by
 have l1:=World.block_lt_of_cell? W _ h1
 have l2:=World.block_lt_of_cell? W _ h2
 simp only at l1 l2
 obtain ⟨kl,hkl⟩:=keyE (x:=(x.f0,x.f1,x.f2)) hx.1 hx.2.1 hx.2.2
 have hal : Below W.heap.size W (W.alloc (.cells #[.int .i64 x.f0, .int .i64 x.f1, .int .i64 x.f2] 36)):=below_alloc (Below.refl _ _) _
 have k1:=(hG.below hal hG.lt).look lawE Try.underlying85 Try.underlying4 zeroB (x.f0,x.f1,x.f2) hkl
 have k2:=(hT.below hal hT.lt).look lawE Try.underlying85 Try.underlying4 zeroB (x.f0,x.f1,x.f2) hkl
 have d1:=pw_cell_below hal h1
 have d2:=pw_cell_below hal h2
 simp only [encE] at k1 k2
 have HAL:=Aside0.mk hal
 unfold elV
 generalize hg : G (x.f0,x.f1,x.f2) = gq at k1 ⊢
 generalize ht : T (x.f0,x.f1,x.f2) = tq at k2 ⊢
 clear hG hT hx hkl hal h1 h2 hg ht
 cases gq
 ·go_enter Try.func57,Try.ntmps57
  go_wp2
  go_ret
  exact ⟨rfl,HAL.out⟩
 ·go_enter Try.func57,Try.ntmps57
  go_wp2
  go_ret
  exact ⟨rfl,HAL.out⟩
end Go.Proofs.Ytonoaflfobajcaa.L
end

section
namespace Go.Proofs.Ytonoaflfobajcaa.L
open Go.RowKit Go.Proofs.YtonoaflfobajcaaW.PrintWords Go.Proofs.YtonoaflfobajcaaW.PrintLast Go.Proofs.YtonoaflfobajcaaW.PrintMore
attribute [local go_sem] max2_int min2_int max_two min_two max_three min_three max_four min_four
set_option linter.unusedVariables false
set_option linter.unusedSimpArgs false
def op_All.l0 : Nat → List (SElem) → Int → Int → Int → Int → Int → Int → Int → Int → ByteArray → List (SElem) → Int → Int → Int → Option ((List (SElem)))
 | 0,_,_,_,_,_,_,_,_,_,_,_,_,_,_ => none
 | k + 1,x2,x5,x6,x155000,x155001,x155002,x155003,x155004,x155005,x155006,x155007,x155008,x155009,x155010 => if x6 < x5 then ((op_At.f x155000 x155001 x155002 x155003 x155004 x155005 x155006 x155007 x155008 x155009 x155010 x6).bind fun bt156 => (if x2.length < 5864062014805 then (op_All.l0 k (x2 ++ [(⟨bt156.1,bt156.2.1,bt156.2.2⟩ : SElem)]) x5 (wrap64 (x6 + 1)) x155000 x155001 x155002 x155003 x155004 x155005 x155006 x155007 x155008 x155009 x155010) else (none))) else (some x2)
def op_All.f (k : Nat) (a0_0 : Int) (a0_1 : Int) (a0_2 : Int) (a0_3 : Int) (a0_4 : Int) (a0_5 : Int) (a0_6 : ByteArray) (l0_7 : List (SElem)) (a0_8 : Int) (a0_9 : Int) (a0_10 : Int) : Option ((List (SElem))):=(op_Size.f a0_0 a0_1 a0_2 a0_3 a0_4 a0_5 a0_6 l0_7 a0_8 a0_9 a0_10).bind fun t155 => (op_All.l0 k ([] : List (SElem)) t155 0 a0_0 a0_1 a0_2 a0_3 a0_4 a0_5 a0_6 l0_7 a0_8 a0_9 a0_10)
set_option maxHeartbeats 8000000 in
set_option maxRecDepth 100000 in
theorem op_All.calls (k : Nat) (a0_0 : Int) (a0_1 : Int) (a0_2 : Int) (a0_3 : Int) (a0_4 : Int) (a0_5 : Int) (a0_6 : ByteArray) (A0_7 : Option Addr) (c0_7 : Nat) (l0_7 : List (SElem)) (a0_8 : Int) (a0_9 : Int) (a0_10 : Int) (r : List (SElem)) (w : World) (hr0_7 : Kd.C kElem w A0_7 l0_7.length l0_7) (hc0_7 : l0_7.length ≤ c0_7) (h : op_All.f k a0_0 a0_1 a0_2 a0_3 a0_4 a0_5 a0_6 l0_7 a0_8 a0_9 a0_10 = some r) :
  Calls Try.prog 38 #[.agg #[.int .i64 a0_0, .int .i64 a0_1, .int .i64 a0_2, .int .i64 a0_3, .int .i64 a0_4, .int .i64 a0_5, .string a0_6, .slice A0_7 l0_7.length c0_7, .int .i64 a0_8, .int .i64 a0_9, .int .i64 a0_10]] w fun e w' => ∃ v0_ : Value,e = .returned (v0_) ∧ Kd.R kElem 36 w' w.heap.size (fun _ => True) v0_ r ∧ Below w.heap.size w w':=by
 have hu38:=Try.underlying38
 have HR0_7:=Aside0.mk hr0_7
 have HC0_7:=Aside0.mk hc0_7
 clear hr0_7 hc0_7
 have HB:=Aside0.mk (Below.refl w.heap.size w)
 unfold op_All.f at h; have H:=h
 clear h
 obtain ⟨t155,A2,H⟩:=bE H
 have H':=Aside0.mk H
 clear H
 go_enter Try.func38,Try.ntmps38
 go_wp2_with (first | ((with_reducible refine gate_dst (N:=1) rfl ?_); refine bx 1 #[.int .i64 a0_0, .int .i64 a0_1, .int .i64 a0_2, .int .i64 a0_3, .int .i64 a0_4, .int .i64 a0_5, .string a0_6, .slice A0_7 l0_7.length c0_7, .int .i64 a0_8, .int .i64 a0_9, .int .i64 a0_10] 38 (h := ?_); intro gb154 hg w3 hbox hb; have BK154:=Aside0.mk (hbox); have GW154:=bz HB hg; have GE154:=bz HB hg; replace HB:=bs HB hb; clear hb hbox hg; obtain ⟨_,_,_,_,_,_,_,_,_,_,_,_,_,_,_,_,_,_,_,_,_,_⟩:=kc11 BK154) | ((with_reducible refine gate_callee (f:=45) rfl ?_); refine gl (some 5) Try.func45 #[.agg #[.int .i64 a0_0, .int .i64 a0_1, .int .i64 a0_2, .int .i64 a0_3, .int .i64 a0_4, .int .i64 a0_5, .string a0_6, .slice A0_7 l0_7.length c0_7, .int .i64 a0_8, .int .i64 a0_9, .int .i64 a0_10]] (h := ?_); (with_reducible refine (op_Size.calls a0_0 a0_1 a0_2 a0_3 a0_4 a0_5 a0_6 _ _ l0_7 a0_8 a0_9 a0_10 t155 _ ?side1 ?side2 A2.out).mono ?_); (case side1 => exact cb HR0_7 HB); (case side2 => exact HC0_7.out); rintro e w5 ⟨rfl,hb⟩; refine ⟨_,rfl, ?_⟩; replace BK154:=bl BK154 hb; replace HB:=bs HB hb; clear hb))
 go_loopg [2,6] k (fun kq v2 v6 w' => ∃ (x2_1 : List (SElem)) (x6_1 : Int),v6 = .int .i64 x6_1 ∧ Aside0 (op_All.l0 kq x2_1 t155 x6_1 a0_0 a0_1 a0_2 a0_3 a0_4 a0_5 a0_6 l0_7 a0_8 a0_9 a0_10 = some r) ∧ Aside0 (kq ≤ k) ∧ Aside0 (Kd.R kElem 36 w' w.heap.size (fun _ => True) v2 x2_1) ∧ Aside0 (w'.heap[gb154]? = some (.cells #[.int .i64 a0_0, .int .i64 a0_1, .int .i64 a0_2, .int .i64 a0_3, .int .i64 a0_4, .int .i64 a0_5, .string a0_6,(.slice A0_7 l0_7.length c0_7), .int .i64 a0_8, .int .i64 a0_9, .int .i64 a0_10] 38 (0,0))) ∧ Aside0 (Below w.heap.size w w'))
 case atStart => exact ⟨(([] : List (SElem))),(0),rf,H',⟨Nat.le_refl _⟩,⟨by first | exact Kd.R_nil _ _ _ _ _ | exact Kd.N_nil _ _ _ _ _ | exact Kd.V_nil _ _ _ _ _ | exact Kd.Q_nil _ _ _ _ _ | exact Kd.S_nil _ _ _ _ _⟩,⟨kk BK154⟩,⟨bw HB⟩⟩
 case round =>
  clear H'
  obtain ⟨x2_1,x6_1,rfl,HA,HK1,HO_2,BK154,HB⟩:=hrel
  cases gk with
  | zero => exact absurd HA.out (by simp [op_All.l0])
  | succ k1 =>
   have H:=HA.out
   clear HA
   simp only [op_All.l0] at H
   by_cases c6 : x6_1 < t155; rotate_left
   ·rw [if_neg c6] at H
    have c6b0:=decide_eq_false c6
    clear c6
    obtain rfl:=Option.some.inj H
    go_wp2
    go_ret
    exact ⟨_,re,by (with_reducible repeat (first | apply Kd.R_alloc | apply Kd.R_drewN | apply Kd.R_drew)); exact HO_2.out,bw HB⟩
   rw [if_pos c6] at H
   have c6b0:=decide_eq_true c6
   clear c6
   obtain ⟨⟨t156,t157,t158⟩,A7,H⟩:=bE H
   try dsimp only at H
   by_cases c8 : x2_1.length < 5864062014805; rotate_left
   ·rw [if_neg c8] at H
    exact absurd H (by simp)
   rw [if_pos c8] at H
   have LMc8:=Aside0.mk c8
   clear c8
   obtain ⟨y159,hy159⟩ : ∃ y_ : List (SElem),y_ = (x2_1 ++ [(⟨t156,t157,t158⟩ : SElem)]):=⟨_,rfl⟩
   first | rw [Option.bind_some,← hy159] at H | rw [← hy159] at H
   have Ny159:=Aside0.mk hy159
   clear hy159
   have H':=Aside0.mk H
   clear H
   obtain ⟨_,_,_,_,_,_,_,_,_,_,_,_,_,_,_,_,_,_,_,_,_,_⟩:=kc11 BK154
   go_wp2_with (first | ((with_reducible refine gate_callee (f:=46) rfl ?_); refine gl (some 12) Try.func46 #[.agg #[.int .i64 a0_0, .int .i64 a0_1, .int .i64 a0_2, .int .i64 a0_3, .int .i64 a0_4, .int .i64 a0_5, .string a0_6, .slice A0_7 l0_7.length c0_7, .int .i64 a0_8, .int .i64 a0_9, .int .i64 a0_10], .int .i64 x6_1] (h := ?_); (with_reducible refine (op_At.calls a0_0 a0_1 a0_2 a0_3 a0_4 a0_5 a0_6 _ _ l0_7 a0_8 a0_9 a0_10 x6_1 t156 t157 t158 _ ?side1 ?side2 A7.out).mono ?_); (case side1 => exact cb HR0_7 HB); (case side2 => exact HC0_7.out); rintro e w10 ⟨rfl,hb⟩; refine ⟨_,rfl, ?_⟩; replace HO_2:=rb HO_2 hb; replace BK154:=bl BK154 hb; replace HB:=bs HB hb; clear hb) | ((with_reducible refine gate_builtin (b:=.append) (xs:=#[.tmp 9, .tmp 13]) rfl ?_); at_builtin; refine Kd.R_append kElem (w0:=w) w.heap.size rfl (.tmp 9) (.tmp 13) 23 36 (.agg #[(.int .i64 0),(.int .i64 0),(.int .i64 0)]) 24 rfl Try.underlying23 info36 rfl (by decide) (by omega) u2 x2_1 (⟨t156,t157,t158⟩ : SElem) [.int .i64 t156, .int .i64 t157, .int .i64 t158] (fun _ => True) (fun _ => False) rfl rfl ?aP (fun _ hk => hk.elim) ?aF ?aO ?aB ?aS ?aL ?_; (case aP => exact kElem_mkM _ _ _ (⟨t156,t157,t158⟩ : SElem)); (case aB => exact (bw HB)); (case aF => exact (fun _ _ => trivial)); (case aO => exact (rk HO_2)); (case aS => exact (below_size (bw HB))); (case aL => have:=LMc8.out; omega); intro v160 w11 ho hb hg hat; rw [← Ny159.out] at ho; have n0_:=Aside0.mk (blk_grown (kk BK154) hg (Kd.R_ne HO_2.out BK154.out (by decide))); have n1_:=Aside0.mk (hb); have n2_:=Aside0.mk (ho); clear BK154; clear HB; clear HO_2; have BK154:=n0_; have HB:=n1_; have HO161:=n2_; clear n0_ n1_ n2_; clear ho hb hg hat))
   go_roundg k1
   case measure => have:=HK1.out; omega
   case rel => exact ⟨(y159),(wrap64 (x6_1 + 1)),rf,H',⟨by have:=HK1.out; omega⟩,⟨rk HO161⟩,⟨kk BK154⟩,⟨bw HB⟩⟩
end Go.Proofs.Ytonoaflfobajcaa.L
end

section
namespace Go.Proofs.Ytonoaflfobajcaa.L
open Go.RowKit Go.Proofs.YtonoaflfobajcaaW.PrintWords Go.Proofs.YtonoaflfobajcaaW.PrintLast Go.Proofs.YtonoaflfobajcaaW.PrintMore
set_option linter.unusedVariables false
set_option linter.unusedSimpArgs false
def InB (n : List Int) (b : Int) : Prop:=∀ x ∈ n,0 ≤ x ∧ x ≤ b
theorem cstep_bound (l : List SOp) {n : List Int} {b : Int} (h : InB n b) (hb : 0 ≤ b) (o : SOp) : InB (cstep l n o) (b + 1):=by
 have hd : 0 ≤ n.getD (findOp l o.f6 o.f7).toNat 0 ∧ n.getD (findOp l o.f6 o.f7).toNat 0 ≤ b:=by
  rw [List.getD_eq_getElem?_getD]
  cases hq : n[(findOp l o.f6 o.f7).toNat]? with
  | none => exact ⟨Int.le_refl _,hb⟩
  | some y => exact h y (List.mem_of_getElem? hq)
 unfold cstep
 split
 ·split
  ·intro x hx
   rcases List.mem_or_eq_of_mem_set hx with hx | rfl
   ·have:=h x hx; omega
   ·omega
  ·intro x hx; have:=h x hx; omega
 ·intro x hx; have:=h x hx; omega
theorem tree_Find_f {l : List SOp} (hl : l.length ≤ 1000000) (a b : Int) : tree_Find.f l a b = some (findOp l a b):=by unfold tree_Find.f; rw [if_pos (by omega)]
theorem Counts_loop {l : List SOp} (h : RowOk l) : ∀ d i,i + d = l.length → ∀ n : List Int,n.length = l.length → InB n (i : Int) → (l.take i).foldl (cstep l) (List.replicate l.length 0) = n → Ev (fun k => doc_Counts.l0 k l n l (l.length : Int) (i : Int)) (countsL l)
 | 0,i,hi,n,hn,hb,hf => by
  rw [List.take_of_length_le (by omega)] at hf
  have : countsL l = n:=hf
  rw [this]
  refine Ev.step (f:=fun _ => some n) (fun k => ?_) (Ev.now _)
  simp only [doc_Counts.l0]
  rw [if_neg (by omega)]
 | d + 1,i,hi,n,hn,hb,hf => by
  have hlt : i < l.length:=by omega
  have h40:=h.sums.1
  have ih:=Counts_loop h d (i + 1) (by omega) (cstep l n l[i]) (by rw [cstep_length]; exact hn) (by have:=cstep_bound l hb (by omega) l[i]; simpa using this) (by
   rw [List.take_succ_eq_append_getElem hlt,List.foldl_append,hf]; rfl)
  refine Ev.step (fun k => ?_) ih
  simp only [doc_Counts.l0]
  rw [if_pos (by omega),if_pos (by omega),if_pos (by omega),rd_Op_nat _ _ hlt,wrapS hlt (by omega)]
  by_cases h2 : l[i].f2 = 2
  ·obtain ⟨j,hj,_,_,_,e⟩:=tog_found h (List.getElem_mem hlt) h2
   have hd : 0 ≤ n.getD j 0 ∧ n.getD j 0 ≤ (i : Int):=by
    rw [List.getD_eq_getElem?_getD]
    cases hq : n[j]? with
    | none => exact ⟨Int.le_refl _,by simp⟩
    | some y => exact hb y (List.mem_of_getElem? hq)
   rw [if_pos h2,tree_Find_f (by omega),Option.bind_some]
   unfold cstep
   rw [if_pos h2,e]
   rw [if_pos (by omega),if_pos (by omega)]
   have hrd : rd n (j : Int) = n.getD j 0:=by unfold rd; rw [Int.toNat_natCast]
   rw [hrd,Int.toNat_natCast,wrap64_small (by omega) (by omega)]
   by_cases h8 : l[i].f8 = n.getD j 0
   ·rw [if_pos h8,if_pos h8]
   ·rw [if_neg h8,if_neg h8]
  ·rw [if_neg h2]
   unfold cstep
   rw [if_neg h2]
theorem Counts_ev {l : List SOp} (h : RowOk l) : Ev (fun k => doc_Counts.f k l) (countsL l):=by
 have h40:=h.sums.1
 refine Ev.congr (fun k => ?_) (Counts_loop h l.length 0 (Nat.zero_add _) (List.replicate l.length 0) (by simp) (fun x hx => by rw [List.eq_of_mem_replicate hx]; exact ⟨Int.le_refl _,Int.le_refl _⟩) rfl)
 unfold doc_Counts.f
 rw [if_pos (by omega),if_pos (by omega),Int.toNat_natCast]
 rfl
theorem counts_bound {l : List SOp} : InB (countsL l) (l.length : Int):=by
 have : ∀ i,i ≤ l.length → InB ((l.take i).foldl (cstep l) (List.replicate l.length 0)) (i : Int):=by
  intro i
  induction i with
  | zero => intro _ x hx; rw [List.eq_of_mem_replicate hx]; exact ⟨Int.le_refl _,Int.le_refl _⟩
  | succ i ih =>
   intro hi
   rw [List.take_succ_eq_append_getElem (by omega),List.foldl_append]
   have:=cstep_bound l (ih (by omega)) (by omega) (l[i]'(by omega))
   simpa using this
 have:=this l.length (Nat.le_refl _)
 rwa [List.take_length] at this
def worksL (l : List SOp) : List Bool:=l.map (workE l)
theorem Works_loop {l : List SOp} (h : RowOk l) : ∀ d i,i + d = l.length → Ev (fun k => doc_Works.l0 k l ((l.take i).map (workE l) ++ List.replicate (l.length - i) false) (countsL l) (l.length : Int) (i : Int)) (worksL l)
 | 0,i,hi => by
  rw [List.take_of_length_le (by omega),show l.length - i = 0 by omega]
  simp only [List.replicate_zero,List.append_nil]
  refine Ev.step (f:=fun _ => some (worksL l)) (fun k => ?_) (Ev.now _)
  simp only [doc_Works.l0]
  rw [if_neg (by omega)]
  rfl
 | d + 1,i,hi => by
  have hlt : i < l.length:=by omega
  have h40:=h.sums.1
  have ih:=Works_loop h d (i + 1) (by omega)
  have hc:=counts_at h hlt
  have hcb : 0 ≤ (countsL l).getD i 0:=by
   rw [List.getD_eq_getElem?_getD]
   cases hq : (countsL l)[i]? with
   | none => exact Int.le_refl _
   | some y => exact (counts_bound y (List.mem_of_getElem? hq)).1
  have hset : ∀ b,b = workE l l[i] → ((l.take i).map (workE l) ++ List.replicate (l.length - i) false).set i b = (l.take (i + 1)).map (workE l) ++ List.replicate (l.length - (i + 1)) false:=by
   intro b hb
   have hl : ((l.take i).map (workE l)).length = i:=by rw [List.length_map,List.length_take]; omega
   rw [List.set_append,if_neg (by omega),hl,Nat.sub_self,show l.length - i = (l.length - (i + 1)) + 1 by omega,List.replicate_succ,List.set_cons_zero,List.take_succ_eq_append_getElem hlt,List.map_append,hb]
   simp
  have hlen : (((l.take i).map (workE l) ++ List.replicate (l.length - i) false).length : Int) = l.length:=by
   rw [List.length_append,List.length_map,List.length_take,List.length_replicate]; omega
  refine Ev.step (fun k => ?_) ih
  simp only [doc_Works.l0]
  rw [hlen,if_pos (by omega),if_pos (by omega),if_pos (by rw [counts_length]; omega),if_pos (by omega),rd_Op_nat _ _ hlt,wrapS hlt (by omega),Int.toNat_natCast]
  have hrd : rd (countsL l) (i : Int) = cntR l l[i].f0 l[i].f1:=by unfold rd; rw [Int.toNat_natCast,hc]
  by_cases h1 : l[i].f2 = 1
  ·rw [if_pos h1,if_pos (by omega),hset _ ?_]
   rw [hrd]
   unfold workE
   rw [← hc,Int.tmod_eq_emod_of_nonneg hcb,h1]
   simp
  ·rw [if_neg h1,if_pos (by omega),hset _ ?_]
   unfold workE
   simp [h1]
theorem Works_ev {l : List SOp} (h : RowOk l) : Ev (fun k => doc_Works.f k l) (worksL l):=by
 have h40:=h.sums.1
 refine Ev.congr (f:=fun k => (doc_Counts.f k l).bind fun t314 => doc_Works.l0 k l (List.replicate l.length false) t314 (t314.length : Int) 0) (fun k => ?_) (Ev.bind (f:=fun k t314 => doc_Works.l0 k l (List.replicate l.length false) t314 (t314.length : Int) 0) (Counts_ev h) ?_)
 ·unfold doc_Works.f
  rw [if_pos (by omega),if_pos (by omega),Int.toNat_natCast]
 ·rw [counts_length]
  have:=Works_loop h l.length 0 (Nat.zero_add _)
  simpa using this
theorem All_loop (o : SOp) (hs : sizeOf' o ≤ 1000000) : ∀ d i,i + d = sizeOf' o → Ev (fun k => op_All.l0 k ((List.range i).map fun j : Nat => (⟨o.f0,o.f1,(j : Int)⟩ : SElem)) (sizeOf' o : Int) (i : Int) o.f0 o.f1 o.f2 o.f3.f0 o.f3.f1 o.f3.f2 o.f4 o.f5 o.f6 o.f7 o.f8) (chainE o)
 | 0,i,hi => by
  obtain rfl : i = sizeOf' o:=by omega
  refine Ev.step (f:=fun _ => some (chainE o)) (fun k => ?_) (Ev.now _)
  simp only [op_All.l0]
  rw [if_neg (by omega)]
  rfl
 | d + 1,i,hi => by
  have ih:=All_loop o hs d (i + 1) (by omega)
  rw [List.range_succ,List.map_append] at ih
  refine Ev.step (fun k => ?_) ih
  simp only [op_All.l0]
  unfold op_At.f
  rw [if_pos (by omega),Option.bind_some,if_pos (by simp; omega),wrapS (show i < sizeOf' o by omega) (by omega)]
  rfl
theorem All_ev (o : SOp) (hs : Sm o) (h12 : sizeOf' o ≤ 1000000) : Ev (fun k => op_All.f k o.f0 o.f1 o.f2 o.f3.f0 o.f3.f1 o.f3.f2 o.f4 o.f5 o.f6 o.f7 o.f8) (chainE o):=by
 refine Ev.congr (fun k => ?_) (All_loop o h12 (sizeOf' o) 0 (Nat.zero_add _))
 unfold op_All.f
 rw [op_Size_f o hs,Option.bind_some]
 rfl
end Go.Proofs.Ytonoaflfobajcaa.L
end

section
namespace Go.Proofs.Ytonoaflfobajcaa.L
open Go.RowKit Go.Proofs.YtonoaflfobajcaaW.PrintWords Go.Proofs.YtonoaflfobajcaaW.PrintLast Go.Proofs.YtonoaflfobajcaaW.PrintMore
set_option linter.unusedVariables false
set_option linter.unusedSimpArgs false
def mkE (k : Int × Int × Int) : SElem:=⟨k.1,k.2.1,k.2.2⟩
def goneS (l ms : List SOp) : Int × Int × Int → Bool:=fun k => ms.any fun o => workE l o && decide (mkE k ∈ o.f5)
def theS (l ms : List SOp) : Int × Int × Int → Bool:=fun k => ms.any fun o => workE l o && decide (mkE k ∈ chainE o)
def addS (S : Int × Int × Int → Bool) (es : List SElem) : Int × Int × Int → Bool:=fun k => S k || decide (mkE k ∈ es)
theorem addS_nil (S : Int × Int × Int → Bool) : addS S [] = S:=by funext k; simp [addS]
theorem addS_snoc (S : Int × Int × Int → Bool) (es : List SElem) (x : SElem) : updB (addS S es) (x.f0,x.f1,x.f2) = addS S (es ++ [x]):=by
 funext k
 unfold updB addS
 by_cases h : k = (x.f0,x.f1,x.f2)
 ·rw [if_pos h]
  have : mkE k = x:=by rw [h]; rfl
  simp [this]
 ·rw [if_neg h]
  have : mkE k ≠ x:=fun e => h (by rw [← e]; rfl)
  simp [this]
theorem goneS_snoc (l ms : List SOp) (o : SOp) : goneS l (ms ++ [o]) = if workE l o = true then addS (goneS l ms) o.f5 else goneS l ms:=by
 funext k
 have h1 : ∀ b : Bool,(if b = true then (fun k => goneS l ms k || decide (mkE k ∈ o.f5)) else goneS l ms) k = (goneS l ms k || (b && decide (mkE k ∈ o.f5))):=by intro b; cases b <;> simp
 refine Eq.trans ?_ (h1 (workE l o)).symm
 unfold goneS
 rw [List.any_append]; simp
theorem theS_snoc (l ms : List SOp) (o : SOp) : theS l (ms ++ [o]) = if workE l o = true then addS (theS l ms) (chainE o) else theS l ms:=by
 funext k
 have h1 : ∀ b : Bool,(if b = true then (fun k => theS l ms k || decide (mkE k ∈ chainE o)) else theS l ms) k = (theS l ms k || (b && decide (mkE k ∈ chainE o))):=by intro b; cases b <;> simp
 refine Eq.trans ?_ (h1 (workE l o)).symm
 unfold theS
 rw [List.any_append]; simp
structure K2 (b1 b2 : Nat) (w w' : World) : Prop where
 os : w'.os = w.os
 tape : w'.tape = w.tape
 output : w'.output = w.output
 size : w.heap.size ≤ w'.heap.size
 block : ∀ k,k < w.heap.size → k ≠ b1 → k ≠ b2 → w'.heap[k]? = w.heap[k]?
theorem K2.refl (b1 b2 : Nat) (w : World) : K2 b1 b2 w w:=⟨rfl,rfl,rfl,Nat.le_refl _,fun _ _ _ _ => rfl⟩
theorem K2.below {b1 b2 : Nat} {w w1 w2 : World} (h : K2 b1 b2 w w1) (k : Below w1.heap.size w1 w2) : K2 b1 b2 w w2 :=
 ⟨k.os.trans h.os,k.tape.trans h.tape,k.output.trans h.output,Nat.le_trans h.size k.size,fun i hi h1 h2 => (k.block i (Nat.lt_of_lt_of_le hi h.size)).trans (h.block i hi h1 h2)⟩
theorem K2.grown {b1 b2 b : Nat} {w w1 w2 : World} (h : K2 b1 b2 w w1) (k : w1.grownBy w2 (some b)) (hb : b = b1 ∨ b = b2) : K2 b1 b2 w w2 :=
 ⟨k.os.trans h.os,k.tape.trans h.tape,k.output.trans h.output,Nat.le_trans h.size k.size,fun i hi h1 h2 => (k.block i (Nat.lt_of_lt_of_le hi h.size) (fun e => by injection e with e; rcases hb with rfl | rfl; exact h1 e; exact h2 e)).trans (h.block i hi h1 h2)⟩
theorem K2.cell {b1 b2 : Nat} {w w' : World} (h : K2 b1 b2 w w') {a : Addr} {v : Value} (hc : w.cell? a = some v) (h1 : a.block ≠ b1) (h2 : a.block ≠ b2) : w'.cell? a = some v:=by
 have:=h.block a.block (World.block_lt_of_cell? w a hc) h1 h2
 simpa [World.cell?,this] using hc
theorem K2.toBelow {b1 b2 B : Nat} {w0 w w' : World} (hb : Below B w0 w) (h : K2 b1 b2 w w') (hB : B ≤ w.heap.size) (h1 : B ≤ b1) (h2 : B ≤ b2) : Below B w0 w' :=
 hb.trans ⟨h.os,h.tape,h.output,h.size,fun i hi => h.block i (Nat.lt_of_lt_of_le hi hB) (by omega) (by omega)⟩
theorem smalls_Sm {l : List SOp} (h : smalls l = true) : ∀ o ∈ l,Sm o:=by
 unfold smalls SmB at h
 simp only [Bool.and_eq_true,decide_eq_true_eq,List.all_eq_true] at h
 intro o ho
 have:=h.2 o ho
 exact ⟨by omega,by omega⟩
theorem opOk_gone200 {o : SOp} (h : opOk o = true) : o.f5.length ≤ 200:=by
 rcases opOk_kinds h with ⟨_,h2⟩ | ⟨_,h2⟩
 ·unfold editOk goneOk at h2
  simp only [Bool.and_eq_true,decide_eq_true_eq] at h2
  omega
 ·unfold toggleOk at h2
  simp only [Bool.and_eq_true,List.isEmpty_iff] at h2
  rw [h2.2]; simp
theorem gone_in {o : SOp} (h : opOk o = true) : ∀ e ∈ o.f5,inI e.f0 ∧ inI e.f1 ∧ inI e.f2:=by
 intro e he
 obtain ⟨hb,hk,_⟩:=opOk_goneMem h e he
 obtain ⟨i0,i1⟩:=elemOk_in hk hb
 have:=elemOk_pos hk hb
 exact ⟨i0,i1,by unfold inI; omega⟩
theorem chain_in {o : SOp} (h : opOk o = true) : ∀ e ∈ chainE o,inI e.f0 ∧ inI e.f1 ∧ inI e.f2:=by
 intro e he
 obtain ⟨e0,e1,h2,h3⟩:=(mem_chain o e).1 he
 have hn:=opOk_name h
 have hs:=(opOk_size2 h).1
 rw [← e0,← e1]
 exact ⟨hn.1,hn.2,by unfold inI; omega⟩
theorem K2.trans {b1 b2 : Nat} {w w1 w2 : World} (h : K2 b1 b2 w w1) (k : K2 b1 b2 w1 w2) : K2 b1 b2 w w2 :=
 ⟨k.os.trans h.os,k.tape.trans h.tape,k.output.trans h.output,Nat.le_trans h.size k.size,fun i hi h1 h2 => (k.block i (Nat.lt_of_lt_of_le hi h.size) h1 h2).trans (h.block i hi h1 h2)⟩
theorem ord_in {l : List SOp} (h : RowOk l) : ∀ e,e ∈ ordL l → inI e.f0 ∧ inI e.f1 ∧ inI e.f2:=by
 intro e he
 obtain ⟨p,hp,e0,e1,h2,h3⟩:=(mem_ordL h e).1 he
 exact chain_in (h.oks p hp) e ((mem_chain p e).2 ⟨e0,e1,h2,h3⟩)
theorem mk_runE (t : TypeId) (w : World) : (Instr.makeMap t none).run Try.prog w = .ok (.map (some w.heap.size)) (w.alloc (.map #[] 0)):=rfl
theorem seen_start (w : World) : Below w.heap.size w ((((w.alloc (.map #[] 0)).alloc (.cells #[.map (some w.heap.size)] 85)).alloc (.map #[] 0)).alloc (.cells #[.map (some (w.heap.size + 1 + 1))] 85)) ∧
  MapE ((((w.alloc (.map #[] 0)).alloc (.cells #[.map (some w.heap.size)] 85)).alloc (.map #[] 0)).alloc (.cells #[.map (some (w.heap.size + 1 + 1))] 85)) w.heap.size 0 (fun _ => false) ∧
  MapE ((((w.alloc (.map #[] 0)).alloc (.cells #[.map (some w.heap.size)] 85)).alloc (.map #[] 0)).alloc (.cells #[.map (some (w.heap.size + 1 + 1))] 85)) (w.heap.size + 1 + 1) 0 (fun _ => false) ∧
  (((((w.alloc (.map #[] 0)).alloc (.cells #[.map (some w.heap.size)] 85)).alloc (.map #[] 0)).alloc (.cells #[.map (some (w.heap.size + 1 + 1))] 85)).cell? ⟨w.heap.size + 1,0,none⟩ = some (.map (some w.heap.size)) ∧
   ((((w.alloc (.map #[] 0)).alloc (.cells #[.map (some w.heap.size)] 85)).alloc (.map #[] 0)).alloc (.cells #[.map (some (w.heap.size + 1 + 1))] 85)).cell? ⟨w.heap.size + 1 + 1 + 1,0,none⟩ = some (.map (some (w.heap.size + 1 + 1)))) ∧
  ((((w.alloc (.map #[] 0)).alloc (.cells #[.map (some w.heap.size)] 85)).alloc (.map #[] 0)).alloc (.cells #[.map (some (w.heap.size + 1 + 1))] 85)).heap.size = w.heap.size + 4:=by
 have m1 : MapE (w.alloc (.map #[] 0)) w.heap.size 0 (fun _ => false):=MapB.made _ _ _ _
 have m1':=m1.kept (World.grownBy_alloc _ (.cells #[.map (some w.heap.size)] 85) none) (by simp)
 have hs2 : ((w.alloc (.map #[] 0)).alloc (.cells #[.map (some w.heap.size)] 85)).heap.size = w.heap.size + 1 + 1:=by simp
 have hb2 : Below w.heap.size w ((w.alloc (.map #[] 0)).alloc (.cells #[.map (some w.heap.size)] 85)):=below_alloc (below_alloc (Below.refl _ _) _) _
 have hc2 : ((w.alloc (.map #[] 0)).alloc (.cells #[.map (some w.heap.size)] 85)).cell? ⟨w.heap.size + 1,0,none⟩ = some (.map (some w.heap.size)):=top_cell _ _ _ _ 0 (by simp)
 generalize (w.alloc (.map #[] 0)).alloc (.cells #[.map (some w.heap.size)] 85) = w2 at m1' hs2 hb2 hc2 ⊢
 have m2 : MapE (w2.alloc (.map #[] 0)) (w.heap.size + 1 + 1) 0 (fun _ => false):=by
  have:=MapB.made encE 36 4 w2; rw [hs2] at this; exact this
 have m1'':=m1'.kept (World.grownBy_alloc _ (.map #[] 0) none) (by simp)
 have hs3 : (w2.alloc (.map #[] 0)).heap.size = w.heap.size + 1 + 1 + 1:=by simp [hs2]
 have hb3:=below_alloc hb2 (.map #[] 0)
 have hc3:=pw_cell_below (below_alloc (Below.refl w2.heap.size w2) (.map #[] 0)) hc2
 generalize w2.alloc (.map #[] 0) = w3 at m1'' m2 hs3 hb3 hc3 ⊢
 have m1a:=m1''.kept (World.grownBy_alloc _ (.cells #[.map (some (w.heap.size + 1 + 1))] 85) none) (by simp)
 have m2a:=m2.kept (World.grownBy_alloc _ (.cells #[.map (some (w.heap.size + 1 + 1))] 85) none) (by simp)
 exact ⟨below_alloc hb3 _,m1a,m2a,⟨pw_cell_below (below_alloc (Below.refl w3.heap.size w3) _) hc3,top_cell _ _ _ _ 0 hs3⟩,by simp [hs3]⟩
def doc_Seen.f (l0 : List (SOp)) : Option ((List (SElem))):=if smalls l0 = true ∧ mayB l0 = true then some (seenL l0) else none
set_option maxHeartbeats 4000000 in
set_option maxRecDepth 1000000 in
theorem doc_Seen.calls (A0 : Option Addr) (c0 : Nat) (l0 : List (SOp)) (r : List (SElem)) (w : World) (hr0 : Kd.C kOp w A0 l0.length l0) (hc0 : l0.length ≤ c0) (h : doc_Seen.f l0 = some r) :
  Calls Try.prog 34 #[.slice A0 l0.length c0] w fun e w' => ∃ v0_ : Value,e = .returned (v0_) ∧ Kd.R kElem 36 w' w.heap.size (fun _ => True) v0_ r ∧ Below w.heap.size w w':=by
 unfold doc_Seen.f at h
 split at h
 case isFalse => cases h
 rename_i hsm
 obtain ⟨hs,hm⟩:=hsm
 obtain rfl:=Option.some.inj h
 have hrow:=(mayB_iff l0).1 hm
 obtain ⟨kw,hkw⟩:=Ev.rounds (Works_ev hrow)
 have HR0:=Aside0.mk hr0
 have HC0:=Aside0.mk hc0
 have HW:=Aside0.mk (fun (W : World) (hb : Below w.heap.size w W) => doc_Works.calls kw A0 c0 l0 (worksL l0) W (Kd.C_below hr0 hb) hc0 hkw)
 have HROW:=Aside0.mk hrow
 have HSM:=Aside0.mk hs
 clear hr0 hc0 h hm hs hkw hrow
 go_enter Try.func34,Try.ntmps34
 have mk1:=fun w => mk_runE 85 w
 obtain ⟨s0,s1,s2,s3,s4⟩:=seen_start w
 have S1:=Aside0.mk s1
 have S2:=Aside0.mk s2
 have hW4:=HW.out _ s0
 have S0:=Aside0.mk s0
 have HW4:=Aside0.mk hW4
 have S3:=Aside0.mk s3
 have S4:=Aside0.mk s4
 clear s0 s1 s2 s3 s4 hW4 HW
 go_wp2_with fail
 refine HW4.out.mono ?_
 rintro e wW ⟨vW,rfl,hRW,hbW⟩
 obtain ⟨HBW,M1,M2,c1,c2,lW⟩ : Aside0 (Below w.heap.size w wW) ∧ Aside0 (MapE wW w.heap.size 0 (fun _ => false)) ∧ Aside0 (MapE wW (w.heap.size + 1 + 1) 0 (fun _ => false)) ∧ wW.cell? ⟨w.heap.size + 1,0,none⟩ = some (.map (some w.heap.size)) ∧ wW.cell? ⟨w.heap.size + 1 + 1 + 1,0,none⟩ = some (.map (some (w.heap.size + 1 + 1))) ∧ w.heap.size + 4 ≤ wW.heap.size:=by
  refine ⟨⟨below_step S0.out hbW⟩,⟨S1.out.below hbW S1.out.lt⟩,⟨S2.out.below hbW S2.out.lt⟩,pw_cell_below hbW S3.out.1,pw_cell_below hbW S3.out.2, ?_⟩
  have:=hbW.size; rw [S4.out] at this; exact this
 have hRW2:=Kd.R_mono (Kd.R_bound hRW) (ok':=fun k => k ≠ w.heap.size ∧ k ≠ w.heap.size + 1 + 1) (fun k hk => by have:=hk.2.1; rw [S4.out] at this; exact ⟨by omega,by omega⟩)
 have hlW : (worksL l0).length = l0.length:=by simp [worksL]
 obtain ⟨AW,cW,rfl,hcW,_⟩:=Kd.R_reads hRW2
 rw [hlW] at hcW ⊢
 have HCW:=Aside0.mk (fun (wr : World) (hk : K2 w.heap.size (w.heap.size + 1 + 1) wW wr) => (Kd.R_reads' (Kd.R_step hRW2 (fun k ho hlt => hk.block k hlt ho.1 ho.2))).2.2)
 have HC1:=Aside0.mk c1
 have HC2:=Aside0.mk c2
 have LW:=Aside0.mk lW
 clear hRW hRW2 hbW c1 c2 lW S0 S1 S2 S3 S4 HW4 hcW mk1
 rw [hlW] at HCW
 clear hlW
 go_wp2
 go_loopg [16] l0.length (fun gg s16 wr => ∃ i : Nat,i ≤ l0.length ∧ l0.length - i ≤ gg ∧ s16 = .int .i64 i ∧ Aside0 (K2 w.heap.size (w.heap.size + 1 + 1) wW wr) ∧ Aside0 (∃ n1 n2,n1 ≤ 200 * i ∧ n2 ≤ 12 * i ∧ MapE wr w.heap.size n1 (goneS l0 (l0.take i)) ∧ MapE wr (w.heap.size + 1 + 1) n2 (theS l0 (l0.take i))))
 case atStart => exact ⟨0,Nat.zero_le _,by omega,rfl,⟨K2.refl _ _ _⟩,⟨0,0,Nat.le_refl _,Nat.le_refl _,M1.out,M2.out⟩⟩
 case round =>
  clear M1 M2
  obtain ⟨i,hi,hgk,rfl,HK,HM⟩:=hrel
  have h40:=HROW.out.sums.1
  by_cases hlt : i < l0.length
  ·obtain ⟨g',rfl⟩ : ∃ g',gk = g' + 1:=⟨gk - 1,by omega⟩
   have hltz : (i : Int) < (l0.length : Int):=by omega
   have h0z : (0 : Int) ≤ (i : Int):=by omega
   obtain ⟨adW,rfl,xw⟩:=Kd.at_bool (HCW.out wr HK.out) (i : Int) h0z (by omega)
   simp only [Int.toNat_natCast] at xw
   have hrdw : rdOf false (worksL l0) (i : Int) = workE l0 l0[i]:=by
    unfold rdOf worksL
    rw [Int.toNat_natCast,List.getD_eq_getElem?_getD,List.getElem?_map,List.getElem?_eq_getElem hlt]; rfl
   rw [hrdw] at xw
   cases hwk : workE l0 l0[i] with
   | false =>
    rw [hwk] at xw
    have HM2:=Aside0.mk (show ∃ n1 n2,n1 ≤ 200 * (i + 1) ∧ n2 ≤ 12 * (i + 1) ∧ MapE wr w.heap.size n1 (goneS l0 (l0.take (i + 1))) ∧ MapE wr (w.heap.size + 1 + 1) n2 (theS l0 (l0.take (i + 1))) by
     obtain ⟨n1,n2,h1,h2,h3,h4⟩:=HM.out
     rw [List.take_succ_eq_append_getElem hlt,goneS_snoc,theS_snoc,hwk]
     exact ⟨n1,n2,by omega,by omega,h3,h4⟩)
    clear hwk hrdw HM
    go_wp2
    go_roundg g'
    case measure => omega
    case rel => exact ⟨i + 1,by omega,by omega,by go_num,HK,HM2⟩
   | true =>
    rw [hwk] at xw
    have hoi:=HROW.out.oks _ (List.getElem_mem hlt)
    have hSm:=smalls_Sm HSM.out _ (List.getElem_mem hlt)
    obtain ⟨ad,A7,c7,rfl,x0,x1,x2,x3,x4,x5,x6,x7,x8,x9,x10,l7,g7⟩:=at_Op HR0.out (i : Int) h0z hltz
    have LW1:=LW.out
    have hbr : Below w.heap.size w wr:=K2.toBelow HBW.out HK.out (by omega) (Nat.le_refl _) (by omega)
    simp only [Int.toNat_natCast,rd_Op_nat _ _ hlt] at x0 x1 x2 x3 x4 x5 x6 x7 x8 x9 x10 l7 g7
    generalize hoe : l0[i] = o at x0 x1 x2 x3 x4 x5 x6 x7 x8 x9 x10 l7 g7 hwk hoi hSm
    have HOE:=Aside0.mk hoe
    have HWK:=Aside0.mk hwk
    have HOI:=Aside0.mk hoi
    have HSO:=Aside0.mk hSm
    have HG7:=Aside0.mk g7
    have HL7:=Aside0.mk l7
    have HX:=Aside0.mk (And.intro x0 (And.intro x1 (And.intro x2 (And.intro x3 (And.intro x4 (And.intro x5 (And.intro x6 (And.intro x7 (And.intro x8 (And.intro x9 x10))))))))))
    have e7:=pw_cell_below hbr x7
    have h200:=opOk_gone200 hoi
    clear x0 x1 x2 x3 x4 x5 x6 x7 x8 x9 x10 l7 g7 hwk hoi hSm hoe hrdw hbr
    go_wp2
    go_loopg [29] o.f5.length (fun gg s29 w' => ∃ j : Nat,j ≤ o.f5.length ∧ o.f5.length - j ≤ gg ∧ s29 = .int .i64 j ∧ Aside0 (K2 w.heap.size (w.heap.size + 1 + 1) wW w') ∧ Aside0 (∃ n1 n2,n1 ≤ 200 * i + j ∧ n2 ≤ 12 * i ∧ MapE w' w.heap.size n1 (addS (goneS l0 (l0.take i)) (o.f5.take j)) ∧ MapE w' (w.heap.size + 1 + 1) n2 (theS l0 (l0.take i))))
    case atStart =>
     obtain ⟨n1,n2,h1,h2,h3,h4⟩:=HM.out
     exact ⟨0,Nat.zero_le _,by omega,rfl,HK,⟨n1,n2,by omega,by omega,by rw [List.take_zero,addS_nil]; exact h3,h4⟩⟩
    case round =>
     clear HM HK xw e7
     obtain ⟨j,hj,hgk2,rfl,HK,HM⟩:=hrel
     by_cases hjl : j < o.f5.length
     ·obtain ⟨g2,rfl⟩ : ∃ g2,gk = g2 + 1:=⟨gk - 1,by omega⟩
      have hjz : (j : Int) < (o.f5.length : Int):=by omega
      have hj0 : (0 : Int) ≤ (j : Int):=by omega
      have hbr : Below w.heap.size w wr:=K2.toBelow HBW.out HK.out (by omega) (Nat.le_refl _) (by omega)
      obtain ⟨ad7,rfl,y0,y1,y2⟩:=at_Elem (Kd.C_below HG7.out hbr) (j : Int) hj0 hjz
      simp only [Int.toNat_natCast,rd_Elem_nat _ _ hjl] at y0 y1 y2
      have hxi:=gone_in HOI.out _ (List.getElem_mem hjl)
      have hsn:=addS_snoc (goneS l0 (l0.take i)) (o.f5.take j) o.f5[j]
      rw [← List.take_succ_eq_append_getElem hjl] at hsn
      generalize o.f5[j] = x at y0 y1 y2 hxi hsn
      obtain ⟨n1,n2,h1,h2,h3,h4⟩:=HM.out
      have hal : Below wr.heap.size wr (wr.alloc (.cells #[.int .i64 x.f0, .int .i64 x.f1, .int .i64 x.f2] 36)):=below_alloc (Below.refl _ _) _
      obtain ⟨kl,hkl⟩:=keyE (x:=(x.f0,x.f1,x.f2)) hxi.1 hxi.2.1 hxi.2.2
      obtain ⟨w6,hrun,hm6,hg6⟩:=(h3.below hal h3.lt).store lawE Try.underlying85 Try.underlying4 (Nat.lt_of_le_of_lt (m:=10000) (by omega) (by decide)) encE_inj (x.f0,x.f1,x.f2) hkl
      rw [hsn] at hm6
      simp only [encE] at hrun
      have q1:=pw_cell_below hal (HK.out.cell HC1.out (by simp) (by simp))
      have HK6:=Aside0.mk ((HK.out.below hal).grown hg6 (.inl rfl))
      have HM6:=Aside0.mk (show ∃ n1 n2,n1 ≤ 200 * i + (j + 1) ∧ n2 ≤ 12 * i ∧ MapE w6 w.heap.size n1 (addS (goneS l0 (l0.take i)) (o.f5.take (j + 1))) ∧ MapE w6 (w.heap.size + 1 + 1) n2 (theS l0 (l0.take i)) from
       ⟨n1 + 1,n2,by omega,h2,hm6,(h4.below hal h4.lt).kept hg6 (fun e => by injection e with e; omega)⟩)
      clear h1 h2 h3 h4 hm6 hg6 hsn hxi hkl hal hbr HM HK
      go_wp2
      go_roundg g2
      case measure => omega
      case rel => exact ⟨j + 1,by omega,by omega,by go_num,HK6,HM6⟩
     ·obtain rfl : j = o.f5.length:=by omega
      have hjz : ¬ (o.f5.length : Int) < (o.f5.length : Int):=by omega
      have hbr : Below w.heap.size w wr:=K2.toBelow HBW.out HK.out (by omega) (Nat.le_refl _) (by omega)
      obtain ⟨x0,x1,x2,x3,x4,x5,x6,x7,x8,x9,x10⟩:=HX.out
      replace x0:=pw_cell_below hbr x0
      replace x1:=pw_cell_below hbr x1
      replace x2:=pw_cell_below hbr x2
      replace x3:=pw_cell_below hbr x3
      replace x4:=pw_cell_below hbr x4
      replace x5:=pw_cell_below hbr x5
      replace x6:=pw_cell_below hbr x6
      replace x7:=pw_cell_below hbr x7
      replace x8:=pw_cell_below hbr x8
      replace x9:=pw_cell_below hbr x9
      replace x10:=pw_cell_below hbr x10
      have hsz:=(opOk_size2 HOI.out).1
      obtain ⟨ka,hka⟩:=Ev.rounds (All_ev o HSO.out (by omega))
      have HAL:=Aside0.mk (op_All.calls ka o.f0 o.f1 o.f2 o.f3.f0 o.f3.f1 o.f3.f2 o.f4 A7 c7 o.f5 o.f6 o.f7 o.f8 (chainE o) wr (Kd.C_below HG7.out hbr) HL7.out hka)
      have HSZ:=Aside0.mk hsz
      clear hbr hka hsz
      go_wp2_with fail
      refine HAL.out.mono ?_
      rintro e wA ⟨vA,rfl,hRA,hbA⟩
      have hsr:=HK.out.size
      have hRA2:=Kd.R_mono (Kd.R_bound hRA) (ok':=fun k => k ≠ w.heap.size ∧ k ≠ w.heap.size + 1 + 1) (fun k hk => by have:=hk.2.1; exact ⟨by omega,by omega⟩)
      have hlA : (chainE o).length = sizeOf' o:=chain_length o
      obtain ⟨AA,cA,rfl,hcA,_⟩:=Kd.R_reads hRA2
      have HCA:=Aside0.mk (fun (w' : World) (hk : K2 w.heap.size (w.heap.size + 1 + 1) wA w') => (Kd.R_reads' (Kd.R_step hRA2 (fun k ho hlt => hk.block k hlt ho.1 ho.2))).2.2)
      have HKA:=Aside0.mk (HK.out.below hbA)
      have HMA:=Aside0.mk (show ∃ n1 n2,n1 ≤ 200 * i + o.f5.length ∧ n2 ≤ 12 * i ∧ MapE wA w.heap.size n1 (addS (goneS l0 (l0.take i)) o.f5) ∧ MapE wA (w.heap.size + 1 + 1) n2 (theS l0 (l0.take i)) by
       obtain ⟨n1,n2,h1,h2,h3,h4⟩:=HM.out
       rw [List.take_length] at h3
       exact ⟨n1,n2,h1,h2,h3.below hbA h3.lt,h4.below hbA h4.lt⟩)
      have HLA:=Aside0.mk (show (chainE o).length ≤ 12 by rw [hlA]; exact HSZ.out)
      clear hRA hRA2 hlA hcA hbA HAL HK HM x0 x1 x2 x3 x4 x5 x6 x7 x8 x9 x10 hsr
      go_wp2
      go_loopg [42] (chainE o).length (fun gg s42 w' => ∃ j : Nat,j ≤ (chainE o).length ∧ (chainE o).length - j ≤ gg ∧ s42 = .int .i64 j ∧ Aside0 (K2 w.heap.size (w.heap.size + 1 + 1) wA w') ∧ Aside0 (∃ n1 n2,n1 ≤ 200 * (i + 1) ∧ n2 ≤ 12 * i + j ∧ MapE w' w.heap.size n1 (addS (goneS l0 (l0.take i)) o.f5) ∧ MapE w' (w.heap.size + 1 + 1) n2 (addS (theS l0 (l0.take i)) ((chainE o).take j))))
      case atStart =>
       obtain ⟨n1,n2,h1,h2,h3,h4⟩:=HMA.out
       exact ⟨0,Nat.zero_le _,by omega,rfl,⟨K2.refl _ _ _⟩,⟨n1,n2,by omega,by omega,h3,by rw [List.take_zero,addS_nil]; exact h4⟩⟩
      case round =>
       clear HMA
       obtain ⟨j,hj,hgk2,rfl,HK,HM⟩:=hrel
       have hcl:=HLA.out
       by_cases hjl : j < (chainE o).length
       ·obtain ⟨g2,rfl⟩ : ∃ g2,gk = g2 + 1:=⟨gk - 1,by omega⟩
        have hjz : (j : Int) < ((chainE o).length : Int):=by omega
        have hj0 : (0 : Int) ≤ (j : Int):=by omega
        obtain ⟨ad7,rfl,y0,y1,y2⟩:=at_Elem (HCA.out wr HK.out) (j : Int) hj0 hjz
        simp only [Int.toNat_natCast,rd_Elem_nat _ _ hjl] at y0 y1 y2
        have hxi:=chain_in HOI.out _ (List.getElem_mem hjl)
        have hsn:=addS_snoc (theS l0 (l0.take i)) ((chainE o).take j) (chainE o)[j]
        rw [← List.take_succ_eq_append_getElem hjl] at hsn
        generalize (chainE o)[j] = x at y0 y1 y2 hxi hsn
        obtain ⟨n1,n2,h1,h2,h3,h4⟩:=HM.out
        have hal : Below wr.heap.size wr (wr.alloc (.cells #[.int .i64 x.f0, .int .i64 x.f1, .int .i64 x.f2] 36)):=below_alloc (Below.refl _ _) _
        obtain ⟨kl,hkl⟩:=keyE (x:=(x.f0,x.f1,x.f2)) hxi.1 hxi.2.1 hxi.2.2
        obtain ⟨w6,hrun,hm6,hg6⟩:=(h4.below hal h4.lt).store lawE Try.underlying85 Try.underlying4 (Nat.lt_of_le_of_lt (m:=10000) (by omega) (by decide)) encE_inj (x.f0,x.f1,x.f2) hkl
        rw [hsn] at hm6
        simp only [encE] at hrun
        have q1:=pw_cell_below hal (HK.out.cell (HKA.out.cell HC2.out (by show w.heap.size + 1 + 1 + 1 ≠ _; omega) (by show w.heap.size + 1 + 1 + 1 ≠ _; omega)) (by show w.heap.size + 1 + 1 + 1 ≠ _; omega) (by show w.heap.size + 1 + 1 + 1 ≠ _; omega))
        have HK6:=Aside0.mk ((HK.out.below hal).grown hg6 (.inr rfl))
        have HM6:=Aside0.mk (show ∃ n1 n2,n1 ≤ 200 * (i + 1) ∧ n2 ≤ 12 * i + (j + 1) ∧ MapE w6 w.heap.size n1 (addS (goneS l0 (l0.take i)) o.f5) ∧ MapE w6 (w.heap.size + 1 + 1) n2 (addS (theS l0 (l0.take i)) ((chainE o).take (j + 1))) from
         ⟨n1,n2 + 1,h1,by omega,(h3.below hal h3.lt).kept hg6 (fun e => by injection e with e; omega),hm6⟩)
        clear h1 h2 h3 h4 hm6 hg6 hsn hxi hkl hal HM HK
        go_wp2
        go_roundg g2
        case measure => omega
        case rel => exact ⟨j + 1,by omega,by omega,by go_num,HK6,HM6⟩
       ·obtain rfl : j = (chainE o).length:=by omega
        have hjz : ¬ ((chainE o).length : Int) < ((chainE o).length : Int):=by omega
        have HK8:=Aside0.mk (K2.trans HKA.out HK.out)
        have HM8:=Aside0.mk (show ∃ n1 n2,n1 ≤ 200 * (i + 1) ∧ n2 ≤ 12 * (i + 1) ∧ MapE wr w.heap.size n1 (goneS l0 (l0.take (i + 1))) ∧ MapE wr (w.heap.size + 1 + 1) n2 (theS l0 (l0.take (i + 1))) by
         obtain ⟨n1,n2,h1,h2,h3,h4⟩:=HM.out
         rw [List.take_length] at h4
         rw [List.take_succ_eq_append_getElem hlt,HOE.out,goneS_snoc,theS_snoc,HWK.out]
         exact ⟨n1,n2,h1,by omega,h3,h4⟩)
        clear HK HM
        go_wp2
        go_roundg g'
        case measure => omega
        case rel => exact ⟨i + 1,by omega,by omega,by go_num,HK8,HM8⟩
  ·obtain rfl : i = l0.length:=by omega
   have hltz : ¬ (l0.length : Int) < (l0.length : Int):=by omega
   have LW1:=LW.out
   have hbr : Below w.heap.size w wr:=K2.toBelow HBW.out HK.out (by omega) (Nat.le_refl _) (by omega)
   have HAL:=Aside0.mk (tree_All.calls A0 c0 l0 (ordL l0) wr (Kd.C_below HR0.out hbr) HC0.out (tree_All_f HSM.out HROW.out))
   have HBR:=Aside0.mk hbr
   clear hbr
   go_wp2_with fail
   refine HAL.out.mono ?_
   rintro e wA ⟨vA,rfl,hRA,hbA⟩
   obtain ⟨AA,cA,rfl⟩:=Kd.R_slice hRA
   have hsr:=HK.out.size
   have hlen : (ordL l0).length ≤ 200:=by rw [(ordL_nodup HROW.out).2]; exact HROW.out.sums.2
   have hown:=Kd.R_base hRA
   have hD:=DeleteFuncElem 57 #[.pointer (some ⟨w.heap.size + 1,0,none⟩), .pointer (some ⟨w.heap.size + 1 + 1 + 1,0,none⟩)] wr.heap.size cA AA (ordL l0) (fun x => goneS l0 l0 (x.f0,x.f1,x.f2) || !theS l0 l0 (x.f0,x.f1,x.f2)) wA
    (enters_at Try.func57 (by kernel_rfl) rfl) (by omega) hRA (fun W x hx hg => by
     obtain ⟨n1,n2,h1,h2,h3,h4⟩:=HM.out
     rw [List.take_length] at h3 h4
     have a3:=(h3.below hbA h3.lt).kept hg (fun e => by have:=hown _ e.symm; omega)
     have a4:=(h4.below hbA h4.lt).kept hg (fun e => by have:=hown _ e.symm; omega)
     have k1:=pw_cell_below hbA (HK.out.cell HC1.out (by show w.heap.size + 1 ≠ _; omega) (by show w.heap.size + 1 ≠ _; omega))
     have k2:=pw_cell_below hbA (HK.out.cell HC2.out (by show w.heap.size + 1 + 1 + 1 ≠ _; omega) (by show w.heap.size + 1 + 1 + 1 ≠ _; omega))
     have k1':=cell_grown hg (fun e => by have:=hown _ e.symm; simp only at this; omega) k1
     have k2':=cell_grown hg (fun e => by have:=hown _ e.symm; simp only at this; omega) k2
     exact seen1_calls _ _ _ _ n1 n2 x _ _ W k1' k2' a3 a4 (ord_in HROW.out x hx))
   have HD:=Aside0.mk hD
   have HBA:=Aside0.mk (below_step HBR.out hbA)
   have HOWN:=Aside0.mk hown
   have HSZ:=Aside0.mk hbA.size
   clear hD hRA hbA hown
   go_wp2_with fail
   refine HD.out.mono ?_
   rintro e w2 ⟨v,rfl,hRv,hgv⟩
   have HRV:=Aside0.mk hRv
   have HGV:=Aside0.mk hgv
   clear hRv hgv
   go_wp2
   go_ret
   have hz:=HBR.out.size
   have hzA:=HSZ.out
   refine ⟨_,rfl,Kd.R_lower HRV.out hz,pw_below_grown HBA.out _ HBA.out.size HGV.out (fun k hk => by have:=HOWN.out k hk; omega)⟩
end Go.Proofs.Ytonoaflfobajcaa.L
end

section
namespace Go.Proofs.Ytonoaflfobajcaa.L
open Go.RowKit Go.Proofs.YtonoaflfobajcaaW.PrintWords Go.Proofs.YtonoaflfobajcaaW.PrintLast Go.Proofs.YtonoaflfobajcaaW.PrintMore
def t_doc_At.T1 : Bool × List (List Nat × List Nat):=(true,[([],[]),([],[]),([],[]),([2],[2]),([],[]),([4],[4]),([1,3,5],[1,3,5]),([0,6],[0,6]),([7],[7]),([8],[8]),([9],[9]),([],[]),([11],[11]),([10,12],[10,12]),([13],[13]),([14,6,0,1,2,3,4,5,6,7,8,9,10,11,12,13,14],[14])])
def t_doc_At.B1 : List Nat:=[0,0,0,4,0,16,62,127,255,511,1023,0,2048,8191,16383,32767]
theorem t_doc_At.tab1 : rtab .any (opsOf Try.f36 1) = t_doc_At.T1:=by kernel_rfl
theorem t_doc_At.bits1 : waitsOk t_doc_At.T1.2 t_doc_At.B1 = true:=by kernel_rfl
end Go.Proofs.Ytonoaflfobajcaa.L
end

section
namespace Go.Proofs.Ytonoaflfobajcaa.L
open Go.RowKit Go.Proofs.YtonoaflfobajcaaW.PrintWords Go.Proofs.YtonoaflfobajcaaW.PrintLast Go.Proofs.YtonoaflfobajcaaW.PrintMore
set_option linter.unusedVariables false
set_option linter.unusedSimpArgs false
theorem runesFrom_eq (s : ByteArray) : ∀ (n i : Nat) (acc : Array Value),Conv.runesFrom s n i acc = acc ++ ((decFrom s n i).map (Value.int .i32)).toArray
 | 0,i,acc => by simp [Conv.runesFrom,decFrom]
 | n + 1,i,acc => by
  unfold Conv.runesFrom decFrom
  by_cases h : i < s.size
  ·rw [if_pos h,if_pos h]
   refine (runesFrom_eq s n (i + (Utf8.decode s i).2) (acc.push (.int .i32 ((Utf8.decode s i).1 : Int)))).trans ?_
   simp
  ·rw [if_neg h,if_neg h]; simp
theorem runesFrom_all (s : ByteArray) : Conv.runesFrom s s.size 0 #[] = ((runesOf s).map (Value.int .i32)).toArray:=by rw [runesFrom_eq]; simp [runesOf]
def doc_At.f (l0 : List (SOp)) (a1_0 : Int) (a1_1 : Int) (a1_2 : Int) : Option (Int) :=
 if l0.length ≤ 1000000 ∧ 0 ≤ findOp l0 a1_0 a1_1 ∧ 0 ≤ a1_2 ∧ a1_2 < (sizeOf' (rd_Op l0 (findOp l0 a1_0 a1_1)) : Int) ∧ sizeOf' (rd_Op l0 (findOp l0 a1_0 a1_1)) ≤ 1000000 then some ((runesOf (rd_Op l0 (findOp l0 a1_0 a1_1)).f4).getD a1_2.toNat 0) else none
set_option maxHeartbeats 4000000 in
set_option maxRecDepth 1000000 in
theorem doc_At.calls (A0 : Option Addr) (c0 : Nat) (l0 : List (SOp)) (a1_0 : Int) (a1_1 : Int) (a1_2 : Int) (r : Int) (w : World) (hr0 : Kd.C kOp w A0 l0.length l0) (hc0 : l0.length ≤ c0) (h : doc_At.f l0 a1_0 a1_1 a1_2 = some r) :
  Calls Try.prog 36 #[.slice A0 l0.length c0, .agg #[.int .i64 a1_0, .int .i64 a1_1, .int .i64 a1_2]] w fun e w' => e = .returned (.int .i32 r) ∧ Below w.heap.size w w':=by
 unfold doc_At.f at h
 split at h
 case isFalse => cases h
 rename_i hq
 obtain ⟨hl,hf0,h2,h3,h4⟩:=hq
 obtain rfl:=Option.some.inj h
 clear h
 obtain ⟨i,hi,hfi⟩ : ∃ i,i < l0.length ∧ findOp l0 a1_0 a1_1 = (i : Int):=by
  rcases findOp_cases l0 a1_0 a1_1 with ⟨i,hi,_,_,_,e⟩ | ⟨_,e⟩
  ·exact ⟨i,hi,e⟩
  ·omega
 have hcF:=fun W (hb : Below w.heap.size w W) => tree_Find.calls A0 c0 l0 a1_0 a1_1 (i : Int) W (Kd.C_below hr0 hb) hc0 (by rw [tree_Find_f hl,hfi])
 rw [hfi] at h3 h4 ⊢
 have hi0 : (0 : Int) ≤ (i : Int):=by omega
 have hi1 : (i : Int) < (l0.length : Int):=by omega
 obtain ⟨ad,A7,c7,rfl,x0,x1,x2,x3,x4,x5,x6,x7,x8,x9,x10,l7,g7⟩:=at_Op hr0 (i : Int) hi0 hi1
 simp only [Int.toNat_natCast] at x6
 generalize rd_Op l0 (i : Int) = o at x6 h3 h4 ⊢
 clear x0 x1 x2 x3 x4 x5 x7 x8 x9 x10 l7 g7 hr0 hf0 hfi hi hl
 have HF:=Aside0.mk hcF
 clear hcF
 obtain ⟨j,rfl⟩ : ∃ j : Nat,a1_2 = (j : Int):=⟨a1_2.toNat,by omega⟩
 have hj : j < (runesOf o.f4).length:=by have : sizeOf' o = (runesOf o.f4).length:=rfl; omega
 rw [Int.toNat_natCast]
 generalize hrv : (runesOf o.f4).getD j 0 = rv
 have HRV:=Aside0.mk hrv
 clear hrv
 have hru:=Try.underlying9
 have hrs:=Try.underlying83
 have hri:=Try.underlying21
 have hal : Below w.heap.size w (w.alloc (.cells #[.int .i64 a1_0, .int .i64 a1_1, .int .i64 (j : Int)] 36)):=below_alloc (Below.refl _ _) _
 have y6:=pw_cell_below hal x6
 have b0 : (w.alloc (.cells #[.int .i64 a1_0, .int .i64 a1_1, .int .i64 (j : Int)] 36)).cell? ⟨w.heap.size,0,none⟩ = some (.int .i64 a1_0):=by simp
 have b1 : (w.alloc (.cells #[.int .i64 a1_0, .int .i64 a1_1, .int .i64 (j : Int)] 36)).cell? ⟨w.heap.size,1,none⟩ = some (.int .i64 a1_1):=by simp
 have b2 : (w.alloc (.cells #[.int .i64 a1_0, .int .i64 a1_1, .int .i64 (j : Int)] 36)).cell? ⟨w.heap.size,2,none⟩ = some (.int .i64 (j : Int)):=by simp
 have HAL:=Aside0.mk hal
 have HB3:=Aside0.mk h3
 have HB4:=Aside0.mk h4
 clear hal x6 h3 h4 h2
 go_enter Try.func36,Try.ntmps36
 go_wp2_with fail
 refine stL (S:=fun w' => w'.cell? ⟨w.heap.size,0,none⟩ = some (.int .i64 a1_0) ∧ w'.cell? ⟨w.heap.size,1,none⟩ = some (.int .i64 a1_1) ∧ w'.cell? ⟨w.heap.size,2,none⟩ = some (.int .i64 (j : Int)) ∧ w'.cell? ⟨(ad.add (i * 11)).block,(ad.add (i * 11)).off + 6,none⟩ = some (.string o.f4)) [14] 16 t_doc_At.bits1 t_doc_At.tab1 (hS:=⟨b0,b1,b2,y6⟩) (h:=fun hS HT HW => ?_)
 refine pu HT 0 5 1 (h := ?_)
 refine pu HT 1 6 3 (h := ?_)
 refine pu HT 2 7 7 (h := ?_)
 refine tk HT HW hS 3 8 15 (h := ?_)
 refine pu HT 4 9 31 (h := ?_)
 refine tk HT HW hS 5 10 63 (h := ?_)
 refine pu HT 11 16 2111 (h := ?_)
 refine tk HT HW hS 12 17 6207 (h := ?_)
 refine ca HT 6 (some 11) 6271 #[.slice (some ad) l0.length c0, .int .i64 a1_0, .int .i64 a1_1] Try.func33 (h:=fun K hK => ?_)
 refine (HF.out _ (below_drew1 HAL.out)).mono ?_
 rintro e w3 ⟨rfl,hb3⟩
 refine ⟨_,rfl, ?_⟩
 refine hK.out _ _ ⟨pw_cell_below hb3 b0,pw_cell_below hb3 b1,pw_cell_below hb3 b2,pw_cell_below hb3 y6⟩ (fun hS => ?_)
 have HBW:=Aside0.mk (below_step (below_drew1 HAL.out) hb3)
 clear hK hb3 b0 b1 b2 y6 HF
 refine nm (h := ?_)
 refine pu HT 7 12 6399 (h := ?_)
 refine pu HT 8 13 6655 (h := ?_)
 refine tk HT HW hS 9 14 7167 (h := ?_)
 have hcv:=run_runes_of_string (P:=Try.prog) w3 9 83 21 o.f4 hru hrs hri (by rw [runesFrom_all]; have hs : sizeOf' o = (runesOf o.f4).length:=rfl; simp; have:=HB4.out; omega)
 rw [runesFrom_all] at hcv
 have hcap:=grownCap_ge w3 ((runesOf o.f4).map (Value.int .i32)).toArray.size 0 21
 generalize hgc : grownCap w3 ((runesOf o.f4).map (Value.int .i32)).toArray.size 0 21 = gc at hcv hcap
 have hsz : ((runesOf o.f4).map (Value.int .i32)).toArray.size = (runesOf o.f4).length:=by simp
 rw [hsz] at hcv hcap
 have hcell : (w3.drew.alloc (.cells (((runesOf o.f4).map (Value.int .i32)).toArray ++ Array.replicate (gc - (runesOf o.f4).length) (.int .i32 0)) 21)).cell? ⟨w3.heap.size,j,none⟩ = some (.int .i32 rv):=by
  rw [← HRV.out]
  have:=top_cell w3.drew (((runesOf o.f4).map (Value.int .i32)).toArray ++ Array.replicate (gc - (runesOf o.f4).length) (.int .i32 0)) 21 w3.heap.size j rfl
  rw [this,Array.getElem?_append_left (by simp; exact hj)]
  simp [List.getD_eq_getElem?_getD,hj]
 have HBE:=Aside0.mk (below_step HBW.out (below_alloc (below_drew1 (Below.refl w3.heap.size w3)) (.cells (((runesOf o.f4).map (Value.int .i32)).toArray ++ Array.replicate (gc - (runesOf o.f4).length) (.int .i32 0)) 21)))
 have hjz : (j : Int) < ((runesOf o.f4).length : Int):=by omega
 have hj0 : (0 : Int) ≤ (j : Int):=by omega
 have hbv:=below_alloc (below_drew1 (Below.refl w3.heap.size w3)) (.cells (((runesOf o.f4).map (Value.int .i32)).toArray ++ Array.replicate (gc - (runesOf o.f4).length) (.int .i32 0)) 21)
 have s0:=pw_cell_below hbv hS.1
 have s1:=pw_cell_below hbv hS.2.1
 have s2:=pw_cell_below hbv hS.2.2.1
 have s3:=pw_cell_below hbv hS.2.2.2
 clear hbv
 generalize w3.drew.alloc (.cells (((runesOf o.f4).map (Value.int .i32)).toArray ++ Array.replicate (gc - (runesOf o.f4).length) (.int .i32 0)) 21) = w4 at hcv hcell HBE s0 s1 s2 s3
 generalize (runesOf o.f4).length = rl at hcv hjz hcap
 refine exS HT 10 (some 15) 8191 (.slice (some ⟨w3.heap.size,0,none⟩) rl gc) w4 (hrun := ?_) (hS:=⟨s0,s1,s2,s3⟩) (h:=fun hS => ?_)
 ·go_simp
 clear hcv hcap hsz hS
 refine nm (h := ?_)
 refine pu HT 13 18 16383 (h := ?_)
 refine exL HT 14 (some 19) 32767 (.int .i32 rv) w4 (hrun := ?_) (h := ?_)
 ·go_simp
 refine nm (h := ?_)
 refine pu HT 15 4 65535 (h := ?_)
 refine dn HT (h := ?_)
 clear HT HW
 go_wp2
 go_ret
 exact ⟨rfl,HBE.out⟩
end Go.Proofs.Ytonoaflfobajcaa.L
end

section
namespace Go.Proofs.Ytonoaflfobajcaa.L
open Go.RowKit Go.Proofs.YtonoaflfobajcaaW.PrintWords Go.Proofs.YtonoaflfobajcaaW.PrintLast Go.Proofs.YtonoaflfobajcaaW.PrintMore
set_option linter.unusedVariables false
set_option linter.unusedSimpArgs false
theorem infoI32 : (Try.prog.info? 21).map (fun i => (i.zero,i.size,i.bytes)) = some (some (.int .i32 0),1,4):=by kernel_rfl
def atR (l : List SOp) (e : SElem) : Int:=(runesOf (rd_Op l (findOp l e.f0 e.f1)).f4).getD e.f2.toNat 0
def plainR (l : List SOp) : ByteArray:=runesBytes ((seenL l).map (atR l))
def doc_Plain.f (l0 : List (SOp)) : Option (ByteArray):=if smalls l0 = true ∧ mayB l0 = true then some (plainR l0) else none
theorem At_ok {l : List SOp} (h : RowOk l) {e : SElem} (he : e ∈ ordL l) : doc_At.f l e.f0 e.f1 e.f2 = some (atR l e):=by
 obtain ⟨p,hp,e0,e1,h2,h3⟩:=(mem_ordL h e).1 he
 obtain ⟨i,hi,ef,ei⟩:=findOp_mem h hp
 rw [e0,e1] at ef
 have hs:=(opOk_size2 (h.oks p hp)).1
 have h40:=h.sums.1
 unfold doc_At.f atR
 rw [ef,rd_Op_nat _ _ hi,ei,if_pos ⟨by omega,by omega,h2,h3,by omega⟩]
set_option maxHeartbeats 4000000 in
set_option maxRecDepth 1000000 in
theorem doc_Plain.calls (A0 : Option Addr) (c0 : Nat) (l0 : List (SOp)) (r : ByteArray) (w : World) (hr0 : Kd.C kOp w A0 l0.length l0) (hc0 : l0.length ≤ c0) (h : doc_Plain.f l0 = some r) :
  Calls Try.prog 28 #[.slice A0 l0.length c0] w fun e w' => e = .returned (.string r) ∧ Below w.heap.size w w':=by
 unfold doc_Plain.f at h
 split at h
 case isFalse => cases h
 rename_i hsm
 obtain rfl:=Option.some.inj h
 have hrow:=(mayB_iff l0).1 hsm.2
 have hcS:=doc_Seen.calls A0 c0 l0 (seenL l0) w hr0 hc0 (by unfold doc_Seen.f; rw [if_pos hsm])
 have hru:=Try.underlying9
 have hrs:=Try.underlying83
 have hri:=Try.underlying21
 have HR0:=Aside0.mk hr0
 have HC0:=Aside0.mk hc0
 have HS:=Aside0.mk hcS
 have HROW:=Aside0.mk hrow
 clear hr0 hc0 h hcS hsm hrow
 go_enter Try.func28,Try.ntmps28
 go_wp2_with fail
 refine HS.out.mono ?_
 rintro e wS ⟨vS,rfl,hRS,hbS⟩
 obtain ⟨AS,cS,rfl,hcS,hCS⟩:=Kd.R_reads hRS
 have HBS:=Aside0.mk hbS
 have HCS:=Aside0.mk hCS
 have hlen : (seenL l0).length ≤ 200:=Nat.le_trans (List.length_filter_le _ _) (by rw [(ordL_nodup HROW.out).2]; exact HROW.out.sums.2)
 have HLEN:=Aside0.mk hlen
 clear hRS hbS hCS hcS hlen HS
 go_wp2
 go_loopg [3,9] (seenL l0).length (fun gg s3 s9 w' => ∃ j : Nat,j ≤ (seenL l0).length ∧ (seenL l0).length - j ≤ gg ∧ s9 = .int .i64 j ∧ Aside0 (Below wS.heap.size wS w') ∧ Aside0 (Kd.R (Kd.int .i32) 21 w' wS.heap.size (fun _ => True) s3 (((seenL l0).take j).map (atR l0))))
 case atStart => exact ⟨0,Nat.zero_le _,by omega,rfl,⟨Below.refl _ _⟩,⟨Kd.R_nil _ _ _ _ _⟩⟩
 case round =>
  obtain ⟨j,hj,hgk,rfl,HB,HR⟩:=hrel
  by_cases hjl : j < (seenL l0).length
  ·obtain ⟨g2,rfl⟩ : ∃ g2,gk = g2 + 1:=⟨gk - 1,by omega⟩
   have hjz : (j : Int) < ((seenL l0).length : Int):=by omega
   have hj0 : (0 : Int) ≤ (j : Int):=by omega
   obtain ⟨ad7,rfl,y0,y1,y2⟩:=at_Elem (Kd.C_below HCS.out HB.out) (j : Int) hj0 hjz
   simp only [Int.toNat_natCast,rd_Elem_nat _ _ hjl] at y0 y1 y2
   have hmem : (seenL l0)[j] ∈ ordL l0:=(seen_mem.1 (List.getElem_mem hjl)).1
   have hat:=At_ok HROW.out hmem
   have htk : ((seenL l0).take (j + 1)).map (atR l0) = ((seenL l0).take j).map (atR l0) ++ [atR l0 (seenL l0)[j]]:=by rw [List.take_succ_eq_append_getElem hjl,List.map_append]; rfl
   have HTK:=Aside0.mk htk
   clear htk
   generalize hxe : (seenL l0)[j] = x at y0 y1 y2 hat HTK
   generalize atR l0 x = rv at hat HTK
   have hal : Below wr.heap.size wr (wr.alloc (.cells #[.int .i64 x.f0, .int .i64 x.f1, .int .i64 x.f2] 36)):=below_alloc (Below.refl _ _) _
   have hbw : Below wS.heap.size wS (wr.alloc (.cells #[.int .i64 x.f0, .int .i64 x.f1, .int .i64 x.f2] 36)):=below_step HB.out hal
   have HAT:=Aside0.mk (doc_At.calls A0 c0 l0 x.f0 x.f1 x.f2 rv _ (Kd.C_below HR0.out (below_step HBS.out hbw)) HC0.out hat)
   have HB2:=Aside0.mk hbw
   have HR2:=Aside0.mk (Kd.R_below HR.out hal)
   clear hal hbw hat hxe hmem HB HR
   go_wp2_with fail
   refine HAT.out.mono ?_
   rintro e w5 ⟨rfl,hb5⟩
   have HB5:=Aside0.mk (below_step HB2.out hb5)
   have HR5:=Aside0.mk (Kd.R_below HR2.out hb5)
   clear hb5 HB2 HR2 HAT
   have hl200 : (((seenL l0).take j).map (atR l0)).length ≤ 200:=by rw [List.length_map,List.length_take]; have:=HLEN.out; omega
   have hsz5:=HB5.out.size
   have hl2:=HLEN.out
   go_wp2_with (first | ((with_reducible refine gate_builtin (b:=.append) (xs:=#[.tmp 13, .tmp 17]) rfl ?_); at_builtin; refine Kd.R_append (Kd.int .i32) (w0:=wS) wS.heap.size rfl (.tmp 13) (.tmp 17) 83 21 (.int .i32 0) 4 rfl Try.underlying83 infoI32 rfl (by decide) (by omega) u3 (((seenL l0).take j).map (atR l0)) rv [.int .i32 rv] (fun _ => True) (fun _ => False) rfl rfl ?aP (fun _ hk => hk.elim) ?aF ?aO ?aB ?aS ?aL ?_; (case aP => exact rfl); (case aB => exact HB5.out); (case aF => exact (fun _ _ => trivial)); (case aO => exact HR5.out); (case aS => exact hsz5); (case aL => omega); intro v1 w6 ho hb hg hat; have HO:=Aside0.mk ho; have HBB:=Aside0.mk hb; clear ho hb hg hat))
   go_roundg g2
   case measure => omega
   case rel => exact ⟨j + 1,by omega,by omega,by go_num,HBB,⟨by rw [HTK.out]; exact HO.out⟩⟩
  ·obtain rfl : j = (seenL l0).length:=by omega
   have hjz : ¬ ((seenL l0).length : Int) < ((seenL l0).length : Int):=by omega
   rw [List.take_length] at HR
   obtain ⟨AR,cR,rfl,hcR,hCR⟩:=Kd.R_reads HR.out
   have hcv : ∀ v,(convert 83 9 (.slice AR ((seenL l0).map (atR l0)).length cR)).run Try.prog wr = .ok v wr → v = .string (plainR l0) → True:=fun _ _ _ => trivial
   have hcv : (convert 83 9 (.slice AR ((seenL l0).map (atR l0)).length cR)).run Try.prog wr = .ok (.string (plainR l0)) wr:=by
    unfold plainR
    cases AR with
    | none =>
     cases hz : (seenL l0).map (atR l0) with
     | nil => exact run_convert_runes_nil wr _ _ 21 _ _ hrs hri hru
     | cons a b =>
      rw [hz] at hCR
      obtain ⟨ad,e,_⟩:=Kd.at_int hCR 0 (Int.le_refl _) (by simp)
      cases e
    | some ad =>
     have:=run_convert_runes (P:=Try.prog) wr 83 9 21 ad ((seenL l0).map (atR l0)).length cR ((seenL l0).map (atR l0)) (Nat.le_refl _) hrs hri hru (fun q hq => by
      obtain ⟨ad',e,hc⟩:=Kd.at_int hCR (q : Int) (by omega) (by omega)
      injection e with e
      subst e
      rw [Int.toNat_natCast] at hc
      rw [hc]; unfold rd; rw [Int.toNat_natCast])
     rw [List.take_length] at this
     exact this
   have HBE:=Aside0.mk (below_step HBS.out HB.out)
   clear hcR hCR HR HB
   generalize ((seenL l0).map (atR l0)).length = nn at hcv
   go_wp2
   go_ret
   exact ⟨rfl,HBE.out⟩
end Go.Proofs.Ytonoaflfobajcaa.L
end

section
namespace Go.Proofs.Ytonoaflfobajcaa.L
open Go.RowKit Go.Proofs.YtonoaflfobajcaaW.PrintWords Go.Proofs.YtonoaflfobajcaaW.PrintLast Go.Proofs.YtonoaflfobajcaaW.PrintMore
attribute [local go_sem] max2_int min2_int max_two min_two max_three min_three max_four min_four
set_option linter.unusedVariables false
set_option linter.unusedSimpArgs false
def doc_Text.f (l0 : List (SOp)) : Option (ByteArray × Int):=(tree_May.f l0).bind fun t181 => (if t181 = true then ((doc_Plain.f l0).bind fun t182 => (some (t182,0))) else (some ((⟨#[]⟩ : ByteArray),1)))
set_option maxHeartbeats 8000000 in
set_option maxRecDepth 100000 in
theorem doc_Text.calls (A0 : Option Addr) (c0 : Nat) (l0 : List (SOp)) (r1 : ByteArray) (r2 : Int) (w : World) (hr0 : Kd.C kOp w A0 l0.length l0) (hc0 : l0.length ≤ c0) (h : doc_Text.f l0 = some (r1,r2)) :
  Calls Try.prog 7 #[.slice A0 l0.length c0] w fun e w' => e = .returned (.tuple #[.string r1, .int .i64 r2]) ∧ Below w.heap.size w w':=by
 have HR0:=Aside0.mk hr0
 have HC0:=Aside0.mk hc0
 clear hr0 hc0
 have HB:=Aside0.mk (Below.refl w.heap.size w)
 unfold doc_Text.f at h; have H:=h
 clear h
 obtain ⟨t181,A2,H⟩:=bE H
 by_cases c3 : t181 = true
 ·subst c3
  rw [if_pos rfl] at H
  obtain ⟨t182,A4,H⟩:=bE H
  simp only [Option.some.injEq,Prod.mk.injEq] at H
  obtain ⟨rfl,rfl⟩:=H
  go_enter Try.func7,Try.ntmps7
  go_wp2_with (first | ((with_reducible refine gate_callee (f:=27) rfl ?_); refine gl (some 5) Try.func27 #[.slice A0 l0.length c0] (h := ?_); (with_reducible refine (tree_May.calls _ _ l0 true _ ?side1 ?side2 A2.out).mono ?_); (case side1 => repeat (first | exact HR0.out | (with_reducible refine Kd.C_alloc ?_ _) | (with_reducible refine Kd.C_drewN ?_ _) | (with_reducible refine Kd.C_drew ?_))); (case side2 => exact HC0.out); rintro e w5 ⟨rfl,hb⟩; refine ⟨_,rfl, ?_⟩; replace HB:=bs HB hb; clear hb) | ((with_reducible refine gate_callee (f:=28) rfl ?_); refine gl (some 8) Try.func28 #[.slice A0 l0.length c0] (h := ?_); (with_reducible refine (doc_Plain.calls _ _ l0 t182 _ ?side1 ?side2 A4.out).mono ?_); (case side1 => exact cb HR0 HB); (case side2 => exact HC0.out); rintro e w6 ⟨rfl,hb⟩; refine ⟨_,rfl, ?_⟩; replace HB:=bs HB hb; clear hb))
  go_ret2
  exact ⟨re,bw HB⟩
 replace c3:=Bool.eq_false_iff.mpr c3
 subst c3
 rw [if_neg nft] at H
 simp only [Option.some.injEq,Prod.mk.injEq] at H
 obtain ⟨rfl,rfl⟩:=H
 go_enter Try.func7,Try.ntmps7
 go_wp2_with (first | ((with_reducible refine gate_callee (f:=27) rfl ?_); refine gl (some 5) Try.func27 #[.slice A0 l0.length c0] (h := ?_); (with_reducible refine (tree_May.calls _ _ l0 false _ ?side1 ?side2 A2.out).mono ?_); (case side1 => repeat (first | exact HR0.out | (with_reducible refine Kd.C_alloc ?_ _) | (with_reducible refine Kd.C_drewN ?_ _) | (with_reducible refine Kd.C_drew ?_))); (case side2 => exact HC0.out); rintro e w7 ⟨rfl,hb⟩; refine ⟨_,rfl, ?_⟩; replace HB:=bs HB hb; clear hb))
 go_ret2
 exact ⟨re,bw HB⟩
def w6_num.f (a0 : Int) : Option (Int):=some a0
set_option maxHeartbeats 8000000 in
set_option maxRecDepth 100000 in
theorem w6_num.calls (a0 : Int) (r : Int) (w : World) (h : w6_num.f a0 = some r) :
  Calls Try.prog 8 #[.int .i64 a0] w fun e w' => e = .returned (.int .i64 r) ∧ Drawn0 w w':=by
 unfold w6_num.f at h; have H:=h
 clear h
 obtain rfl:=Option.some.inj H
 go_enter Try.func8,Try.ntmps8
 go_wp2
 go_ret
 exact ⟨rf,by repeat (first | exact Drawn0.refl _ | apply Drawn0.step)⟩
def doc_Edit.f (l0 : List (SOp)) (a1 : Int) (a2 : Int) : Option (Int × Int):=(tree_May.f l0).bind fun t183 => (if t183 = true then ((tree_Find.f l0 a1 a2).bind fun t184 => (if t184 < 0 then (some (0,3)) else (if 0 ≤ t184 then (if t184 < (l0.length : Int) then (if ((rd_Op l0 t184).f2) = 1 then (some (t184,0)) else (some (0,3))) else (none)) else (none)))) else (some (0,1)))
set_option maxHeartbeats 8000000 in
set_option maxRecDepth 100000 in
theorem doc_Edit.calls (A0 : Option Addr) (c0 : Nat) (l0 : List (SOp)) (a1 : Int) (a2 : Int) (r1 : Int) (r2 : Int) (w : World) (hr0 : Kd.C kOp w A0 l0.length l0) (hc0 : l0.length ≤ c0) (h : doc_Edit.f l0 a1 a2 = some (r1,r2)) :
  Calls Try.prog 29 #[.slice A0 l0.length c0, .int .i64 a1, .int .i64 a2] w fun e w' => e = .returned (.tuple #[.int .i64 r1, .int .i64 r2]) ∧ Below w.heap.size w w':=by
 have HR0:=Aside0.mk hr0
 have HC0:=Aside0.mk hc0
 clear hr0 hc0
 have HB:=Aside0.mk (Below.refl w.heap.size w)
 unfold doc_Edit.f at h; have H:=h
 clear h
 obtain ⟨t183,A4,H⟩:=bE H
 by_cases c5 : t183 = true; rotate_left
 ·replace c5:=Bool.eq_false_iff.mpr c5
  subst c5
  rw [if_neg nft] at H
  simp only [Option.some.injEq,Prod.mk.injEq] at H
  obtain ⟨rfl,rfl⟩:=H
  go_enter Try.func29,Try.ntmps29
  go_wp2_with (first | ((with_reducible refine gate_callee (f:=27) rfl ?_); refine gl (some 10) Try.func27 #[.slice A0 l0.length c0] (h := ?_); (with_reducible refine (tree_May.calls _ _ l0 false _ ?side1 ?side2 A4.out).mono ?_); (case side1 => repeat (first | exact HR0.out | (with_reducible refine Kd.C_alloc ?_ _) | (with_reducible refine Kd.C_drewN ?_ _) | (with_reducible refine Kd.C_drew ?_))); (case side2 => exact HC0.out); rintro e w17 ⟨rfl,hb⟩; refine ⟨_,rfl, ?_⟩; replace HB:=bs HB hb; clear hb))
  go_ret2
  exact ⟨re,bw HB⟩
 subst c5
 rw [if_pos rfl] at H
 obtain ⟨t184,A6,H⟩:=bE H
 by_cases c7 : t184 < 0
 ·rw [if_pos c7] at H
  have c7b0:=decide_eq_true c7
  clear c7
  simp only [Option.some.injEq,Prod.mk.injEq] at H
  obtain ⟨rfl,rfl⟩:=H
  go_enter Try.func29,Try.ntmps29
  go_wp2_with (first | ((with_reducible refine gate_callee (f:=27) rfl ?_); refine gl (some 10) Try.func27 #[.slice A0 l0.length c0] (h := ?_); (with_reducible refine (tree_May.calls _ _ l0 true _ ?side1 ?side2 A4.out).mono ?_); (case side1 => repeat (first | exact HR0.out | (with_reducible refine Kd.C_alloc ?_ _) | (with_reducible refine Kd.C_drewN ?_ _) | (with_reducible refine Kd.C_drew ?_))); (case side2 => exact HC0.out); rintro e w8 ⟨rfl,hb⟩; refine ⟨_,rfl, ?_⟩; replace HB:=bs HB hb; clear hb) | ((with_reducible refine gate_callee (f:=33) rfl ?_); refine gl (some 15) Try.func33 #[.slice A0 l0.length c0, .int .i64 a1, .int .i64 a2] (h := ?_); (with_reducible refine (tree_Find.calls _ _ l0 a1 a2 t184 _ ?side1 ?side2 A6.out).mono ?_); (case side1 => exact cb HR0 HB); (case side2 => exact HC0.out); rintro e w9 ⟨rfl,hb⟩; refine ⟨_,rfl, ?_⟩; replace HB:=bs HB hb; clear hb))
  go_ret2
  exact ⟨re,bw HB⟩
 rw [if_neg c7] at H
 have c7b0:=decide_eq_false c7
 clear c7
 by_cases c10 : 0 ≤ t184; rotate_left
 ·rw [if_neg c10] at H
  exact absurd H (by simp)
 rw [if_pos c10] at H
 have c10b0:=decide_eq_true c10
 clear c10
 by_cases c11 : t184 < (l0.length : Int); rotate_left
 ·rw [if_neg c11] at H
  exact absurd H (by simp)
 rw [if_pos c11] at H
 have c11b0:=decide_eq_true c11
 clear c11
 by_cases c12 : ((rd_Op l0 t184).f2) = 1
 ·rw [if_pos c12] at H
  obtain ⟨c12b0,c12b1⟩:=bT c12
  clear c12
  simp only [Option.some.injEq,Prod.mk.injEq] at H
  obtain ⟨rfl,rfl⟩:=H
  go_enter Try.func29,Try.ntmps29
  go_wp2_with (first | ((with_reducible refine gate_callee (f:=27) rfl ?_); refine gl (some 10) Try.func27 #[.slice A0 l0.length c0] (h := ?_); (with_reducible refine (tree_May.calls _ _ l0 true _ ?side1 ?side2 A4.out).mono ?_); (case side1 => repeat (first | exact HR0.out | (with_reducible refine Kd.C_alloc ?_ _) | (with_reducible refine Kd.C_drewN ?_ _) | (with_reducible refine Kd.C_drew ?_))); (case side2 => exact HC0.out); rintro e w13 ⟨rfl,hb⟩; refine ⟨_,rfl, ?_⟩; replace HB:=bs HB hb; clear hb) | ((with_reducible refine gate_callee (f:=33) rfl ?_); refine gl (some 15) Try.func33 #[.slice A0 l0.length c0, .int .i64 a1, .int .i64 a2] (h := ?_); (with_reducible refine (tree_Find.calls _ _ l0 a1 a2 t184 _ ?side1 ?side2 A6.out).mono ?_); (case side1 => exact cb HR0 HB); (case side2 => exact HC0.out); rintro e w14 ⟨rfl,hb⟩; refine ⟨_,rfl, ?_⟩; replace HB:=bs HB hb; clear hb; have p185 : 0 ≤ (t184 : Int):=od; have q185 : t184 < (l0.length : Int):=od; obtain ⟨ad185,A185_7,c185_7,e185,hx185_0,hx185_1,hx185_2,hx185_3,hx185_4,hx185_5,hx185_6,hx185_7,hx185_8,hx185_9,hx185_10,hl185_7,hi185_7⟩:=at_Op HR0.out t184 p185 q185; cases e185; replace hx185_0:=cl HB hx185_0; replace hx185_1:=cl HB hx185_1; replace hx185_2:=cl HB hx185_2; replace hx185_3:=cl HB hx185_3; replace hx185_4:=cl HB hx185_4; replace hx185_5:=cl HB hx185_5; replace hx185_6:=cl HB hx185_6; replace hx185_7:=cl HB hx185_7; replace hx185_8:=cl HB hx185_8; replace hx185_9:=cl HB hx185_9; replace hx185_10:=cl HB hx185_10; have HR185_7:=Aside0.mk hi185_7; have HC185_7:=Aside0.mk hl185_7; clear hi185_7 hl185_7; replace p185:=eq_true p185; replace q185:=eq_true q185))
  go_ret2
  exact ⟨re,bw HB⟩
 rw [if_neg c12] at H
 obtain ⟨c12b0,c12b1⟩:=bF c12
 simp only [Option.some.injEq,Prod.mk.injEq] at H
 obtain ⟨rfl,rfl⟩:=H
 go_enter Try.func29,Try.ntmps29
 go_wp2_with (first | ((with_reducible refine gate_callee (f:=27) rfl ?_); refine gl (some 10) Try.func27 #[.slice A0 l0.length c0] (h := ?_); (with_reducible refine (tree_May.calls _ _ l0 true _ ?side1 ?side2 A4.out).mono ?_); (case side1 => repeat (first | exact HR0.out | (with_reducible refine Kd.C_alloc ?_ _) | (with_reducible refine Kd.C_drewN ?_ _) | (with_reducible refine Kd.C_drew ?_))); (case side2 => exact HC0.out); rintro e w15 ⟨rfl,hb⟩; refine ⟨_,rfl, ?_⟩; replace HB:=bs HB hb; clear hb) | ((with_reducible refine gate_callee (f:=33) rfl ?_); refine gl (some 15) Try.func33 #[.slice A0 l0.length c0, .int .i64 a1, .int .i64 a2] (h := ?_); (with_reducible refine (tree_Find.calls _ _ l0 a1 a2 t184 _ ?side1 ?side2 A6.out).mono ?_); (case side1 => exact cb HR0 HB); (case side2 => exact HC0.out); rintro e w16 ⟨rfl,hb⟩; refine ⟨_,rfl, ?_⟩; replace HB:=bs HB hb; clear hb; have p185 : 0 ≤ (t184 : Int):=od; have q185 : t184 < (l0.length : Int):=od; obtain ⟨ad185,A185_7,c185_7,e185,hx185_0,hx185_1,hx185_2,hx185_3,hx185_4,hx185_5,hx185_6,hx185_7,hx185_8,hx185_9,hx185_10,hl185_7,hi185_7⟩:=at_Op HR0.out t184 p185 q185; cases e185; replace hx185_0:=cl HB hx185_0; replace hx185_1:=cl HB hx185_1; replace hx185_2:=cl HB hx185_2; replace hx185_3:=cl HB hx185_3; replace hx185_4:=cl HB hx185_4; replace hx185_5:=cl HB hx185_5; replace hx185_6:=cl HB hx185_6; replace hx185_7:=cl HB hx185_7; replace hx185_8:=cl HB hx185_8; replace hx185_9:=cl HB hx185_9; replace hx185_10:=cl HB hx185_10; have HR185_7:=Aside0.mk hi185_7; have HC185_7:=Aside0.mk hl185_7; clear hi185_7 hl185_7; replace p185:=eq_true p185; replace q185:=eq_true q185))
 go_ret2
 exact ⟨re,bw HB⟩
def doc_Count.f (k : Nat) (l0 : List (SOp)) (a1 : Int) (a2 : Int) : Option (Int × Int):=(doc_Edit.f l0 a1 a2).bind fun bt186 => (if bt186.2 = 0 then ((doc_Counts.f k l0).bind fun t188 => (if 0 ≤ bt186.1 then (if bt186.1 < (t188.length : Int) then (some (rd t188 bt186.1,0)) else (none)) else (none))) else (some (0,bt186.2)))
set_option maxHeartbeats 8000000 in
set_option maxRecDepth 100000 in
theorem doc_Count.calls (k : Nat) (A0 : Option Addr) (c0 : Nat) (l0 : List (SOp)) (a1 : Int) (a2 : Int) (r1 : Int) (r2 : Int) (w : World) (hr0 : Kd.C kOp w A0 l0.length l0) (hc0 : l0.length ≤ c0) (h : doc_Count.f k l0 a1 a2 = some (r1,r2)) :
  Calls Try.prog 9 #[.slice A0 l0.length c0, .int .i64 a1, .int .i64 a2] w fun e w' => e = .returned (.tuple #[.int .i64 r1, .int .i64 r2]) ∧ Below w.heap.size w w':=by
 have HR0:=Aside0.mk hr0
 have HC0:=Aside0.mk hc0
 clear hr0 hc0
 have HB:=Aside0.mk (Below.refl w.heap.size w)
 unfold doc_Count.f at h; have H:=h
 clear h
 obtain ⟨⟨t186,t187⟩,A4,H⟩:=bE H
 try dsimp only at H
 by_cases c5 : t187 = 0; rotate_left
 ·rw [if_neg c5] at H
  obtain ⟨c5b0,c5b1⟩:=bF c5
  simp only [Option.some.injEq,Prod.mk.injEq] at H
  obtain ⟨rfl,rfl⟩:=H
  go_enter Try.func9,Try.ntmps9
  go_wp2_with (first | ((with_reducible refine gate_callee (f:=29) rfl ?_); refine gl (some 14) Try.func29 #[.slice A0 l0.length c0, .int .i64 a1, .int .i64 a2] (h := ?_); (with_reducible refine (doc_Edit.calls _ _ l0 a1 a2 t186 t187 _ ?side1 ?side2 A4.out).mono ?_); (case side1 => repeat (first | exact HR0.out | (with_reducible refine Kd.C_alloc ?_ _) | (with_reducible refine Kd.C_drewN ?_ _) | (with_reducible refine Kd.C_drew ?_))); (case side2 => exact HC0.out); rintro e w12 ⟨rfl,hb⟩; refine ⟨_,rfl, ?_⟩; replace HB:=bs HB hb; clear hb))
  go_ret2
  exact ⟨re,bw HB⟩
 rw [if_pos c5] at H
 obtain ⟨c5b0,c5b1⟩:=bT c5
 clear c5
 obtain ⟨t188,A6,H⟩:=bE H
 by_cases c7 : 0 ≤ t186; rotate_left
 ·rw [if_neg c7] at H
  exact absurd H (by simp)
 rw [if_pos c7] at H
 have c7b0:=decide_eq_true c7
 clear c7
 by_cases c8 : t186 < (t188.length : Int); rotate_left
 ·rw [if_neg c8] at H
  exact absurd H (by simp)
 rw [if_pos c8] at H
 have c8b0:=decide_eq_true c8
 clear c8
 simp only [Option.some.injEq,Prod.mk.injEq] at H
 obtain ⟨rfl,rfl⟩:=H
 go_enter Try.func9,Try.ntmps9
 go_wp2_with (first | ((with_reducible refine gate_callee (f:=29) rfl ?_); refine gl (some 14) Try.func29 #[.slice A0 l0.length c0, .int .i64 a1, .int .i64 a2] (h := ?_); (with_reducible refine (doc_Edit.calls _ _ l0 a1 a2 t186 t187 _ ?side1 ?side2 A4.out).mono ?_); (case side1 => repeat (first | exact HR0.out | (with_reducible refine Kd.C_alloc ?_ _) | (with_reducible refine Kd.C_drewN ?_ _) | (with_reducible refine Kd.C_drew ?_))); (case side2 => exact HC0.out); rintro e w9 ⟨rfl,hb⟩; refine ⟨_,rfl, ?_⟩; replace HB:=bs HB hb; clear hb) | ((with_reducible refine gate_callee (f:=30) rfl ?_); refine gl (some 21) Try.func30 #[.slice A0 l0.length c0] (h := ?_); (with_reducible refine (doc_Counts.calls k _ _ l0 t188 _ ?side1 ?side2 A6.out).mono ?_); (case side1 => exact cb HR0 HB); (case side2 => exact HC0.out); rintro e w10 ⟨v189,rfl,ho0,hb⟩; refine ⟨_,rfl, ?_⟩; have HO190:=Aside0.mk (Kd.R_lower ho0 (below_size (bw HB))); replace HB:=bs HB hb; clear hb; clear ho0; obtain ⟨Ao11,co11,eo11⟩:=Kd.R_slice HO190.out; subst eo11; have p191 : 0 ≤ (t186 : Int):=od; have q191 : t186 < (t188.length : Int):=od; obtain ⟨ad191,e191,hx191_0⟩:=Kd.at_int (Kd.R_reads' HO190.out).2.2 t186 p191 q191; cases e191; replace p191:=eq_true p191; replace q191:=eq_true q191))
 go_ret2
 exact ⟨re,bw HB⟩
def r0_CopyElems.l0 : Nat → List (SElem) → List (SElem) → Int → Option ((List (SElem)))
 | 0,_,_,_ => none
 | k + 1,x0,x3,x4 => if x4 < (x0.length : Int) then (if 0 ≤ x4 then (if x3.length < 5864062014805 then (r0_CopyElems.l0 k x0 (x3 ++ [(⟨(rd_Elem x0 x4).f0,(rd_Elem x0 x4).f1,(rd_Elem x0 x4).f2⟩ : SElem)]) (wrap64 (x4 + 1))) else (none)) else (none)) else (some x3)
def r0_CopyElems.f (k : Nat) (l0 : List (SElem)) : Option ((List (SElem))):=r0_CopyElems.l0 k l0 ([] : List (SElem)) 0
set_option maxHeartbeats 8000000 in
set_option maxRecDepth 100000 in
theorem r0_CopyElems.calls (k : Nat) (A0 : Option Addr) (c0 : Nat) (l0 : List (SElem)) (r : List (SElem)) (w : World) (hr0 : Kd.C kElem w A0 l0.length l0) (hc0 : l0.length ≤ c0) (h : r0_CopyElems.f k l0 = some r) :
  Calls Try.prog 51 #[.slice A0 l0.length c0] w fun e w' => ∃ v0_ : Value,e = .returned (v0_) ∧ Kd.R kElem 36 w' w.heap.size (fun _ => True) v0_ r ∧ Below w.heap.size w w':=by
 have hu36:=Try.underlying36
 have HR0:=Aside0.mk hr0
 have HC0:=Aside0.mk hc0
 clear hr0 hc0
 have HB:=Aside0.mk (Below.refl w.heap.size w)
 unfold r0_CopyElems.f at h; have H:=h
 clear h
 have H':=Aside0.mk H
 clear H
 go_enter Try.func51,Try.ntmps51
 go_wp2
 go_loopg [3,4] k (fun kq v3 v4 w' => ∃ (x3_1 : List (SElem)) (x4_1 : Int),v4 = .int .i64 x4_1 ∧ Aside0 (r0_CopyElems.l0 kq l0 x3_1 x4_1 = some r) ∧ Aside0 (kq ≤ k) ∧ Aside0 (Kd.R kElem 36 w' w.heap.size (fun _ => True) v3 x3_1) ∧ Aside0 (Below w.heap.size w w'))
 case atStart => exact ⟨(([] : List (SElem))),(0),rf,H',⟨Nat.le_refl _⟩,⟨by first | exact Kd.R_nil _ _ _ _ _ | exact Kd.N_nil _ _ _ _ _ | exact Kd.V_nil _ _ _ _ _ | exact Kd.Q_nil _ _ _ _ _ | exact Kd.S_nil _ _ _ _ _⟩,⟨bw HB⟩⟩
 case round =>
  clear H'
  obtain ⟨x3_1,x4_1,rfl,HA,HK1,HO_3,HB⟩:=hrel
  cases gk with
  | zero => exact absurd HA.out (by simp [r0_CopyElems.l0])
  | succ k1 =>
   have H:=HA.out
   clear HA
   simp only [r0_CopyElems.l0] at H
   by_cases c2 : x4_1 < (l0.length : Int); rotate_left
   ·rw [if_neg c2] at H
    have c2b0:=decide_eq_false c2
    clear c2
    obtain rfl:=Option.some.inj H
    go_wp2
    go_ret
    exact ⟨_,re,by (with_reducible repeat (first | apply Kd.R_alloc | apply Kd.R_drewN | apply Kd.R_drew)); exact HO_3.out,bw HB⟩
   rw [if_pos c2] at H
   have c2b0:=decide_eq_true c2
   clear c2
   by_cases c3 : 0 ≤ x4_1; rotate_left
   ·rw [if_neg c3] at H
    exact absurd H (by simp)
   rw [if_pos c3] at H
   have c3b0:=decide_eq_true c3
   clear c3
   by_cases c4 : x3_1.length < 5864062014805; rotate_left
   ·rw [if_neg c4] at H
    exact absurd H (by simp)
   rw [if_pos c4] at H
   have LMc4:=Aside0.mk c4
   clear c4
   obtain ⟨y193,hy193⟩ : ∃ y_ : List (SElem),y_ = (x3_1 ++ [(⟨(rd_Elem l0 x4_1).f0,(rd_Elem l0 x4_1).f1,(rd_Elem l0 x4_1).f2⟩ : SElem)]):=⟨_,rfl⟩
   first | rw [Option.bind_some,← hy193] at H | rw [← hy193] at H
   have Ny193:=Aside0.mk hy193
   clear hy193
   have H':=Aside0.mk H
   clear H
   have p192 : 0 ≤ (x4_1 : Int):=od
   have q192 : x4_1 < (l0.length : Int):=od
   obtain ⟨ad192,e192,hx192_0,hx192_1,hx192_2⟩:=at_Elem HR0.out x4_1 p192 q192
   cases e192
   replace hx192_0:=cl HB hx192_0
   replace hx192_1:=cl HB hx192_1
   replace hx192_2:=cl HB hx192_2
   replace p192:=eq_true p192
   replace q192:=eq_true q192
   go_wp2_with (first | ((with_reducible refine gate_builtin (b:=.append) (xs:=#[.tmp 11, .tmp 16]) rfl ?_); at_builtin; refine Kd.R_append kElem (w0:=w) w.heap.size rfl (.tmp 11) (.tmp 16) 23 36 (.agg #[(.int .i64 0),(.int .i64 0),(.int .i64 0)]) 24 rfl Try.underlying23 info36 rfl (by decide) (by omega) u3 x3_1 (⟨(rd_Elem l0 x4_1).f0,(rd_Elem l0 x4_1).f1,(rd_Elem l0 x4_1).f2⟩ : SElem) [.int .i64 ((rd_Elem l0 x4_1).f0), .int .i64 ((rd_Elem l0 x4_1).f1), .int .i64 ((rd_Elem l0 x4_1).f2)] (fun _ => True) (fun _ => False) rfl rfl ?aP (fun _ hk => hk.elim) ?aF ?aO ?aB ?aS ?aL ?_; (case aP => exact kElem_mkM _ _ _ (⟨(rd_Elem l0 x4_1).f0,(rd_Elem l0 x4_1).f1,(rd_Elem l0 x4_1).f2⟩ : SElem)); (case aB => exact (bw HB)); (case aF => exact (fun _ _ => trivial)); (case aO => exact (rk HO_3)); (case aS => exact (below_size (bw HB))); (case aL => have:=LMc4.out; omega); intro v194 w5 ho hb hg hat; rw [← Ny193.out] at ho; have n0_:=Aside0.mk (hb); have n1_:=Aside0.mk (ho); clear HB; clear HO_3; have HB:=n0_; have HO195:=n1_; clear n0_ n1_; clear ho hb hg hat))
   go_roundg k1
   case measure => have:=HK1.out; omega
   case rel => exact ⟨(y193),(wrap64 (x4_1 + 1)),rf,H',⟨by have:=HK1.out; omega⟩,⟨rk HO195⟩,⟨bw HB⟩⟩
def r0_CopyOp.f (k : Nat) (a0_0 : Int) (a0_1 : Int) (a0_2 : Int) (a0_3 : Int) (a0_4 : Int) (a0_5 : Int) (a0_6 : ByteArray) (l0_7 : List (SElem)) (a0_8 : Int) (a0_9 : Int) (a0_10 : Int) : Option (Int × Int × Int × Int × Int × Int × ByteArray × (List (SElem)) × Int × Int × Int):=(r0_CopyElems.f k l0_7).bind fun t199 => (some (a0_0,a0_1,a0_2,a0_3,a0_4,a0_5,a0_6,t199,a0_8,a0_9,a0_10))
set_option maxHeartbeats 8000000 in
set_option maxRecDepth 100000 in
theorem r0_CopyOp.calls (k : Nat) (a0_0 : Int) (a0_1 : Int) (a0_2 : Int) (a0_3 : Int) (a0_4 : Int) (a0_5 : Int) (a0_6 : ByteArray) (A0_7 : Option Addr) (c0_7 : Nat) (l0_7 : List (SElem)) (a0_8 : Int) (a0_9 : Int) (a0_10 : Int) (r1 : Int) (r2 : Int) (r3 : Int) (r4 : Int) (r5 : Int) (r6 : Int) (r7 : ByteArray) (r8 : List (SElem)) (r9 : Int) (r10 : Int) (r11 : Int) (w : World) (hr0_7 : Kd.C kElem w A0_7 l0_7.length l0_7) (hc0_7 : l0_7.length ≤ c0_7) (h : r0_CopyOp.f k a0_0 a0_1 a0_2 a0_3 a0_4 a0_5 a0_6 l0_7 a0_8 a0_9 a0_10 = some (r1,r2,r3,r4,r5,r6,r7,r8,r9,r10,r11)) :
  Calls Try.prog 31 #[.agg #[.int .i64 a0_0, .int .i64 a0_1, .int .i64 a0_2, .int .i64 a0_3, .int .i64 a0_4, .int .i64 a0_5, .string a0_6, .slice A0_7 l0_7.length c0_7, .int .i64 a0_8, .int .i64 a0_9, .int .i64 a0_10]] w fun e w' => ∃ v7_ : Value,e = .returned (.agg #[.int .i64 r1, .int .i64 r2, .int .i64 r3, .int .i64 r4, .int .i64 r5, .int .i64 r6, .string r7,v7_, .int .i64 r9, .int .i64 r10, .int .i64 r11]) ∧ Kd.R kElem 36 w' w.heap.size (fun _ => True) v7_ r8 ∧ Below w.heap.size w w':=by
 have hu38:=Try.underlying38
 have HR0_7:=Aside0.mk hr0_7
 have HC0_7:=Aside0.mk hc0_7
 clear hr0_7 hc0_7
 have HB:=Aside0.mk (Below.refl w.heap.size w)
 unfold r0_CopyOp.f at h; have H:=h
 clear h
 obtain ⟨t199,A2,H⟩:=bE H
 simp only [Option.some.injEq,Prod.mk.injEq] at H
 obtain ⟨rfl,rfl,rfl,rfl,rfl,rfl,rfl,rfl,rfl,rfl,rfl⟩:=H
 go_enter Try.func31,Try.ntmps31
 go_wp2_with (first | ((with_reducible refine gate_dst (N:=1) rfl ?_); refine bx 1 #[.int .i64 a0_0, .int .i64 a0_1, .int .i64 a0_2, .int .i64 a0_3, .int .i64 a0_4, .int .i64 a0_5, .string a0_6, .slice A0_7 l0_7.length c0_7, .int .i64 a0_8, .int .i64 a0_9, .int .i64 a0_10] 38 (h := ?_); intro gb196 hg w3 hbox hb; have BK196:=Aside0.mk (hbox); have GW196:=bz HB hg; have GE196:=bz HB hg; replace HB:=bs HB hb; clear hb hbox hg) | ((with_reducible refine gate_dst (N:=2) rfl ?_); refine bx 2 #[.int .i64 0, .int .i64 0, .int .i64 0, .int .i64 0, .int .i64 0, .int .i64 0, .string (⟨#[]⟩ : ByteArray), .slice none 0 0, .int .i64 0, .int .i64 0, .int .i64 0] 38 (h := ?_); intro gb197 hg w4 hbox hb; have BK197:=Aside0.mk (hbox); have GW197:=bz HB hg; have GE197:=bz HB hg; have NB196_197:=bn BK196 hg; have NB197_196:=bm BK196 hg; replace BK196:=bl BK196 hb; replace HB:=bs HB hb; clear hb hbox hg; have hnb5:=NB196_197.out; have hnc5:=NB197_196.out; obtain ⟨_,_,_,_,_,_,_,_,_,_,_,_,_,_,_,_,_,_,_,_,_,_⟩:=kc11 BK196) | ((with_reducible refine gate_dst (N:=3) rfl ?_); refine bx 3 #[.int .i64 0, .int .i64 0, .int .i64 0, .int .i64 0, .int .i64 0, .int .i64 0, .string (⟨#[]⟩ : ByteArray), .slice none 0 0, .int .i64 0, .int .i64 0, .int .i64 0] 38 (h := ?_); intro gb198 hg w7 hbox hb; have BK198:=Aside0.mk (hbox); have GW198:=bz HB hg; have GE198:=bz HB hg; have NB196_198:=bn BK196 hg; have NB198_196:=bm BK196 hg; have NB197_198:=bn BK197 hg; have NB198_197:=bm BK197 hg; replace BK196:=bl BK196 hb; replace BK197:=bl BK197 hb; replace HB:=bs HB hb; clear hb hbox hg; have hnb8:=NB198_196.out; have hnc8:=NB196_198.out; have hnb9:=NB198_197.out; have hnc9:=NB197_198.out; obtain ⟨_,_,_,_,_,_,_,_,_,_,_,_,_,_,_,_,_,_,_,_,_,_⟩:=kc11 BK198; obtain ⟨_,_,_,_,_,_,_,_,_,_,_,_,_,_,_,_,_,_,_,_,_,_⟩:=kc11 BK196) | ((with_reducible refine gate_callee (f:=51) rfl ?_); refine gl (some 7) Try.func51 #[.slice A0_7 l0_7.length c0_7] (h := ?_); (with_reducible refine (r0_CopyElems.calls k _ _ l0_7 t199 _ ?side1 ?side2 A2.out).mono ?_); (case side1 => exact Kd.C_below HR0_7.out (bw HB)); (case side2 => exact HC0_7.out); rintro e w12 ⟨v200,rfl,ho0,hb⟩; refine ⟨_,rfl, ?_⟩; have HO201:=Aside0.mk (Kd.R_lower ho0 (below_size (bw HB))); replace BK196:=bl BK196 hb; replace BK197:=bl BK197 hb; replace BK198:=Aside0.mk (blk_below (bp11 (kk BK198)) hb); replace HB:=bs HB hb; clear hb; clear ho0; obtain ⟨Ao13,co13,eo13⟩:=Kd.R_slice HO201.out; subst eo13; obtain ⟨_,_,_,_,_,_,_,_,_,_,_,_,_,_,_,_,_,_,_,_,_,_⟩:=kc11 BK198; obtain ⟨_,_,_,_,_,_,_,_,_,_,_,_,_,_,_,_,_,_,_,_,_,_⟩:=kc11 BK197))
 refine bodyPost_ret (results_cell_row rfl _ _ gb197 38 #[.int .i64 a0_0, .int .i64 a0_1, .int .i64 a0_2, .int .i64 a0_3, .int .i64 a0_4, .int .i64 a0_5, .string a0_6, .slice Ao13 t199.length co13, .int .i64 a0_8, .int .i64 a0_9, .int .i64 a0_10] (0,0) _ rfl (by (with_reducible repeat (first | refine blk_drewN ?_ _ | refine blk_drew ?_ | refine blk_alloc ?_ _)); refine blk_put (cs:=#[.int .i64 a0_0, .int .i64 a0_1, .int .i64 a0_2, .int .i64 a0_3, .int .i64 a0_4, .int .i64 a0_5, .string a0_6, .slice Ao13 t199.length co13, .int .i64 a0_8, .int .i64 a0_9, .int .i64 0]) ?_ 10 _ rfl; (with_reducible repeat (first | refine blk_drewN ?_ _ | refine blk_drew ?_ | refine blk_alloc ?_ _)); refine blk_put (cs:=#[.int .i64 a0_0, .int .i64 a0_1, .int .i64 a0_2, .int .i64 a0_3, .int .i64 a0_4, .int .i64 a0_5, .string a0_6, .slice Ao13 t199.length co13, .int .i64 a0_8, .int .i64 0, .int .i64 0]) ?_ 9 _ rfl; (with_reducible repeat (first | refine blk_drewN ?_ _ | refine blk_drew ?_ | refine blk_alloc ?_ _)); refine blk_put (cs:=#[.int .i64 a0_0, .int .i64 a0_1, .int .i64 a0_2, .int .i64 a0_3, .int .i64 a0_4, .int .i64 a0_5, .string a0_6, .slice Ao13 t199.length co13, .int .i64 0, .int .i64 0, .int .i64 0]) ?_ 8 _ rfl; (with_reducible repeat (first | refine blk_drewN ?_ _ | refine blk_drew ?_ | refine blk_alloc ?_ _)); refine blk_put (cs:=#[.int .i64 a0_0, .int .i64 a0_1, .int .i64 a0_2, .int .i64 a0_3, .int .i64 a0_4, .int .i64 a0_5, .string a0_6, .slice none 0 0, .int .i64 0, .int .i64 0, .int .i64 0]) ?_ 7 _ rfl; (with_reducible repeat (first | refine blk_drewN ?_ _ | refine blk_drew ?_ | refine blk_alloc ?_ _)); refine blk_put (cs:=#[.int .i64 a0_0, .int .i64 a0_1, .int .i64 a0_2, .int .i64 a0_3, .int .i64 a0_4, .int .i64 a0_5, .string (⟨#[]⟩ : ByteArray), .slice none 0 0, .int .i64 0, .int .i64 0, .int .i64 0]) ?_ 6 _ rfl; (with_reducible repeat (first | refine blk_drewN ?_ _ | refine blk_drew ?_ | refine blk_alloc ?_ _)); refine blk_put (cs:=#[.int .i64 a0_0, .int .i64 a0_1, .int .i64 a0_2, .int .i64 a0_3, .int .i64 a0_4, .int .i64 0, .string (⟨#[]⟩ : ByteArray), .slice none 0 0, .int .i64 0, .int .i64 0, .int .i64 0]) ?_ 5 _ rfl; (with_reducible repeat (first | refine blk_drewN ?_ _ | refine blk_drew ?_ | refine blk_alloc ?_ _)); refine blk_put (cs:=#[.int .i64 a0_0, .int .i64 a0_1, .int .i64 a0_2, .int .i64 a0_3, .int .i64 0, .int .i64 0, .string (⟨#[]⟩ : ByteArray), .slice none 0 0, .int .i64 0, .int .i64 0, .int .i64 0]) ?_ 4 _ rfl; (with_reducible repeat (first | refine blk_drewN ?_ _ | refine blk_drew ?_ | refine blk_alloc ?_ _)); refine blk_put (cs:=#[.int .i64 a0_0, .int .i64 a0_1, .int .i64 a0_2, .int .i64 0, .int .i64 0, .int .i64 0, .string (⟨#[]⟩ : ByteArray), .slice none 0 0, .int .i64 0, .int .i64 0, .int .i64 0]) ?_ 3 _ rfl; (with_reducible repeat (first | refine blk_drewN ?_ _ | refine blk_drew ?_ | refine blk_alloc ?_ _)); refine blk_put (cs:=#[.int .i64 a0_0, .int .i64 a0_1, .int .i64 0, .int .i64 0, .int .i64 0, .int .i64 0, .string (⟨#[]⟩ : ByteArray), .slice none 0 0, .int .i64 0, .int .i64 0, .int .i64 0]) ?_ 2 _ rfl; (with_reducible repeat (first | refine blk_drewN ?_ _ | refine blk_drew ?_ | refine blk_alloc ?_ _)); refine blk_put (cs:=#[.int .i64 a0_0, .int .i64 0, .int .i64 0, .int .i64 0, .int .i64 0, .int .i64 0, .string (⟨#[]⟩ : ByteArray), .slice none 0 0, .int .i64 0, .int .i64 0, .int .i64 0]) ?_ 1 _ rfl; (with_reducible repeat (first | refine blk_drewN ?_ _ | refine blk_drew ?_ | refine blk_alloc ?_ _)); refine blk_put (cs:=#[.int .i64 0, .int .i64 0, .int .i64 0, .int .i64 0, .int .i64 0, .int .i64 0, .string (⟨#[]⟩ : ByteArray), .slice none 0 0, .int .i64 0, .int .i64 0, .int .i64 0]) ?_ 0 _ rfl; (with_reducible repeat (first | refine blk_drewN ?_ _ | refine blk_drew ?_ | refine blk_alloc ?_ _)); refine blk_far ?_ NB197_198.out _; (with_reducible repeat (first | refine blk_drewN ?_ _ | refine blk_drew ?_ | refine blk_alloc ?_ _)); exact BK197.out) Try.underlying38 rfl (by kernel_rfl)) rfl ?_
 exact ⟨_,re,by (with_reducible repeat (first | apply Kd.R_alloc | apply Kd.R_drewN | apply Kd.R_drew)); exact Kd.R_mono (rf11 (Kd.R_far (p:=⟨gb198,7,none⟩) (Kd.R_types (Kd.R_types HO201.out BK198.out (by decide)) BK197.out (by decide)) (fun _ hk => hk.1.2) (.slice Ao13 t199.length co13))) (fun _ hk => trivial),bw HB⟩
def r0_CopyOps.l0 : Nat → List (SOp) → List (SOp) → Int → Option ((List (SOp)))
 | 0,_,_,_ => none
 | k + 1,x0,x3,x4 => if x4 < (x0.length : Int) then (if 0 ≤ x4 then ((r0_CopyOp.f k ((rd_Op x0 x4).f0) ((rd_Op x0 x4).f1) ((rd_Op x0 x4).f2) ((rd_Op x0 x4).f3.f0) ((rd_Op x0 x4).f3.f1) ((rd_Op x0 x4).f3.f2) ((rd_Op x0 x4).f4) ((rd_Op x0 x4).f5) ((rd_Op x0 x4).f6) ((rd_Op x0 x4).f7) ((rd_Op x0 x4).f8)).bind fun bt203 => (if x3.length < 1256584717458 then (r0_CopyOps.l0 k x0 (x3 ++ [(⟨bt203.1,bt203.2.1,bt203.2.2.1,(⟨bt203.2.2.2.1,bt203.2.2.2.2.1,bt203.2.2.2.2.2.1⟩ : SElem),bt203.2.2.2.2.2.2.1,bt203.2.2.2.2.2.2.2.1,bt203.2.2.2.2.2.2.2.2.1,bt203.2.2.2.2.2.2.2.2.2.1,bt203.2.2.2.2.2.2.2.2.2.2⟩ : SOp)]) (wrap64 (x4 + 1))) else (none))) else (none)) else (some x3)
def r0_CopyOps.f (k : Nat) (l0 : List (SOp)) : Option ((List (SOp))):=r0_CopyOps.l0 k l0 ([] : List (SOp)) 0
set_option maxHeartbeats 8000000 in
set_option maxRecDepth 100000 in
theorem r0_CopyOps.calls (k : Nat) (A0 : Option Addr) (c0 : Nat) (l0 : List (SOp)) (r : List (SOp)) (w : World) (hr0 : Kd.C kOp w A0 l0.length l0) (hc0 : l0.length ≤ c0) (h : r0_CopyOps.f k l0 = some r) :
  Calls Try.prog 10 #[.slice A0 l0.length c0] w fun e w' => ∃ v0_ : Value,e = .returned (v0_) ∧ Kd.S kOp 38 w' w.heap.size (fun _ => True) v0_ r ∧ Below w.heap.size w w':=by
 have hu38:=Try.underlying38
 have HR0:=Aside0.mk hr0
 have HC0:=Aside0.mk hc0
 clear hr0 hc0
 have HB:=Aside0.mk (Below.refl w.heap.size w)
 unfold r0_CopyOps.f at h; have H:=h
 clear h
 have H':=Aside0.mk H
 clear H
 go_enter Try.func10,Try.ntmps10
 go_wp2
 go_loopg [3,4] k (fun kq v3 v4 w' => ∃ (x3_1 : List (SOp)) (x4_1 : Int),v4 = .int .i64 x4_1 ∧ Aside0 (r0_CopyOps.l0 kq l0 x3_1 x4_1 = some r) ∧ Aside0 (kq ≤ k) ∧ Aside0 (Kd.S kOp 38 w' w.heap.size (fun _ => True) v3 x3_1) ∧ Aside0 (Below w.heap.size w w'))
 case atStart => exact ⟨(([] : List (SOp))),(0),rf,H',⟨Nat.le_refl _⟩,⟨by first | exact Kd.S_nil _ _ _ _ _ | exact Kd.N_nil _ _ _ _ _ | exact Kd.V_nil _ _ _ _ _ | exact Kd.Q_nil _ _ _ _ _ | exact Kd.R_nil _ _ _ _ _⟩,⟨bw HB⟩⟩
 case round =>
  clear H'
  obtain ⟨x3_1,x4_1,rfl,HA,HK1,HO_3,HB⟩:=hrel
  cases gk with
  | zero => exact absurd HA.out (by simp [r0_CopyOps.l0])
  | succ k1 =>
   have H:=HA.out
   clear HA
   simp only [r0_CopyOps.l0] at H
   by_cases c2 : x4_1 < (l0.length : Int); rotate_left
   ·rw [if_neg c2] at H
    have c2b0:=decide_eq_false c2
    clear c2
    obtain rfl:=Option.some.inj H
    go_wp2
    go_ret
    exact ⟨_,re,by (with_reducible repeat (first | apply Kd.S_alloc | apply Kd.S_drewN | apply Kd.S_drew)); exact HO_3.out,bw HB⟩
   rw [if_pos c2] at H
   have c2b0:=decide_eq_true c2
   clear c2
   by_cases c3 : 0 ≤ x4_1; rotate_left
   ·rw [if_neg c3] at H
    exact absurd H (by simp)
   rw [if_pos c3] at H
   have c3b0:=decide_eq_true c3
   clear c3
   obtain ⟨⟨t203,t204,t205,t206,t207,t208,t209,t210,t213,t214,t215⟩,A4,H⟩:=bE H
   try dsimp only at H
   by_cases c5 : x3_1.length < 1256584717458; rotate_left
   ·rw [if_neg c5] at H
    exact absurd H (by simp)
   rw [if_pos c5] at H
   have LMc5:=Aside0.mk c5
   clear c5
   obtain ⟨y216,hy216⟩ : ∃ y_ : List (SOp),y_ = (x3_1 ++ [(⟨t203,t204,t205,(⟨t206,t207,t208⟩ : SElem),t209,t210,t213,t214,t215⟩ : SOp)]):=⟨_,rfl⟩
   first | rw [Option.bind_some,← hy216] at H | rw [← hy216] at H
   have Ny216:=Aside0.mk hy216
   clear hy216
   have H':=Aside0.mk H
   clear H
   have p202 : 0 ≤ (x4_1 : Int):=od
   have q202 : x4_1 < (l0.length : Int):=od
   obtain ⟨ad202,A202_7,c202_7,e202,hx202_0,hx202_1,hx202_2,hx202_3,hx202_4,hx202_5,hx202_6,hx202_7,hx202_8,hx202_9,hx202_10,hl202_7,hi202_7⟩:=at_Op HR0.out x4_1 p202 q202
   cases e202
   replace hx202_0:=cl HB hx202_0
   replace hx202_1:=cl HB hx202_1
   replace hx202_2:=cl HB hx202_2
   replace hx202_3:=cl HB hx202_3
   replace hx202_4:=cl HB hx202_4
   replace hx202_5:=cl HB hx202_5
   replace hx202_6:=cl HB hx202_6
   replace hx202_7:=cl HB hx202_7
   replace hx202_8:=cl HB hx202_8
   replace hx202_9:=cl HB hx202_9
   replace hx202_10:=cl HB hx202_10
   have HR202_7:=Aside0.mk hi202_7
   have HC202_7:=Aside0.mk hl202_7
   clear hi202_7 hl202_7
   replace p202:=eq_true p202
   replace q202:=eq_true q202
   go_wp2_with (first | ((with_reducible refine gate_callee (f:=31) rfl ?_); refine gl (some 16) Try.func31 #[.agg #[.int .i64 ((rd_Op l0 x4_1).f0), .int .i64 ((rd_Op l0 x4_1).f1), .int .i64 ((rd_Op l0 x4_1).f2), .int .i64 ((rd_Op l0 x4_1).f3.f0), .int .i64 ((rd_Op l0 x4_1).f3.f1), .int .i64 ((rd_Op l0 x4_1).f3.f2), .string ((rd_Op l0 x4_1).f4), .slice A202_7 ((rd_Op l0 x4_1).f5).length c202_7, .int .i64 ((rd_Op l0 x4_1).f6), .int .i64 ((rd_Op l0 x4_1).f7), .int .i64 ((rd_Op l0 x4_1).f8)]] (h := ?_); (with_reducible refine (r0_CopyOp.calls k1 ((rd_Op l0 x4_1).f0) ((rd_Op l0 x4_1).f1) ((rd_Op l0 x4_1).f2) ((rd_Op l0 x4_1).f3.f0) ((rd_Op l0 x4_1).f3.f1) ((rd_Op l0 x4_1).f3.f2) ((rd_Op l0 x4_1).f4) _ _ ((rd_Op l0 x4_1).f5) ((rd_Op l0 x4_1).f6) ((rd_Op l0 x4_1).f7) ((rd_Op l0 x4_1).f8) t203 t204 t205 t206 t207 t208 t209 t210 t213 t214 t215 _ ?side1 ?side2 A4.out).mono ?_); (case side1 => exact cb HR202_7 HB); (case side2 => exact HC202_7.out); rintro e w6 ⟨v211,rfl,ho0,hb⟩; refine ⟨_,rfl, ?_⟩; have HO212:=Aside0.mk (Kd.R_lower ho0 (below_size (bw HB))); replace HO_3:=Aside0.mk (Kd.S_elder' (sk HO_3) (Kd.R_base ho0) hb); replace HB:=bs HB hb; clear hb; clear ho0; obtain ⟨Ao8,co8,eo8⟩:=Kd.R_slice HO212.out; subst eo8) | ((with_reducible refine gate_builtin (b:=.append) (xs:=#[.tmp 11, .tmp 17]) rfl ?_); at_builtin; refine Kd.S_append kOp (w0:=w) w.heap.size rfl (.tmp 11) (.tmp 17) 24 38 (.agg #[(.int .i64 0),(.int .i64 0),(.int .i64 0),(.int .i64 0),(.int .i64 0),(.int .i64 0),(.string ⟨#[]⟩),(.slice none 0 0),(.int .i64 0),(.int .i64 0),(.int .i64 0)]) 112 rfl Try.underlying24 info38 rfl (by decide) (by omega) u3 x3_1 (⟨t203,t204,t205,(⟨t206,t207,t208⟩ : SElem),t209,t210,t213,t214,t215⟩ : SOp) [.int .i64 t203, .int .i64 t204, .int .i64 t205, .int .i64 t206, .int .i64 t207, .int .i64 t208, .string t209, .slice Ao8 t210.length co8, .int .i64 t213, .int .i64 t214, .int .i64 t215] (fun _ => True) (fun k_ => some k_ = (.slice Ao8 t210.length co8 : Value).ownBlock) rfl rfl ?aP (fun k_ hk_ => ((Kd.R_mono (ok':=fun k_ => ((fun _ => True)) k_ ∧ some k_ ≠ (u3 : Value).ownBlock) (Kd.R_apart' (HO212.out) (Kd.S_typed HO_3.out) (by decide)) (fun k_ hk => ⟨trivial,hk.2⟩))).1 k_ hk_.symm) ?aF ?aO ?aB ?aS ?aL ?_; (case aP => exact kOp_mkM _ _ _ (⟨t203,t204,t205,(⟨t206,t207,t208⟩ : SElem),t209,t210,t213,t214,t215⟩ : SOp) (Kd.R_mono (Kd.R_tight rfl (Kd.R_mono (ok':=fun k_ => ((fun _ => True)) k_ ∧ some k_ ≠ (u3 : Value).ownBlock) (Kd.R_apart' (HO212.out) (Kd.S_typed HO_3.out) (by decide)) (fun k_ hk => ⟨trivial,hk.2⟩))) (fun _ h_ => h_))); (case aB => exact (bw HB)); (case aF => exact (fun _ _ => trivial)); (case aO => exact (by (with_reducible repeat (first | apply Kd.S_alloc | apply Kd.S_drewN | apply Kd.S_drew)); exact Kd.S_mono HO_3.out (fun k_ hk => ⟨trivial,fun e_ => hk.2 e_⟩))); (case aS => exact (below_size (bw HB))); (case aL => have:=LMc5.out; omega); intro v217 w7 ho hb hg hat; rw [← Ny216.out] at ho; have n0_:=Aside0.mk (hb); have n1_:=Aside0.mk (ho); clear HB; clear HO_3; clear HO212; have HB:=n0_; have HO218:=n1_; clear n0_ n1_; clear ho hb hg hat))
   go_roundg k1
   case measure => have:=HK1.out; omega
   case rel => exact ⟨(y216),(wrap64 (x4_1 + 1)),rf,H',⟨by have:=HK1.out; omega⟩,⟨sk HO218⟩,⟨bw HB⟩⟩
def doc_Effective.f (k : Nat) (l0 : List (SOp)) (a1 : Int) (a2 : Int) : Option (Bool × Int):=(doc_Count.f k l0 a1 a2).bind fun bt219 => (if bt219.2 = 0 then (some (((Int.tmod bt219.1 2) == 0),bt219.2)) else (some (false,bt219.2)))
set_option maxHeartbeats 8000000 in
set_option maxRecDepth 100000 in
theorem doc_Effective.calls (k : Nat) (A0 : Option Addr) (c0 : Nat) (l0 : List (SOp)) (a1 : Int) (a2 : Int) (r1 : Bool) (r2 : Int) (w : World) (hr0 : Kd.C kOp w A0 l0.length l0) (hc0 : l0.length ≤ c0) (h : doc_Effective.f k l0 a1 a2 = some (r1,r2)) :
  Calls Try.prog 11 #[.slice A0 l0.length c0, .int .i64 a1, .int .i64 a2] w fun e w' => e = .returned (.tuple #[.bool r1, .int .i64 r2]) ∧ Below w.heap.size w w':=by
 have HR0:=Aside0.mk hr0
 have HC0:=Aside0.mk hc0
 clear hr0 hc0
 have HB:=Aside0.mk (Below.refl w.heap.size w)
 unfold doc_Effective.f at h; have H:=h
 clear h
 obtain ⟨⟨t219,t220⟩,A4,H⟩:=bE H
 try dsimp only at H
 by_cases c5 : t220 = 0
 ·rw [if_pos c5] at H
  obtain ⟨c5b0,c5b1⟩:=bT c5
  clear c5
  simp only [Option.some.injEq,Prod.mk.injEq] at H
  obtain ⟨rfl,rfl⟩:=H
  go_enter Try.func11,Try.ntmps11
  go_wp2_with (first | ((with_reducible refine gate_callee (f:=9) rfl ?_); refine gl (some 14) Try.func9 #[.slice A0 l0.length c0, .int .i64 a1, .int .i64 a2] (h := ?_); (with_reducible refine (doc_Count.calls k _ _ l0 a1 a2 t219 t220 _ ?side1 ?side2 A4.out).mono ?_); (case side1 => repeat (first | exact HR0.out | (with_reducible refine Kd.C_alloc ?_ _) | (with_reducible refine Kd.C_drewN ?_ _) | (with_reducible refine Kd.C_drew ?_))); (case side2 => exact HC0.out); rintro e w6 ⟨rfl,hb⟩; refine ⟨_,rfl, ?_⟩; replace HB:=bs HB hb; clear hb))
  go_ret2
  exact ⟨re,bw HB⟩
 rw [if_neg c5] at H
 obtain ⟨c5b0,c5b1⟩:=bF c5
 simp only [Option.some.injEq,Prod.mk.injEq] at H
 obtain ⟨rfl,rfl⟩:=H
 go_enter Try.func11,Try.ntmps11
 go_wp2_with (first | ((with_reducible refine gate_callee (f:=9) rfl ?_); refine gl (some 14) Try.func9 #[.slice A0 l0.length c0, .int .i64 a1, .int .i64 a2] (h := ?_); (with_reducible refine (doc_Count.calls k _ _ l0 a1 a2 t219 t220 _ ?side1 ?side2 A4.out).mono ?_); (case side1 => repeat (first | exact HR0.out | (with_reducible refine Kd.C_alloc ?_ _) | (with_reducible refine Kd.C_drewN ?_ _) | (with_reducible refine Kd.C_drew ?_))); (case side2 => exact HC0.out); rintro e w7 ⟨rfl,hb⟩; refine ⟨_,rfl, ?_⟩; replace HB:=bs HB hb; clear hb))
 go_ret2
 exact ⟨re,bw HB⟩
end Go.Proofs.Ytonoaflfobajcaa.L
end
