/- Part 3 of the proof that for every argument the law OpOwn answers true: an op never needs itself; its elements are its own, in order; of two elements one is less, or they are the same. -/
import Derived.Test.YtonoaflfobajcaaZOO2
import Derived.Lib.SliceRun
import Derived.Shelf.SlSortCmp.WholeK
import Derived.Shelf.SlicesE.Clone
import Derived.Test.YtonoaflfobajcaaProg
section
namespace Go.Proofs.Ytonoaflfobajcaa.L
open Go.RowKit Go.Proofs.YtonoaflfobajcaaW.PrintWords Go.Proofs.YtonoaflfobajcaaW.PrintLast Go.Proofs.YtonoaflfobajcaaW.PrintMore
set_option linter.unusedVariables false
set_option linter.unusedSimpArgs false
set_option maxHeartbeats 40000000
set_option maxRecDepth 1000000
section
attribute [local go_sem] max2_int min2_int max_two min_two Qbj Qbi max_four min_four
attribute [local go_sem high] eqAElem
def op_edit.j0 : Nat -> Bool -> Int -> Int -> Int -> Int -> Int -> Int -> ByteArray -> List (SElem) -> Int -> Int -> Int -> Option (Bool)
 | 0,_,_,_,_,_,_,_,_,_,_,_,_ => none
 | k + 1,x34,x136000,x136001,x136002,x136003,x136004,x136005,x136006,x136007,x136008,x136009,x136010 => if x34 = true then (some false) else ((text_May.f x136006).bind fun t138 => (if t138 = true then ((op_Size.f x136000 x136001 x136002 x136003 x136004 x136005 x136006 x136007 x136008 x136009 x136010).bind fun t139 => (if t139 <= 12 then ((op_gone.f k x136000 x136001 x136002 x136003 x136004 x136005 x136006 x136007 x136008 x136009 x136010).bind fun t140 => (if t140 = true then (if x136008 = 0 then (if x136009 = 0 then (some (x136010 == 0)) else (some false)) else (some false)) else (some false))) else (some false))) else (some false)))
def op_edit.f (k : Nat) (a0_0 : Int) (a0_1 : Int) (a0_2 : Int) (a0_3 : Int) (a0_4 : Int) (a0_5 : Int) (a0_6 : ByteArray) (l0_7 : List (SElem)) (a0_8 : Int) (a0_9 : Int) (a0_10 : Int) : Option (Bool):=(op_IsElem.f a0_3 a0_4 a0_5).bind fun t136 => (if t136 = true then ((op_own.f a0_0 a0_1 a0_2 a0_3 a0_4 a0_5 a0_6 l0_7 a0_8 a0_9 a0_10 a0_3 a0_4 a0_5).bind fun t137 => (if t137 = true then (op_edit.j0 k true a0_0 a0_1 a0_2 a0_3 a0_4 a0_5 a0_6 l0_7 a0_8 a0_9 a0_10) else (if a0_6.toList = ([] : List UInt8) then (if (!(a0_3 == 0) || (!(a0_4 == 0) || (!(a0_5 == 0)))) = true then (op_edit.j0 k true a0_0 a0_1 a0_2 a0_3 a0_4 a0_5 a0_6 l0_7 a0_8 a0_9 a0_10) else (op_edit.j0 k ((l0_7.length : Int) == 0) a0_0 a0_1 a0_2 a0_3 a0_4 a0_5 a0_6 l0_7 a0_8 a0_9 a0_10)) else (op_edit.j0 k false a0_0 a0_1 a0_2 a0_3 a0_4 a0_5 a0_6 l0_7 a0_8 a0_9 a0_10)))) else (op_edit.j0 k true a0_0 a0_1 a0_2 a0_3 a0_4 a0_5 a0_6 l0_7 a0_8 a0_9 a0_10))
theorem op_edit.mono_l : ∀ k,(∀ y0 y1 y2 y3 y4 y5 y6 y7 y8 y9 y10 y11,LeO (op_edit.j0 k y0 y1 y2 y3 y4 y5 y6 y7 y8 y9 y10 y11) (op_edit.j0 (k + 1) y0 y1 y2 y3 y4 y5 y6 y7 y8 y9 y10 y11))
 | 0 => fun _ _ _ _ _ _ _ _ _ _ _ _ r h => by simp [op_edit.j0] at h
 | k + 1 => by
  have ih0:=op_edit.mono_l k
  ·intro y0 y1 y2 y3 y4 y5 y6 y7 y8 y9 y10 y11
   unfold op_edit.j0
   repeat' first
   | (with_reducible exact ih0 _ _ _ _ _ _ _ _ _ _ _ _)
   | (with_reducible exact op_gone.mono _ _ _ _ _ _ _ _ _ _ _ _)
   | (with_reducible exact LeO.refl _)
   | (with_reducible exact LeO.none _)
   | (with_reducible refine LeO.ite ?_ ?_)
   | (with_reducible refine LeO.bind ?_ (fun _ => ?_))
   | exact ih0 _ _ _ _ _ _ _ _ _ _ _ _
   | exact op_gone.mono _ _ _ _ _ _ _ _ _ _ _ _
   | exact LeO.none _
   | refine LeO.ite ?_ ?_
   | refine LeO.bind ?_ (fun _ => ?_)
theorem op_edit.mono : ∀ a0 a1 a2 a3 a4 a5 a6 a7 a8 a9 a10 k,LeO (op_edit.f k a0 a1 a2 a3 a4 a5 a6 a7 a8 a9 a10) (op_edit.f (k + 1) a0 a1 a2 a3 a4 a5 a6 a7 a8 a9 a10):=by
 intro a0 a1 a2 a3 a4 a5 a6 a7 a8 a9 a10 k
 have ih0:=op_edit.mono_l k
 unfold op_edit.f
 repeat' first
   | (with_reducible exact ih0 _ _ _ _ _ _ _ _ _ _ _ _)
   | (with_reducible exact op_gone.mono _ _ _ _ _ _ _ _ _ _ _ _)
   | (with_reducible exact LeO.refl _)
   | (with_reducible exact LeO.none _)
   | (with_reducible refine LeO.ite ?_ ?_)
   | (with_reducible refine LeO.bind ?_ (fun _ => ?_))
   | exact ih0 _ _ _ _ _ _ _ _ _ _ _ _
   | exact op_gone.mono _ _ _ _ _ _ _ _ _ _ _ _
   | exact LeO.none _
   | refine LeO.ite ?_ ?_
   | refine LeO.bind ?_ (fun _ => ?_)
theorem op_edit.calls (k : Nat) (a0_0 : Int) (a0_1 : Int) (a0_2 : Int) (a0_3 : Int) (a0_4 : Int) (a0_5 : Int) (a0_6 : ByteArray) (A0_7 : Option Addr) (c0_7 : Nat) (l0_7 : List (SElem)) (a0_8 : Int) (a0_9 : Int) (a0_10 : Int) (r : Bool) (w : World) (hr0_7 : Kd.C Qao w A0_7 l0_7.length l0_7) (hc0_7 : l0_7.length <= c0_7) (h : op_edit.f k a0_0 a0_1 a0_2 a0_3 a0_4 a0_5 a0_6 l0_7 a0_8 a0_9 a0_10 = some r) :
  Calls Try.prog 59 #[.agg #[.int .i64 a0_0, .int .i64 a0_1, .int .i64 a0_2, .int .i64 a0_3, .int .i64 a0_4, .int .i64 a0_5, .string a0_6, .slice A0_7 l0_7.length c0_7, .int .i64 a0_8, .int .i64 a0_9, .int .i64 a0_10]] w fun e w' => e = .returned (.bool r) /\ Below w.heap.size w w':=by
 have hu38:=Try.underlying38
 have hu36:=Try.underlying36
 have HR0_7:=Zz.k hr0_7
 have HC0_7:=Zz.k hc0_7
 clear hr0_7 hc0_7
 have HB:=Zz.k (Below.refl w.heap.size w)
 unfold op_edit.f at h; have H:=h
 clear h
 have HC2:=Zz.k H
 clear H
 go_enter Try.func59,Try.ntmps59
 go_upto_region 1 with (first | ((with_reducible refine Qad (N:=1) rfl ?_); (try (refine Qai (by rfl) ?_; dsimp only)); refine bx 1 #[.int .i64 a0_0, .int .i64 a0_1, .int .i64 a0_2, .int .i64 a0_3, .int .i64 a0_4, .int .i64 a0_5, .string a0_6, .slice A0_7 l0_7.length c0_7, .int .i64 a0_8, .int .i64 a0_9, .int .i64 a0_10] 38 (h := ?_); intro gb135 hg w3 hbox hb; have BK135:=Zz.k (hbox); have GW135:=bz HB hg; have GE135:=bz HB hg; replace HB:=bs HB hb; clear hb hbox hg))
 (try simp only [Act.put,List.setIfInBounds_toArray,List.set_cons_zero,List.set_cons_succ])
 go_cut [34] (fun v34 wc => ∃ (kq : Nat) (x34_1 : Bool),v34 = .bool x34_1 /\ Zz (op_edit.j0 kq x34_1 a0_0 a0_1 a0_2 a0_3 a0_4 a0_5 a0_6 l0_7 a0_8 a0_9 a0_10 = some r) /\ Zz (kq <= k) /\ Zz (wc.heap[gb135]? = some (.cells #[.int .i64 a0_0, .int .i64 a0_1, .int .i64 a0_2, .int .i64 a0_3, .int .i64 a0_4, .int .i64 a0_5, .string a0_6,(.slice A0_7 l0_7.length c0_7), .int .i64 a0_8, .int .i64 a0_9, .int .i64 a0_10] 38 (0,0))) /\ Zz (Below w.heap.size w wc))
 case first =>
  have H:=HC2.out
  clear HC2
  obtain ⟨t136,A4,H⟩:=bE H
  by_cases c5 : t136 = true; rotate_left
  ·replace c5:=Zf c5
   subst c5
   rw [if_neg nft] at H
   have H':=Zz.k H
   clear H
   obtain ⟨_,_,_,_,_,_,_,_,_,_,_,_,_,_,_,_,_,_,_,_,_,_⟩:=kc11 BK135
   go_wp2_with (first | ((with_reducible refine Qac (f:=73) rfl ?_); refine gl (some 5) Try.func73 #[.agg #[.int .i64 a0_3, .int .i64 a0_4, .int .i64 a0_5]] (h := ?_); (with_reducible refine (op_IsElem.calls a0_3 a0_4 a0_5 false _ A4.out).mono ?_); rintro e w30 ⟨rfl,hb⟩; refine ⟨_,rfl, ?_⟩; replace BK135:=bl BK135 hb; replace HB:=bs HB hb; clear hb))
   go_meet
   case rel => exact ⟨_,(true),rf,H',⟨by first | omega | exact Nat.le_refl _⟩,⟨kk BK135⟩,⟨bw HB⟩⟩
  subst c5
  rw [if_pos rfl] at H
  obtain ⟨t137,A6,H⟩:=bE H
  by_cases c7 : t137 = true
  ·subst c7
   rw [if_pos rfl] at H
   have H':=Zz.k H
   clear H
   obtain ⟨_,_,_,_,_,_,_,_,_,_,_,_,_,_,_,_,_,_,_,_,_,_⟩:=kc11 BK135
   go_wp2_with (first | ((with_reducible refine Qac (f:=73) rfl ?_); refine gl (some 5) Try.func73 #[.agg #[.int .i64 a0_3, .int .i64 a0_4, .int .i64 a0_5]] (h := ?_); (with_reducible refine (op_IsElem.calls a0_3 a0_4 a0_5 true _ A4.out).mono ?_); rintro e w9 ⟨rfl,hb⟩; refine ⟨_,rfl, ?_⟩; replace BK135:=bl BK135 hb; replace HB:=bs HB hb; clear hb; obtain ⟨_,_,_,_,_,_,_,_,_,_,_,_,_,_,_,_,_,_,_,_,_,_⟩:=kc11 BK135) | (go_at_call 74; (with_reducible refine (op_own.calls a0_0 a0_1 a0_2 a0_3 a0_4 a0_5 a0_6 _ _ l0_7 a0_8 a0_9 a0_10 a0_3 a0_4 a0_5 true _ ?side1 ?side2 A6.out).mono ?_); (case side1 => exact cb HR0_7 HB); (case side2 => exact HC0_7.out); rintro e w11 ⟨rfl,hb⟩; replace BK135:=bl BK135 hb; replace HB:=bs HB hb; clear hb))
   go_meet
   case rel => exact ⟨_,(true),rf,H',⟨by first | omega | exact Nat.le_refl _⟩,⟨kk BK135⟩,⟨bw HB⟩⟩
  replace c7:=Zf c7
  subst c7
  rw [if_neg nft] at H
  by_cases c12 : a0_6.toList = ([] : List UInt8); rotate_left
  ·rw [if_neg c12] at H
   obtain ⟨c12b0,c12b1⟩:=bF c12
   (first | rw [c12b0] | (simp only [i64_w,i32_w]; rw [c12b0]) | skip)
   have H':=Zz.k H
   clear H
   obtain ⟨_,_,_,_,_,_,_,_,_,_,_,_,_,_,_,_,_,_,_,_,_,_⟩:=kc11 BK135
   go_wp2_with (first | ((with_reducible refine Qac (f:=73) rfl ?_); refine gl (some 5) Try.func73 #[.agg #[.int .i64 a0_3, .int .i64 a0_4, .int .i64 a0_5]] (h := ?_); (with_reducible refine (op_IsElem.calls a0_3 a0_4 a0_5 true _ A4.out).mono ?_); rintro e w25 ⟨rfl,hb⟩; refine ⟨_,rfl, ?_⟩; replace BK135:=bl BK135 hb; replace HB:=bs HB hb; clear hb; obtain ⟨_,_,_,_,_,_,_,_,_,_,_,_,_,_,_,_,_,_,_,_,_,_⟩:=kc11 BK135) | (go_at_call 74; (with_reducible refine (op_own.calls a0_0 a0_1 a0_2 a0_3 a0_4 a0_5 a0_6 _ _ l0_7 a0_8 a0_9 a0_10 a0_3 a0_4 a0_5 false _ ?side1 ?side2 A6.out).mono ?_); (case side1 => exact cb HR0_7 HB); (case side2 => exact HC0_7.out); rintro e w27 ⟨rfl,hb⟩; replace BK135:=bl BK135 hb; replace HB:=bs HB hb; clear hb; obtain ⟨_,_,_,_,_,_,_,_,_,_,_,_,_,_,_,_,_,_,_,_,_,_⟩:=kc11 BK135))
   go_meet
   case rel => exact ⟨_,(false),rf,H',⟨by first | omega | exact Nat.le_refl _⟩,⟨kk BK135⟩,⟨bw HB⟩⟩
  rw [if_pos c12] at H
  obtain ⟨c12b0,c12b1⟩:=bT c12
  clear c12
  (first | rw [c12b0] | (simp only [i64_w,i32_w]; rw [c12b0]) | skip)
  by_cases c13 : (!(a0_3 == 0) || (!(a0_4 == 0) || (!(a0_5 == 0)))) = true
  ·rw [if_pos c13] at H
   have c13b0 : (!(a0_3 == 0) || (!(a0_4 == 0) || (!(a0_5 == 0)))) = true:=c13
   clear c13
   have H':=Zz.k H
   clear H
   obtain ⟨_,_,_,_,_,_,_,_,_,_,_,_,_,_,_,_,_,_,_,_,_,_⟩:=kc11 BK135
   go_wp2_with (first | ((with_reducible refine Qac (f:=73) rfl ?_); refine gl (some 5) Try.func73 #[.agg #[.int .i64 a0_3, .int .i64 a0_4, .int .i64 a0_5]] (h := ?_); (with_reducible refine (op_IsElem.calls a0_3 a0_4 a0_5 true _ A4.out).mono ?_); rintro e w15 ⟨rfl,hb⟩; refine ⟨_,rfl, ?_⟩; replace BK135:=bl BK135 hb; replace HB:=bs HB hb; clear hb; obtain ⟨_,_,_,_,_,_,_,_,_,_,_,_,_,_,_,_,_,_,_,_,_,_⟩:=kc11 BK135) | (go_at_call 74; (with_reducible refine (op_own.calls a0_0 a0_1 a0_2 a0_3 a0_4 a0_5 a0_6 _ _ l0_7 a0_8 a0_9 a0_10 a0_3 a0_4 a0_5 false _ ?side1 ?side2 A6.out).mono ?_); (case side1 => exact cb HR0_7 HB); (case side2 => exact HC0_7.out); rintro e w17 ⟨rfl,hb⟩; replace BK135:=bl BK135 hb; replace HB:=bs HB hb; clear hb; obtain ⟨_,_,_,_,_,_,_,_,_,_,_,_,_,_,_,_,_,_,_,_,_,_⟩:=kc11 BK135))
   go_meet
   case rel => exact ⟨_,(true),rf,H',⟨by first | omega | exact Nat.le_refl _⟩,⟨kk BK135⟩,⟨bw HB⟩⟩
  rw [if_neg c13] at H
  have c13b0 : (!(a0_3 == 0) || (!(a0_4 == 0) || (!(a0_5 == 0)))) = false:=by simpa using c13
  clear c13
  have H':=Zz.k H
  clear H
  obtain ⟨_,_,_,_,_,_,_,_,_,_,_,_,_,_,_,_,_,_,_,_,_,_⟩:=kc11 BK135
  go_wp2_with (first | ((with_reducible refine Qac (f:=73) rfl ?_); refine gl (some 5) Try.func73 #[.agg #[.int .i64 a0_3, .int .i64 a0_4, .int .i64 a0_5]] (h := ?_); (with_reducible refine (op_IsElem.calls a0_3 a0_4 a0_5 true _ A4.out).mono ?_); rintro e w20 ⟨rfl,hb⟩; refine ⟨_,rfl, ?_⟩; replace BK135:=bl BK135 hb; replace HB:=bs HB hb; clear hb; obtain ⟨_,_,_,_,_,_,_,_,_,_,_,_,_,_,_,_,_,_,_,_,_,_⟩:=kc11 BK135) | (go_at_call 74; (with_reducible refine (op_own.calls a0_0 a0_1 a0_2 a0_3 a0_4 a0_5 a0_6 _ _ l0_7 a0_8 a0_9 a0_10 a0_3 a0_4 a0_5 false _ ?side1 ?side2 A6.out).mono ?_); (case side1 => exact cb HR0_7 HB); (case side2 => exact HC0_7.out); rintro e w22 ⟨rfl,hb⟩; replace BK135:=bl BK135 hb; replace HB:=bs HB hb; clear hb; obtain ⟨_,_,_,_,_,_,_,_,_,_,_,_,_,_,_,_,_,_,_,_,_,_⟩:=kc11 BK135))
  go_meet
  case rel => exact ⟨_,(((l0_7.length : Int) == 0)),rf,H',⟨by first | omega | exact Nat.le_refl _⟩,⟨kk BK135⟩,⟨bw HB⟩⟩
 case rest =>
  clear HC2
  obtain ⟨kq,x34_1,rfl,HA,HJ1,BK135,HB⟩:=hcut
  cases kq with
  | zero => exact absurd HA.out (by simp [op_edit.j0])
  | succ kj1 =>
   have H:=HA.out
   clear HA
   simp only [op_edit.j0] at H
   by_cases c31 : x34_1 = true
   ·subst c31
    rw [if_pos rfl] at H
    obtain rfl:=Zo H
    go_wp2
    go_ret
    exact ⟨re,bw HB⟩
   replace c31:=Zf c31
   subst c31
   rw [if_neg nft] at H
   obtain ⟨t138,A32,H⟩:=bE H
   by_cases c33 : t138 = true; rotate_left
   ·replace c33:=Zf c33
    subst c33
    rw [if_neg nft] at H
    obtain rfl:=Zo H
    obtain ⟨_,_,_,_,_,_,_,_,_,_,_,_,_,_,_,_,_,_,_,_,_,_⟩:=kc11 BK135
    go_wp2_with (first | ((with_reducible refine Qac (f:=75) rfl ?_); refine gl (some 37) Try.func75 #[.string a0_6] (h := ?_); (with_reducible refine (text_May.calls a0_6 false _ A32.out).mono ?_); rintro e w72 ⟨rfl,hb⟩; refine ⟨_,rfl, ?_⟩; replace BK135:=bl BK135 hb; replace HB:=bs HB hb; clear hb))
    go_ret
    exact ⟨re,bw HB⟩
   subst c33
   rw [if_pos rfl] at H
   obtain ⟨t139,A34,H⟩:=bE H
   by_cases c35 : t139 <= 12; rotate_left
   ·rw [if_neg c35] at H
    have c35b0:=Ze c35
    clear c35
    obtain rfl:=Zo H
    obtain ⟨_,_,_,_,_,_,_,_,_,_,_,_,_,_,_,_,_,_,_,_,_,_⟩:=kc11 BK135
    go_wp2_with (first | ((with_reducible refine Qac (f:=75) rfl ?_); refine gl (some 37) Try.func75 #[.string a0_6] (h := ?_); (with_reducible refine (text_May.calls a0_6 true _ A32.out).mono ?_); rintro e w68 ⟨rfl,hb⟩; refine ⟨_,rfl, ?_⟩; replace BK135:=bl BK135 hb; replace HB:=bs HB hb; clear hb; obtain ⟨_,_,_,_,_,_,_,_,_,_,_,_,_,_,_,_,_,_,_,_,_,_⟩:=kc11 BK135) | (go_at_call 45; (with_reducible refine (op_Size.calls a0_0 a0_1 a0_2 a0_3 a0_4 a0_5 a0_6 _ _ l0_7 a0_8 a0_9 a0_10 t139 _ ?side1 ?side2 A34.out).mono ?_); (case side1 => exact cb HR0_7 HB); (case side2 => exact HC0_7.out); rintro e w70 ⟨rfl,hb⟩; replace BK135:=bl BK135 hb; replace HB:=bs HB hb; clear hb))
    go_ret
    exact ⟨re,bw HB⟩
   rw [if_pos c35] at H
   have c35b0:=Zd c35
   clear c35
   obtain ⟨t140,A36,H⟩:=bE H
   by_cases c37 : t140 = true; rotate_left
   ·replace c37:=Zf c37
    subst c37
    rw [if_neg nft] at H
    obtain rfl:=Zo H
    obtain ⟨_,_,_,_,_,_,_,_,_,_,_,_,_,_,_,_,_,_,_,_,_,_⟩:=kc11 BK135
    go_wp2_with (first | ((with_reducible refine Qac (f:=75) rfl ?_); refine gl (some 37) Try.func75 #[.string a0_6] (h := ?_); (with_reducible refine (text_May.calls a0_6 true _ A32.out).mono ?_); rintro e w62 ⟨rfl,hb⟩; refine ⟨_,rfl, ?_⟩; replace BK135:=bl BK135 hb; replace HB:=bs HB hb; clear hb; obtain ⟨_,_,_,_,_,_,_,_,_,_,_,_,_,_,_,_,_,_,_,_,_,_⟩:=kc11 BK135) | (go_at_call 45; (with_reducible refine (op_Size.calls a0_0 a0_1 a0_2 a0_3 a0_4 a0_5 a0_6 _ _ l0_7 a0_8 a0_9 a0_10 t139 _ ?side1 ?side2 A34.out).mono ?_); (case side1 => exact cb HR0_7 HB); (case side2 => exact HC0_7.out); rintro e w64 ⟨rfl,hb⟩; replace BK135:=bl BK135 hb; replace HB:=bs HB hb; clear hb; obtain ⟨_,_,_,_,_,_,_,_,_,_,_,_,_,_,_,_,_,_,_,_,_,_⟩:=kc11 BK135) | (go_at_call 76; (with_reducible refine (op_gone.calls kj1 a0_0 a0_1 a0_2 a0_3 a0_4 a0_5 a0_6 _ _ l0_7 a0_8 a0_9 a0_10 false _ ?side1 ?side2 A36.out).mono ?_); (case side1 => exact cb HR0_7 HB); (case side2 => exact HC0_7.out); rintro e w66 ⟨rfl,hb⟩; replace BK135:=bl BK135 hb; replace HB:=bs HB hb; clear hb))
    go_ret
    exact ⟨re,bw HB⟩
   subst c37
   rw [if_pos rfl] at H
   by_cases c38 : a0_8 = 0; rotate_left
   ·rw [if_neg c38] at H
    obtain ⟨c38b0,c38b1⟩:=bF c38
    obtain rfl:=Zo H
    obtain ⟨_,_,_,_,_,_,_,_,_,_,_,_,_,_,_,_,_,_,_,_,_,_⟩:=kc11 BK135
    go_wp2_with (first | ((with_reducible refine Qac (f:=75) rfl ?_); refine gl (some 37) Try.func75 #[.string a0_6] (h := ?_); (with_reducible refine (text_May.calls a0_6 true _ A32.out).mono ?_); rintro e w55 ⟨rfl,hb⟩; refine ⟨_,rfl, ?_⟩; replace BK135:=bl BK135 hb; replace HB:=bs HB hb; clear hb; obtain ⟨_,_,_,_,_,_,_,_,_,_,_,_,_,_,_,_,_,_,_,_,_,_⟩:=kc11 BK135) | (go_at_call 45; (with_reducible refine (op_Size.calls a0_0 a0_1 a0_2 a0_3 a0_4 a0_5 a0_6 _ _ l0_7 a0_8 a0_9 a0_10 t139 _ ?side1 ?side2 A34.out).mono ?_); (case side1 => exact cb HR0_7 HB); (case side2 => exact HC0_7.out); rintro e w57 ⟨rfl,hb⟩; replace BK135:=bl BK135 hb; replace HB:=bs HB hb; clear hb; obtain ⟨_,_,_,_,_,_,_,_,_,_,_,_,_,_,_,_,_,_,_,_,_,_⟩:=kc11 BK135) | (go_at_call 76; (with_reducible refine (op_gone.calls kj1 a0_0 a0_1 a0_2 a0_3 a0_4 a0_5 a0_6 _ _ l0_7 a0_8 a0_9 a0_10 true _ ?side1 ?side2 A36.out).mono ?_); (case side1 => exact cb HR0_7 HB); (case side2 => exact HC0_7.out); rintro e w59 ⟨rfl,hb⟩; replace BK135:=bl BK135 hb; replace HB:=bs HB hb; clear hb; obtain ⟨_,_,_,_,_,_,_,_,_,_,_,_,_,_,_,_,_,_,_,_,_,_⟩:=kc11 BK135))
    go_ret
    exact ⟨re,bw HB⟩
   rw [if_pos c38] at H
   obtain ⟨c38b0,c38b1⟩:=bT c38
   clear c38
   by_cases c39 : a0_9 = 0
   ·rw [if_pos c39] at H
    obtain ⟨c39b0,c39b1⟩:=bT c39
    clear c39
    obtain rfl:=Zo H
    obtain ⟨_,_,_,_,_,_,_,_,_,_,_,_,_,_,_,_,_,_,_,_,_,_⟩:=kc11 BK135
    go_wp2_with (first | ((with_reducible refine Qac (f:=75) rfl ?_); refine gl (some 37) Try.func75 #[.string a0_6] (h := ?_); (with_reducible refine (text_May.calls a0_6 true _ A32.out).mono ?_); rintro e w41 ⟨rfl,hb⟩; refine ⟨_,rfl, ?_⟩; replace BK135:=bl BK135 hb; replace HB:=bs HB hb; clear hb; obtain ⟨_,_,_,_,_,_,_,_,_,_,_,_,_,_,_,_,_,_,_,_,_,_⟩:=kc11 BK135) | (go_at_call 45; (with_reducible refine (op_Size.calls a0_0 a0_1 a0_2 a0_3 a0_4 a0_5 a0_6 _ _ l0_7 a0_8 a0_9 a0_10 t139 _ ?side1 ?side2 A34.out).mono ?_); (case side1 => exact cb HR0_7 HB); (case side2 => exact HC0_7.out); rintro e w43 ⟨rfl,hb⟩; replace BK135:=bl BK135 hb; replace HB:=bs HB hb; clear hb; obtain ⟨_,_,_,_,_,_,_,_,_,_,_,_,_,_,_,_,_,_,_,_,_,_⟩:=kc11 BK135) | (go_at_call 76; (with_reducible refine (op_gone.calls kj1 a0_0 a0_1 a0_2 a0_3 a0_4 a0_5 a0_6 _ _ l0_7 a0_8 a0_9 a0_10 true _ ?side1 ?side2 A36.out).mono ?_); (case side1 => exact cb HR0_7 HB); (case side2 => exact HC0_7.out); rintro e w45 ⟨rfl,hb⟩; replace BK135:=bl BK135 hb; replace HB:=bs HB hb; clear hb; obtain ⟨_,_,_,_,_,_,_,_,_,_,_,_,_,_,_,_,_,_,_,_,_,_⟩:=kc11 BK135))
    go_ret
    exact ⟨re,bw HB⟩
   rw [if_neg c39] at H
   obtain ⟨c39b0,c39b1⟩:=bF c39
   obtain rfl:=Zo H
   obtain ⟨_,_,_,_,_,_,_,_,_,_,_,_,_,_,_,_,_,_,_,_,_,_⟩:=kc11 BK135
   go_wp2_with (first | ((with_reducible refine Qac (f:=75) rfl ?_); refine gl (some 37) Try.func75 #[.string a0_6] (h := ?_); (with_reducible refine (text_May.calls a0_6 true _ A32.out).mono ?_); rintro e w48 ⟨rfl,hb⟩; refine ⟨_,rfl, ?_⟩; replace BK135:=bl BK135 hb; replace HB:=bs HB hb; clear hb; obtain ⟨_,_,_,_,_,_,_,_,_,_,_,_,_,_,_,_,_,_,_,_,_,_⟩:=kc11 BK135) | (go_at_call 45; (with_reducible refine (op_Size.calls a0_0 a0_1 a0_2 a0_3 a0_4 a0_5 a0_6 _ _ l0_7 a0_8 a0_9 a0_10 t139 _ ?side1 ?side2 A34.out).mono ?_); (case side1 => exact cb HR0_7 HB); (case side2 => exact HC0_7.out); rintro e w50 ⟨rfl,hb⟩; replace BK135:=bl BK135 hb; replace HB:=bs HB hb; clear hb; obtain ⟨_,_,_,_,_,_,_,_,_,_,_,_,_,_,_,_,_,_,_,_,_,_⟩:=kc11 BK135) | (go_at_call 76; (with_reducible refine (op_gone.calls kj1 a0_0 a0_1 a0_2 a0_3 a0_4 a0_5 a0_6 _ _ l0_7 a0_8 a0_9 a0_10 true _ ?side1 ?side2 A36.out).mono ?_); (case side1 => exact cb HR0_7 HB); (case side2 => exact HC0_7.out); rintro e w52 ⟨rfl,hb⟩; replace BK135:=bl BK135 hb; replace HB:=bs HB hb; clear hb; obtain ⟨_,_,_,_,_,_,_,_,_,_,_,_,_,_,_,_,_,_,_,_,_,_⟩:=kc11 BK135))
   go_ret
   exact ⟨re,bw HB⟩
end
section
attribute [local go_sem] max2_int min2_int max_two min_two Qbj Qbi max_four min_four
attribute [local go_sem high] eqAElem
def op_toggle.f (a0_0 : Int) (a0_1 : Int) (a0_2 : Int) (a0_3 : Int) (a0_4 : Int) (a0_5 : Int) (a0_6 : ByteArray) (l0_7 : List (SElem)) (a0_8 : Int) (a0_9 : Int) (a0_10 : Int) : Option (Bool):=(op_Name.f a0_8 a0_9).bind fun t142 => (if t142 = true then (if a0_8 = a0_0 then (if a0_9 = a0_1 then (some false) else (if a0_10 < 0 then (some false) else (if a0_10 > 268435456 then (some false) else (if (a0_3 == 0 && (a0_4 == 0 && (a0_5 == 0))) = true then (if a0_6.toList = ([] : List UInt8) then (some ((l0_7.length : Int) == 0)) else (some false)) else (some false))))) else (if a0_10 < 0 then (some false) else (if a0_10 > 268435456 then (some false) else (if (a0_3 == 0 && (a0_4 == 0 && (a0_5 == 0))) = true then (if a0_6.toList = ([] : List UInt8) then (some ((l0_7.length : Int) == 0)) else (some false)) else (some false))))) else (some false))
theorem op_toggle.calls (a0_0 : Int) (a0_1 : Int) (a0_2 : Int) (a0_3 : Int) (a0_4 : Int) (a0_5 : Int) (a0_6 : ByteArray) (A0_7 : Option Addr) (c0_7 : Nat) (l0_7 : List (SElem)) (a0_8 : Int) (a0_9 : Int) (a0_10 : Int) (r : Bool) (w : World) (hr0_7 : Kd.C Qao w A0_7 l0_7.length l0_7) (hc0_7 : l0_7.length <= c0_7) (h : op_toggle.f a0_0 a0_1 a0_2 a0_3 a0_4 a0_5 a0_6 l0_7 a0_8 a0_9 a0_10 = some r) :
  Calls Try.prog 60 #[.agg #[.int .i64 a0_0, .int .i64 a0_1, .int .i64 a0_2, .int .i64 a0_3, .int .i64 a0_4, .int .i64 a0_5, .string a0_6, .slice A0_7 l0_7.length c0_7, .int .i64 a0_8, .int .i64 a0_9, .int .i64 a0_10]] w fun e w' => e = .returned (.bool r) /\ Below w.heap.size w w':=by
 have hu38:=Try.underlying38
 have hu36:=Try.underlying36
 have HR0_7:=Zz.k hr0_7
 have HC0_7:=Zz.k hc0_7
 clear hr0_7 hc0_7
 have HB:=Zz.k (Below.refl w.heap.size w)
 unfold op_toggle.f at h; have H:=h
 clear h
 obtain ⟨t142,A2,H⟩:=bE H
 by_cases c3 : t142 = true; rotate_left
 ·replace c3:=Zf c3
  subst c3
  rw [if_neg nft] at H
  obtain rfl:=Zo H
  go_enter Try.func60,Try.ntmps60
  go_wp2_with (first | ((with_reducible refine Qad (N:=1) rfl ?_); (try (refine Qai (by rfl) ?_; dsimp only)); refine bx 1 #[.int .i64 a0_0, .int .i64 a0_1, .int .i64 a0_2, .int .i64 a0_3, .int .i64 a0_4, .int .i64 a0_5, .string a0_6, .slice A0_7 l0_7.length c0_7, .int .i64 a0_8, .int .i64 a0_9, .int .i64 a0_10] 38 (h := ?_); intro gb141 hg w36 hbox hb; have BK141:=Zz.k (hbox); have GW141:=bz HB hg; have GE141:=bz HB hg; replace HB:=bs HB hb; clear hb hbox hg; obtain ⟨_,_,_,_,_,_,_,_,_,_,_,_,_,_,_,_,_,_,_,_,_,_⟩:=kc11 BK141) | ((with_reducible refine Qac (f:=58) rfl ?_); refine gl (some 7) Try.func58 #[.int .i64 a0_8, .int .i64 a0_9] (h := ?_); (with_reducible refine (op_Name.calls a0_8 a0_9 false _ A2.out).mono ?_); rintro e w' ⟨rfl,⟨nd,rfl⟩⟩; refine ⟨_,rfl, ?_⟩))
  go_ret
  exact ⟨re,bw HB⟩
 subst c3
 rw [if_pos rfl] at H
 by_cases c4 : a0_8 = a0_0; rotate_left
 ·rw [if_neg c4] at H
  obtain ⟨c4b0,c4b1⟩:=bF c4
  by_cases c22 : a0_10 < 0
  ·rw [if_pos c22] at H
   have c22b0:=Zd c22
   clear c22
   obtain rfl:=Zo H
   go_enter Try.func60,Try.ntmps60
   go_wp2_with (first | ((with_reducible refine Qad (N:=1) rfl ?_); (try (refine Qai (by rfl) ?_; dsimp only)); refine bx 1 #[.int .i64 a0_0, .int .i64 a0_1, .int .i64 a0_2, .int .i64 a0_3, .int .i64 a0_4, .int .i64 a0_5, .string a0_6, .slice A0_7 l0_7.length c0_7, .int .i64 a0_8, .int .i64 a0_9, .int .i64 a0_10] 38 (h := ?_); intro gb141 hg w23 hbox hb; have BK141:=Zz.k (hbox); have GW141:=bz HB hg; have GE141:=bz HB hg; replace HB:=bs HB hb; clear hb hbox hg; obtain ⟨_,_,_,_,_,_,_,_,_,_,_,_,_,_,_,_,_,_,_,_,_,_⟩:=kc11 BK141) | ((with_reducible refine Qac (f:=58) rfl ?_); refine gl (some 7) Try.func58 #[.int .i64 a0_8, .int .i64 a0_9] (h := ?_); (with_reducible refine (op_Name.calls a0_8 a0_9 true _ A2.out).mono ?_); rintro e w' ⟨rfl,⟨nd,rfl⟩⟩; refine ⟨_,rfl, ?_⟩))
   go_ret
   exact ⟨re,bw HB⟩
  rw [if_neg c22] at H
  have c22b0:=Ze c22
  clear c22
  by_cases c25 : a0_10 > 268435456
  ·rw [if_pos c25] at H
   have c25b0:=Zd c25
   clear c25
   obtain rfl:=Zo H
   go_enter Try.func60,Try.ntmps60
   go_wp2_with (first | ((with_reducible refine Qad (N:=1) rfl ?_); (try (refine Qai (by rfl) ?_; dsimp only)); refine bx 1 #[.int .i64 a0_0, .int .i64 a0_1, .int .i64 a0_2, .int .i64 a0_3, .int .i64 a0_4, .int .i64 a0_5, .string a0_6, .slice A0_7 l0_7.length c0_7, .int .i64 a0_8, .int .i64 a0_9, .int .i64 a0_10] 38 (h := ?_); intro gb141 hg w26 hbox hb; have BK141:=Zz.k (hbox); have GW141:=bz HB hg; have GE141:=bz HB hg; replace HB:=bs HB hb; clear hb hbox hg; obtain ⟨_,_,_,_,_,_,_,_,_,_,_,_,_,_,_,_,_,_,_,_,_,_⟩:=kc11 BK141) | ((with_reducible refine Qac (f:=58) rfl ?_); refine gl (some 7) Try.func58 #[.int .i64 a0_8, .int .i64 a0_9] (h := ?_); (with_reducible refine (op_Name.calls a0_8 a0_9 true _ A2.out).mono ?_); rintro e w' ⟨rfl,⟨nd,rfl⟩⟩; refine ⟨_,rfl, ?_⟩))
   go_ret
   exact ⟨re,bw HB⟩
  rw [if_neg c25] at H
  have c25b0:=Ze c25
  clear c25
  by_cases c28 : (a0_3 == 0 && (a0_4 == 0 && (a0_5 == 0))) = true; rotate_left
  ·rw [if_neg c28] at H
   have c28b0 : (a0_3 == 0 && (a0_4 == 0 && (a0_5 == 0))) = false:=by simpa using c28
   (try (have c28b1 : decide (a0_3 = 0 && (a0_4 == 0 && (a0_5 == 0))) = false:=by simpa using c28))
   (try (have c28b2 : (a0_3 == 0 && (a0_4 == 0 && (a0_5 == 0))) = false:=by simpa using c28))
   (try (have c28b3 : ¬ (a0_3 = 0 && (a0_4 == 0 && (a0_5 == 0))):=by simpa using c28))
   clear c28
   obtain rfl:=Zo H
   go_enter Try.func60,Try.ntmps60
   go_wp2_with (first | ((with_reducible refine Qad (N:=1) rfl ?_); (try (refine Qai (by rfl) ?_; dsimp only)); refine bx 1 #[.int .i64 a0_0, .int .i64 a0_1, .int .i64 a0_2, .int .i64 a0_3, .int .i64 a0_4, .int .i64 a0_5, .string a0_6, .slice A0_7 l0_7.length c0_7, .int .i64 a0_8, .int .i64 a0_9, .int .i64 a0_10] 38 (h := ?_); intro gb141 hg w34 hbox hb; have BK141:=Zz.k (hbox); have GW141:=bz HB hg; have GE141:=bz HB hg; replace HB:=bs HB hb; clear hb hbox hg; obtain ⟨_,_,_,_,_,_,_,_,_,_,_,_,_,_,_,_,_,_,_,_,_,_⟩:=kc11 BK141) | ((with_reducible refine Qac (f:=58) rfl ?_); refine gl (some 7) Try.func58 #[.int .i64 a0_8, .int .i64 a0_9] (h := ?_); (with_reducible refine (op_Name.calls a0_8 a0_9 true _ A2.out).mono ?_); rintro e w' ⟨rfl,⟨nd,rfl⟩⟩; refine ⟨_,rfl, ?_⟩))
   go_ret
   exact ⟨re,bw HB⟩
  rw [if_pos c28] at H
  have c28b0 : (a0_3 == 0 && (a0_4 == 0 && (a0_5 == 0))) = true:=c28
  (try (have c28b1 : decide (a0_3 = 0 && (a0_4 == 0 && (a0_5 == 0))) = true:=by simpa using c28))
  (try (have c28b2 : (a0_3 == 0 && (a0_4 == 0 && (a0_5 == 0))) = true:=by simpa using c28))
  clear c28
  by_cases c29 : a0_6.toList = ([] : List UInt8)
  ·rw [if_pos c29] at H
   obtain ⟨c29b0,c29b1⟩:=bT c29
   clear c29
   obtain rfl:=Zo H
   go_enter Try.func60,Try.ntmps60
   go_wp2_with (first | ((with_reducible refine Qad (N:=1) rfl ?_); (try (refine Qai (by rfl) ?_; dsimp only)); refine bx 1 #[.int .i64 a0_0, .int .i64 a0_1, .int .i64 a0_2, .int .i64 a0_3, .int .i64 a0_4, .int .i64 a0_5, .string a0_6, .slice A0_7 l0_7.length c0_7, .int .i64 a0_8, .int .i64 a0_9, .int .i64 a0_10] 38 (h := ?_); intro gb141 hg w30 hbox hb; have BK141:=Zz.k (hbox); have GW141:=bz HB hg; have GE141:=bz HB hg; replace HB:=bs HB hb; clear hb hbox hg; obtain ⟨_,_,_,_,_,_,_,_,_,_,_,_,_,_,_,_,_,_,_,_,_,_⟩:=kc11 BK141) | ((with_reducible refine Qac (f:=58) rfl ?_); refine gl (some 7) Try.func58 #[.int .i64 a0_8, .int .i64 a0_9] (h := ?_); (with_reducible refine (op_Name.calls a0_8 a0_9 true _ A2.out).mono ?_); rintro e w' ⟨rfl,⟨nd,rfl⟩⟩; refine ⟨_,rfl, ?_⟩))
   go_ret
   exact ⟨re,bw HB⟩
  rw [if_neg c29] at H
  obtain ⟨c29b0,c29b1⟩:=bF c29
  obtain rfl:=Zo H
  go_enter Try.func60,Try.ntmps60
  go_wp2_with (first | ((with_reducible refine Qad (N:=1) rfl ?_); (try (refine Qai (by rfl) ?_; dsimp only)); refine bx 1 #[.int .i64 a0_0, .int .i64 a0_1, .int .i64 a0_2, .int .i64 a0_3, .int .i64 a0_4, .int .i64 a0_5, .string a0_6, .slice A0_7 l0_7.length c0_7, .int .i64 a0_8, .int .i64 a0_9, .int .i64 a0_10] 38 (h := ?_); intro gb141 hg w32 hbox hb; have BK141:=Zz.k (hbox); have GW141:=bz HB hg; have GE141:=bz HB hg; replace HB:=bs HB hb; clear hb hbox hg; obtain ⟨_,_,_,_,_,_,_,_,_,_,_,_,_,_,_,_,_,_,_,_,_,_⟩:=kc11 BK141) | ((with_reducible refine Qac (f:=58) rfl ?_); refine gl (some 7) Try.func58 #[.int .i64 a0_8, .int .i64 a0_9] (h := ?_); (with_reducible refine (op_Name.calls a0_8 a0_9 true _ A2.out).mono ?_); rintro e w' ⟨rfl,⟨nd,rfl⟩⟩; refine ⟨_,rfl, ?_⟩))
  go_ret
  exact ⟨re,bw HB⟩
 rw [if_pos c4] at H
 obtain ⟨c4b0,c4b1⟩:=bT c4
 clear c4
 by_cases c5 : a0_9 = a0_1
 ·rw [if_pos c5] at H
  obtain ⟨c5b0,c5b1⟩:=bT c5
  clear c5
  obtain rfl:=Zo H
  go_enter Try.func60,Try.ntmps60
  go_wp2_with (first | ((with_reducible refine Qad (N:=1) rfl ?_); (try (refine Qai (by rfl) ?_; dsimp only)); refine bx 1 #[.int .i64 a0_0, .int .i64 a0_1, .int .i64 a0_2, .int .i64 a0_3, .int .i64 a0_4, .int .i64 a0_5, .string a0_6, .slice A0_7 l0_7.length c0_7, .int .i64 a0_8, .int .i64 a0_9, .int .i64 a0_10] 38 (h := ?_); intro gb141 hg w6 hbox hb; have BK141:=Zz.k (hbox); have GW141:=bz HB hg; have GE141:=bz HB hg; replace HB:=bs HB hb; clear hb hbox hg; obtain ⟨_,_,_,_,_,_,_,_,_,_,_,_,_,_,_,_,_,_,_,_,_,_⟩:=kc11 BK141) | ((with_reducible refine Qac (f:=58) rfl ?_); refine gl (some 7) Try.func58 #[.int .i64 a0_8, .int .i64 a0_9] (h := ?_); (with_reducible refine (op_Name.calls a0_8 a0_9 true _ A2.out).mono ?_); rintro e w' ⟨rfl,⟨nd,rfl⟩⟩; refine ⟨_,rfl, ?_⟩))
  go_ret
  exact ⟨re,bw HB⟩
 rw [if_neg c5] at H
 obtain ⟨c5b0,c5b1⟩:=bF c5
 by_cases c8 : a0_10 < 0
 ·rw [if_pos c8] at H
  have c8b0:=Zd c8
  clear c8
  obtain rfl:=Zo H
  go_enter Try.func60,Try.ntmps60
  go_wp2_with (first | ((with_reducible refine Qad (N:=1) rfl ?_); (try (refine Qai (by rfl) ?_; dsimp only)); refine bx 1 #[.int .i64 a0_0, .int .i64 a0_1, .int .i64 a0_2, .int .i64 a0_3, .int .i64 a0_4, .int .i64 a0_5, .string a0_6, .slice A0_7 l0_7.length c0_7, .int .i64 a0_8, .int .i64 a0_9, .int .i64 a0_10] 38 (h := ?_); intro gb141 hg w9 hbox hb; have BK141:=Zz.k (hbox); have GW141:=bz HB hg; have GE141:=bz HB hg; replace HB:=bs HB hb; clear hb hbox hg; obtain ⟨_,_,_,_,_,_,_,_,_,_,_,_,_,_,_,_,_,_,_,_,_,_⟩:=kc11 BK141) | ((with_reducible refine Qac (f:=58) rfl ?_); refine gl (some 7) Try.func58 #[.int .i64 a0_8, .int .i64 a0_9] (h := ?_); (with_reducible refine (op_Name.calls a0_8 a0_9 true _ A2.out).mono ?_); rintro e w' ⟨rfl,⟨nd,rfl⟩⟩; refine ⟨_,rfl, ?_⟩))
  go_ret
  exact ⟨re,bw HB⟩
 rw [if_neg c8] at H
 have c8b0:=Ze c8
 clear c8
 by_cases c11 : a0_10 > 268435456
 ·rw [if_pos c11] at H
  have c11b0:=Zd c11
  clear c11
  obtain rfl:=Zo H
  go_enter Try.func60,Try.ntmps60
  go_wp2_with (first | ((with_reducible refine Qad (N:=1) rfl ?_); (try (refine Qai (by rfl) ?_; dsimp only)); refine bx 1 #[.int .i64 a0_0, .int .i64 a0_1, .int .i64 a0_2, .int .i64 a0_3, .int .i64 a0_4, .int .i64 a0_5, .string a0_6, .slice A0_7 l0_7.length c0_7, .int .i64 a0_8, .int .i64 a0_9, .int .i64 a0_10] 38 (h := ?_); intro gb141 hg w12 hbox hb; have BK141:=Zz.k (hbox); have GW141:=bz HB hg; have GE141:=bz HB hg; replace HB:=bs HB hb; clear hb hbox hg; obtain ⟨_,_,_,_,_,_,_,_,_,_,_,_,_,_,_,_,_,_,_,_,_,_⟩:=kc11 BK141) | ((with_reducible refine Qac (f:=58) rfl ?_); refine gl (some 7) Try.func58 #[.int .i64 a0_8, .int .i64 a0_9] (h := ?_); (with_reducible refine (op_Name.calls a0_8 a0_9 true _ A2.out).mono ?_); rintro e w' ⟨rfl,⟨nd,rfl⟩⟩; refine ⟨_,rfl, ?_⟩))
  go_ret
  exact ⟨re,bw HB⟩
 rw [if_neg c11] at H
 have c11b0:=Ze c11
 clear c11
 by_cases c14 : (a0_3 == 0 && (a0_4 == 0 && (a0_5 == 0))) = true; rotate_left
 ·rw [if_neg c14] at H
  have c14b0 : (a0_3 == 0 && (a0_4 == 0 && (a0_5 == 0))) = false:=by simpa using c14
  (try (have c14b1 : decide (a0_3 = 0 && (a0_4 == 0 && (a0_5 == 0))) = false:=by simpa using c14))
  (try (have c14b2 : (a0_3 == 0 && (a0_4 == 0 && (a0_5 == 0))) = false:=by simpa using c14))
  (try (have c14b3 : ¬ (a0_3 = 0 && (a0_4 == 0 && (a0_5 == 0))):=by simpa using c14))
  clear c14
  obtain rfl:=Zo H
  go_enter Try.func60,Try.ntmps60
  go_wp2_with (first | ((with_reducible refine Qad (N:=1) rfl ?_); (try (refine Qai (by rfl) ?_; dsimp only)); refine bx 1 #[.int .i64 a0_0, .int .i64 a0_1, .int .i64 a0_2, .int .i64 a0_3, .int .i64 a0_4, .int .i64 a0_5, .string a0_6, .slice A0_7 l0_7.length c0_7, .int .i64 a0_8, .int .i64 a0_9, .int .i64 a0_10] 38 (h := ?_); intro gb141 hg w20 hbox hb; have BK141:=Zz.k (hbox); have GW141:=bz HB hg; have GE141:=bz HB hg; replace HB:=bs HB hb; clear hb hbox hg; obtain ⟨_,_,_,_,_,_,_,_,_,_,_,_,_,_,_,_,_,_,_,_,_,_⟩:=kc11 BK141) | ((with_reducible refine Qac (f:=58) rfl ?_); refine gl (some 7) Try.func58 #[.int .i64 a0_8, .int .i64 a0_9] (h := ?_); (with_reducible refine (op_Name.calls a0_8 a0_9 true _ A2.out).mono ?_); rintro e w' ⟨rfl,⟨nd,rfl⟩⟩; refine ⟨_,rfl, ?_⟩))
  go_ret
  exact ⟨re,bw HB⟩
 rw [if_pos c14] at H
 have c14b0 : (a0_3 == 0 && (a0_4 == 0 && (a0_5 == 0))) = true:=c14
 (try (have c14b1 : decide (a0_3 = 0 && (a0_4 == 0 && (a0_5 == 0))) = true:=by simpa using c14))
 (try (have c14b2 : (a0_3 == 0 && (a0_4 == 0 && (a0_5 == 0))) = true:=by simpa using c14))
 clear c14
 by_cases c15 : a0_6.toList = ([] : List UInt8)
 ·rw [if_pos c15] at H
  obtain ⟨c15b0,c15b1⟩:=bT c15
  clear c15
  obtain rfl:=Zo H
  go_enter Try.func60,Try.ntmps60
  go_wp2_with (first | ((with_reducible refine Qad (N:=1) rfl ?_); (try (refine Qai (by rfl) ?_; dsimp only)); refine bx 1 #[.int .i64 a0_0, .int .i64 a0_1, .int .i64 a0_2, .int .i64 a0_3, .int .i64 a0_4, .int .i64 a0_5, .string a0_6, .slice A0_7 l0_7.length c0_7, .int .i64 a0_8, .int .i64 a0_9, .int .i64 a0_10] 38 (h := ?_); intro gb141 hg w16 hbox hb; have BK141:=Zz.k (hbox); have GW141:=bz HB hg; have GE141:=bz HB hg; replace HB:=bs HB hb; clear hb hbox hg; obtain ⟨_,_,_,_,_,_,_,_,_,_,_,_,_,_,_,_,_,_,_,_,_,_⟩:=kc11 BK141) | ((with_reducible refine Qac (f:=58) rfl ?_); refine gl (some 7) Try.func58 #[.int .i64 a0_8, .int .i64 a0_9] (h := ?_); (with_reducible refine (op_Name.calls a0_8 a0_9 true _ A2.out).mono ?_); rintro e w' ⟨rfl,⟨nd,rfl⟩⟩; refine ⟨_,rfl, ?_⟩))
  go_ret
  exact ⟨re,bw HB⟩
 rw [if_neg c15] at H
 obtain ⟨c15b0,c15b1⟩:=bF c15
 obtain rfl:=Zo H
 go_enter Try.func60,Try.ntmps60
 go_wp2_with (first | ((with_reducible refine Qad (N:=1) rfl ?_); (try (refine Qai (by rfl) ?_; dsimp only)); refine bx 1 #[.int .i64 a0_0, .int .i64 a0_1, .int .i64 a0_2, .int .i64 a0_3, .int .i64 a0_4, .int .i64 a0_5, .string a0_6, .slice A0_7 l0_7.length c0_7, .int .i64 a0_8, .int .i64 a0_9, .int .i64 a0_10] 38 (h := ?_); intro gb141 hg w18 hbox hb; have BK141:=Zz.k (hbox); have GW141:=bz HB hg; have GE141:=bz HB hg; replace HB:=bs HB hb; clear hb hbox hg; obtain ⟨_,_,_,_,_,_,_,_,_,_,_,_,_,_,_,_,_,_,_,_,_,_⟩:=kc11 BK141) | ((with_reducible refine Qac (f:=58) rfl ?_); refine gl (some 7) Try.func58 #[.int .i64 a0_8, .int .i64 a0_9] (h := ?_); (with_reducible refine (op_Name.calls a0_8 a0_9 true _ A2.out).mono ?_); rintro e w' ⟨rfl,⟨nd,rfl⟩⟩; refine ⟨_,rfl, ?_⟩))
 go_ret
 exact ⟨re,bw HB⟩
def op_May.f (k : Nat) (a0_0 : Int) (a0_1 : Int) (a0_2 : Int) (a0_3 : Int) (a0_4 : Int) (a0_5 : Int) (a0_6 : ByteArray) (l0_7 : List (SElem)) (a0_8 : Int) (a0_9 : Int) (a0_10 : Int) : Option (Bool):=(op_Name.f a0_0 a0_1).bind fun t144 => (if t144 = true then (if a0_2 = 1 then ((op_edit.f k a0_0 a0_1 a0_2 a0_3 a0_4 a0_5 a0_6 l0_7 a0_8 a0_9 a0_10).bind fun t145 => (some t145)) else (if a0_2 = 2 then ((op_toggle.f a0_0 a0_1 a0_2 a0_3 a0_4 a0_5 a0_6 l0_7 a0_8 a0_9 a0_10).bind fun t146 => (some t146)) else (some false))) else (some false))
theorem op_May.mono : ∀ a0 a1 a2 a3 a4 a5 a6 a7 a8 a9 a10 k,LeO (op_May.f k a0 a1 a2 a3 a4 a5 a6 a7 a8 a9 a10) (op_May.f (k + 1) a0 a1 a2 a3 a4 a5 a6 a7 a8 a9 a10):=by
 intro a0 a1 a2 a3 a4 a5 a6 a7 a8 a9 a10 k
 unfold op_May.f
 repeat' first
   | (with_reducible exact op_edit.mono _ _ _ _ _ _ _ _ _ _ _ _)
   | (with_reducible exact LeO.refl _)
   | (with_reducible exact LeO.none _)
   | (with_reducible refine LeO.ite ?_ ?_)
   | (with_reducible refine LeO.bind ?_ (fun _ => ?_))
   | exact op_edit.mono _ _ _ _ _ _ _ _ _ _ _ _
   | exact LeO.none _
   | refine LeO.ite ?_ ?_
   | refine LeO.bind ?_ (fun _ => ?_)
theorem op_May.calls (k : Nat) (a0_0 : Int) (a0_1 : Int) (a0_2 : Int) (a0_3 : Int) (a0_4 : Int) (a0_5 : Int) (a0_6 : ByteArray) (A0_7 : Option Addr) (c0_7 : Nat) (l0_7 : List (SElem)) (a0_8 : Int) (a0_9 : Int) (a0_10 : Int) (r : Bool) (w : World) (hr0_7 : Kd.C Qao w A0_7 l0_7.length l0_7) (hc0_7 : l0_7.length <= c0_7) (h : op_May.f k a0_0 a0_1 a0_2 a0_3 a0_4 a0_5 a0_6 l0_7 a0_8 a0_9 a0_10 = some r) :
  Calls Try.prog 37 #[.agg #[.int .i64 a0_0, .int .i64 a0_1, .int .i64 a0_2, .int .i64 a0_3, .int .i64 a0_4, .int .i64 a0_5, .string a0_6, .slice A0_7 l0_7.length c0_7, .int .i64 a0_8, .int .i64 a0_9, .int .i64 a0_10]] w fun e w' => e = .returned (.bool r) /\ Below w.heap.size w w':=by
 have hu38:=Try.underlying38
 have HR0_7:=Zz.k hr0_7
 have HC0_7:=Zz.k hc0_7
 clear hr0_7 hc0_7
 have HB:=Zz.k (Below.refl w.heap.size w)
 unfold op_May.f at h; have H:=h
 clear h
 obtain ⟨t144,A2,H⟩:=bE H
 by_cases c3 : t144 = true; rotate_left
 ·replace c3:=Zf c3
  subst c3
  rw [if_neg nft] at H
  obtain rfl:=Zo H
  go_enter Try.func37,Try.ntmps37
  go_wp2_with (first | ((with_reducible refine Qad (N:=1) rfl ?_); refine bx 1 #[.int .i64 a0_0, .int .i64 a0_1, .int .i64 a0_2, .int .i64 a0_3, .int .i64 a0_4, .int .i64 a0_5, .string a0_6, .slice A0_7 l0_7.length c0_7, .int .i64 a0_8, .int .i64 a0_9, .int .i64 a0_10] 38 (h := ?_); intro gb143 hg w16 hbox hb; have BK143:=Zz.k (hbox); have GW143:=bz HB hg; have GE143:=bz HB hg; replace HB:=bs HB hb; clear hb hbox hg; obtain ⟨_,_,_,_,_,_,_,_,_,_,_,_,_,_,_,_,_,_,_,_,_,_⟩:=kc11 BK143) | ((with_reducible refine Qac (f:=58) rfl ?_); refine gl (some 8) Try.func58 #[.int .i64 a0_0, .int .i64 a0_1] (h := ?_); (with_reducible refine (op_Name.calls a0_0 a0_1 false _ A2.out).mono ?_); rintro e w' ⟨rfl,⟨nd,rfl⟩⟩; refine ⟨_,rfl, ?_⟩))
  go_ret
  exact ⟨re,bw HB⟩
 subst c3
 rw [if_pos rfl] at H
 by_cases c4 : a0_2 = 1
 ·rw [if_pos c4] at H
  obtain ⟨c4b0,c4b1⟩:=bT c4
  clear c4
  obtain ⟨t145,A5,H⟩:=bE H
  obtain rfl:=Zo H
  go_enter Try.func37,Try.ntmps37
  go_wp2_with (first | ((with_reducible refine Qad (N:=1) rfl ?_); refine bx 1 #[.int .i64 a0_0, .int .i64 a0_1, .int .i64 a0_2, .int .i64 a0_3, .int .i64 a0_4, .int .i64 a0_5, .string a0_6, .slice A0_7 l0_7.length c0_7, .int .i64 a0_8, .int .i64 a0_9, .int .i64 a0_10] 38 (h := ?_); intro gb143 hg w6 hbox hb; have BK143:=Zz.k (hbox); have GW143:=bz HB hg; have GE143:=bz HB hg; replace HB:=bs HB hb; clear hb hbox hg; obtain ⟨_,_,_,_,_,_,_,_,_,_,_,_,_,_,_,_,_,_,_,_,_,_⟩:=kc11 BK143) | ((with_reducible refine Qac (f:=58) rfl ?_); refine gl (some 8) Try.func58 #[.int .i64 a0_0, .int .i64 a0_1] (h := ?_); (with_reducible refine (op_Name.calls a0_0 a0_1 true _ A2.out).mono ?_); rintro e w' ⟨rfl,⟨nd,rfl⟩⟩; refine ⟨_,rfl, ?_⟩) | ((with_reducible refine Qac (f:=59) rfl ?_); refine gl (some 15) Try.func59 #[.agg #[.int .i64 a0_0, .int .i64 a0_1, .int .i64 a0_2, .int .i64 a0_3, .int .i64 a0_4, .int .i64 a0_5, .string a0_6, .slice A0_7 l0_7.length c0_7, .int .i64 a0_8, .int .i64 a0_9, .int .i64 a0_10]] (h := ?_); (with_reducible refine (op_edit.calls k a0_0 a0_1 a0_2 a0_3 a0_4 a0_5 a0_6 _ _ l0_7 a0_8 a0_9 a0_10 t145 _ ?side1 ?side2 A5.out).mono ?_); (case side1 => repeat (first | exact (Kd.C_below HR0_7.out (bw HB)) | (with_reducible refine Kd.C_alloc ?_ _) | (with_reducible refine Kd.C_drewN ?_ _) | (with_reducible refine Kd.C_drew ?_))); (case side2 => exact HC0_7.out); rintro e w8 ⟨rfl,hb⟩; refine ⟨_,rfl, ?_⟩; replace BK143:=bl BK143 hb; replace HB:=bs HB hb; clear hb))
  go_ret
  exact ⟨re,bw HB⟩
 rw [if_neg c4] at H
 obtain ⟨c4b0,c4b1⟩:=bF c4
 by_cases c9 : a0_2 = 2; rotate_left
 ·rw [if_neg c9] at H
  obtain ⟨c9b0,c9b1⟩:=bF c9
  obtain rfl:=Zo H
  go_enter Try.func37,Try.ntmps37
  go_wp2_with (first | ((with_reducible refine Qad (N:=1) rfl ?_); refine bx 1 #[.int .i64 a0_0, .int .i64 a0_1, .int .i64 a0_2, .int .i64 a0_3, .int .i64 a0_4, .int .i64 a0_5, .string a0_6, .slice A0_7 l0_7.length c0_7, .int .i64 a0_8, .int .i64 a0_9, .int .i64 a0_10] 38 (h := ?_); intro gb143 hg w14 hbox hb; have BK143:=Zz.k (hbox); have GW143:=bz HB hg; have GE143:=bz HB hg; replace HB:=bs HB hb; clear hb hbox hg; obtain ⟨_,_,_,_,_,_,_,_,_,_,_,_,_,_,_,_,_,_,_,_,_,_⟩:=kc11 BK143) | ((with_reducible refine Qac (f:=58) rfl ?_); refine gl (some 8) Try.func58 #[.int .i64 a0_0, .int .i64 a0_1] (h := ?_); (with_reducible refine (op_Name.calls a0_0 a0_1 true _ A2.out).mono ?_); rintro e w' ⟨rfl,⟨nd,rfl⟩⟩; refine ⟨_,rfl, ?_⟩))
  go_ret
  exact ⟨re,bw HB⟩
 rw [if_pos c9] at H
 obtain ⟨c9b0,c9b1⟩:=bT c9
 clear c9
 obtain ⟨t146,A10,H⟩:=bE H
 obtain rfl:=Zo H
 go_enter Try.func37,Try.ntmps37
 go_wp2_with (first | ((with_reducible refine Qad (N:=1) rfl ?_); refine bx 1 #[.int .i64 a0_0, .int .i64 a0_1, .int .i64 a0_2, .int .i64 a0_3, .int .i64 a0_4, .int .i64 a0_5, .string a0_6, .slice A0_7 l0_7.length c0_7, .int .i64 a0_8, .int .i64 a0_9, .int .i64 a0_10] 38 (h := ?_); intro gb143 hg w11 hbox hb; have BK143:=Zz.k (hbox); have GW143:=bz HB hg; have GE143:=bz HB hg; replace HB:=bs HB hb; clear hb hbox hg; obtain ⟨_,_,_,_,_,_,_,_,_,_,_,_,_,_,_,_,_,_,_,_,_,_⟩:=kc11 BK143) | ((with_reducible refine Qac (f:=58) rfl ?_); refine gl (some 8) Try.func58 #[.int .i64 a0_0, .int .i64 a0_1] (h := ?_); (with_reducible refine (op_Name.calls a0_0 a0_1 true _ A2.out).mono ?_); rintro e w' ⟨rfl,⟨nd,rfl⟩⟩; refine ⟨_,rfl, ?_⟩) | (go_at_call 60; (with_reducible refine (op_toggle.calls a0_0 a0_1 a0_2 a0_3 a0_4 a0_5 a0_6 _ _ l0_7 a0_8 a0_9 a0_10 t146 _ ?side1 ?side2 A10.out).mono ?_); (case side1 => repeat (first | exact (Kd.C_below HR0_7.out (bw HB)) | (with_reducible refine Kd.C_alloc ?_ _) | (with_reducible refine Kd.C_drewN ?_ _) | (with_reducible refine Kd.C_drew ?_))); (case side2 => exact HC0_7.out); rintro e w13 ⟨rfl,hb⟩; replace BK143:=bl BK143 hb; replace HB:=bs HB hb; clear hb))
 go_ret
 exact ⟨re,bw HB⟩
def w0_OpWeight.f (a0_0 : Int) (a0_1 : Int) (a0_2 : Int) (a0_3 : Int) (a0_4 : Int) (a0_5 : Int) (a0_6 : ByteArray) (l0_7 : List (SElem)) (a0_8 : Int) (a0_9 : Int) (a0_10 : Int) : Option (Int):=some (wrap64 ((wrap64 (2 + (wrap64 ((a0_6.size : Int) / 4)))) + (l0_7.length : Int)))
theorem w0_OpWeight.calls (a0_0 : Int) (a0_1 : Int) (a0_2 : Int) (a0_3 : Int) (a0_4 : Int) (a0_5 : Int) (a0_6 : ByteArray) (A0_7 : Option Addr) (c0_7 : Nat) (l0_7 : List (SElem)) (a0_8 : Int) (a0_9 : Int) (a0_10 : Int) (r : Int) (w : World) (hr0_7 : Kd.C Qao w A0_7 l0_7.length l0_7) (hc0_7 : l0_7.length <= c0_7) (h : w0_OpWeight.f a0_0 a0_1 a0_2 a0_3 a0_4 a0_5 a0_6 l0_7 a0_8 a0_9 a0_10 = some r) :
  Calls Try.prog 47 #[.agg #[.int .i64 a0_0, .int .i64 a0_1, .int .i64 a0_2, .int .i64 a0_3, .int .i64 a0_4, .int .i64 a0_5, .string a0_6, .slice A0_7 l0_7.length c0_7, .int .i64 a0_8, .int .i64 a0_9, .int .i64 a0_10]] w fun e w' => e = .returned (.int .i64 r) /\ Below w.heap.size w w':=by
 have hu38:=Try.underlying38
 have HR0_7:=Zz.k hr0_7
 have HC0_7:=Zz.k hc0_7
 clear hr0_7 hc0_7
 have HB:=Zz.k (Below.refl w.heap.size w)
 unfold w0_OpWeight.f at h; have H:=h
 clear h
 obtain rfl:=Zo H
 go_enter Try.func47,Try.ntmps47
 go_wp2_with (first | ((with_reducible refine Qad (N:=1) rfl ?_); refine bx 1 #[.int .i64 a0_0, .int .i64 a0_1, .int .i64 a0_2, .int .i64 a0_3, .int .i64 a0_4, .int .i64 a0_5, .string a0_6, .slice A0_7 l0_7.length c0_7, .int .i64 a0_8, .int .i64 a0_9, .int .i64 a0_10] 38 (h := ?_); intro gb147 hg w2 hbox hb; have BK147:=Zz.k (hbox); have GW147:=bz HB hg; have GE147:=bz HB hg; replace HB:=bs HB hb; clear hb hbox hg; obtain ⟨_,_,_,_,_,_,_,_,_,_,_,_,_,_,_,_,_,_,_,_,_,_⟩:=kc11 BK147))
 go_ret
 exact ⟨re,bw HB⟩
def w0_OpsWeight.l0 : Nat -> List (SOp) -> Int -> Int -> Option (Int)
 | 0,_,_,_ => none
 | k + 1,x0,x3,x4 => if x4 < (x0.length : Int) then (if x3 < 1048576 then (if 0 <= x4 then ((w0_OpWeight.f ((Qab x0 x4).f0) ((Qab x0 x4).f1) ((Qab x0 x4).f2) ((Qab x0 x4).f3.f0) ((Qab x0 x4).f3.f1) ((Qab x0 x4).f3.f2) ((Qab x0 x4).f4) ((Qab x0 x4).f5) ((Qab x0 x4).f6) ((Qab x0 x4).f7) ((Qab x0 x4).f8)).bind fun t149 => (w0_OpsWeight.l0 k x0 (wrap64 (x3 + t149)) (wrap64 (x4 + 1)))) else (none)) else (some x3)) else (some x3)
def w0_OpsWeight.f (k : Nat) (l0 : List (SOp)) : Option (Int):=w0_OpsWeight.l0 k l0 (l0.length : Int) 0
theorem w0_OpsWeight.mono_l : ∀ k,(∀ y0 y1 y2,LeO (w0_OpsWeight.l0 k y0 y1 y2) (w0_OpsWeight.l0 (k + 1) y0 y1 y2))
 | 0 => fun _ _ _ r h => by simp [w0_OpsWeight.l0] at h
 | k + 1 => by
  have ih0:=w0_OpsWeight.mono_l k
  ·intro y0 y1 y2
   unfold w0_OpsWeight.l0
   repeat' first
   | (with_reducible exact ih0 _ _ _)
   | (with_reducible exact LeO.refl _)
   | (with_reducible exact LeO.none _)
   | (with_reducible refine LeO.ite ?_ ?_)
   | (with_reducible refine LeO.bind ?_ (fun _ => ?_))
   | exact ih0 _ _ _
   | exact LeO.none _
   | refine LeO.ite ?_ ?_
   | refine LeO.bind ?_ (fun _ => ?_)
theorem w0_OpsWeight.calls (k : Nat) (A0 : Option Addr) (c0 : Nat) (l0 : List (SOp)) (r : Int) (w : World) (hr0 : Kd.C kOp w A0 l0.length l0) (hc0 : l0.length <= c0) (h : w0_OpsWeight.f k l0 = some r) :
  Calls Try.prog 26 #[.slice A0 l0.length c0] w fun e w' => e = .returned (.int .i64 r) /\ Below w.heap.size w w':=by
 have hu38:=Try.underlying38
 have HR0:=Zz.k hr0
 have HC0:=Zz.k hc0
 clear hr0 hc0
 have HB:=Zz.k (Below.refl w.heap.size w)
 unfold w0_OpsWeight.f at h; have H:=h
 clear h
 have H':=Zz.k H
 clear H
 go_enter Try.func26,Try.ntmps26
 go_wp2
 go_loopg [3,4] k (fun kq v3 v4 w' => ∃ (x3_1 : Int) (x4_1 : Int),v3 = .int .i64 x3_1 /\ v4 = .int .i64 x4_1 /\ Zz (w0_OpsWeight.l0 kq l0 x3_1 x4_1 = some r) /\ Zz (kq <= k) /\ Zz (Below w.heap.size w w'))
 case atStart => exact ⟨((l0.length : Int)),(0),rf,rf,H',⟨Nat.le_refl _⟩,⟨bw HB⟩⟩
 case round =>
  clear H'
  obtain ⟨x3_1,x4_1,rfl,rfl,HA,HK1,HB⟩:=hrel
  cases gk with
  | zero => exact absurd HA.out (by simp [w0_OpsWeight.l0])
  | succ k1 =>
   have H:=HA.out
   clear HA
   simp only [w0_OpsWeight.l0] at H
   by_cases c2 : x4_1 < (l0.length : Int); rotate_left
   ·rw [if_neg c2] at H
    have c2b0:=Ze c2
    clear c2
    obtain rfl:=Zo H
    go_wp2
    go_ret
    exact ⟨re,bw HB⟩
   rw [if_pos c2] at H
   have c2b0:=Zd c2
   clear c2
   by_cases c3 : x3_1 < 1048576; rotate_left
   ·rw [if_neg c3] at H
    have c3b0:=Ze c3
    clear c3
    obtain rfl:=Zo H
    go_wp2
    go_ret
    exact ⟨re,bw HB⟩
   rw [if_pos c3] at H
   have c3b0:=Zd c3
   clear c3
   by_cases c4 : 0 <= x4_1; rotate_left
   ·rw [if_neg c4] at H
    exact absurd H (by simp)
   rw [if_pos c4] at H
   have c4b0:=Zd c4
   clear c4
   obtain ⟨t149,A5,H⟩:=bE H
   have H':=Zz.k H
   clear H
   have p148 : 0 <= (x4_1 : Int):=od
   have q148 : x4_1 < (l0.length : Int):=od
   obtain ⟨ad148,A148_7,c148_7,e148,hx148_0,hx148_1,hx148_2,hx148_3,hx148_4,hx148_5,hx148_6,hx148_7,hx148_8,hx148_9,hx148_10,hl148_7,hi148_7⟩:=at_Op HR0.out x4_1 p148 q148
   cases e148
   replace hx148_0:=cl HB hx148_0
   replace hx148_1:=cl HB hx148_1
   replace hx148_2:=cl HB hx148_2
   replace hx148_3:=cl HB hx148_3
   replace hx148_4:=cl HB hx148_4
   replace hx148_5:=cl HB hx148_5
   replace hx148_6:=cl HB hx148_6
   replace hx148_7:=cl HB hx148_7
   replace hx148_8:=cl HB hx148_8
   replace hx148_9:=cl HB hx148_9
   replace hx148_10:=cl HB hx148_10
   have HR148_7:=Zz.k hi148_7
   have HC148_7:=Zz.k hl148_7
   clear hi148_7 hl148_7
   replace p148:=eq_true p148
   replace q148:=eq_true q148
   go_wp2_with (first | ((with_reducible refine Qac (f:=47) rfl ?_); refine gl (some 22) Try.func47 #[.agg #[.int .i64 ((Qab l0 x4_1).f0), .int .i64 ((Qab l0 x4_1).f1), .int .i64 ((Qab l0 x4_1).f2), .int .i64 ((Qab l0 x4_1).f3.f0), .int .i64 ((Qab l0 x4_1).f3.f1), .int .i64 ((Qab l0 x4_1).f3.f2), .string ((Qab l0 x4_1).f4), .slice A148_7 ((Qab l0 x4_1).f5).length c148_7, .int .i64 ((Qab l0 x4_1).f6), .int .i64 ((Qab l0 x4_1).f7), .int .i64 ((Qab l0 x4_1).f8)]] (h := ?_); (with_reducible refine (w0_OpWeight.calls ((Qab l0 x4_1).f0) ((Qab l0 x4_1).f1) ((Qab l0 x4_1).f2) ((Qab l0 x4_1).f3.f0) ((Qab l0 x4_1).f3.f1) ((Qab l0 x4_1).f3.f2) ((Qab l0 x4_1).f4) _ _ ((Qab l0 x4_1).f5) ((Qab l0 x4_1).f6) ((Qab l0 x4_1).f7) ((Qab l0 x4_1).f8) t149 _ ?side1 ?side2 A5.out).mono ?_); (case side1 => exact cb HR148_7 HB); (case side2 => exact HC148_7.out); rintro e w6 ⟨rfl,hb⟩; refine ⟨_,rfl, ?_⟩; replace HB:=bs HB hb; clear hb))
   go_roundg k1
   case measure => have:=HK1.out; omega
   case rel => exact ⟨(wrap64 (x3_1 + t149)),(wrap64 (x4_1 + 1)),rf,rf,H',⟨by have:=HK1.out; omega⟩,⟨bw HB⟩⟩
def w4_Heavy.f (k : Nat) (l0_0 : List (SOp)) (l0_1 : List (SElem)) (l0_2 : List Int) : Option (Bool):=(w0_OpsWeight.f k l0_0).bind fun t151 => (some (decide ((wrap64 ((wrap64 (t151 + (l0_1.length : Int))) + (l0_2.length : Int))) > 900)))
def w4_Heavy.T1 : Bool × List (List Nat × List Nat):=(true,[([],[]),([0],[0]),([1],[1]),([],[]),([3],[3]),([4],[4]),([2,5],[2,5]),([],[]),([7],[7]),([8],[8]),([6,9],[6,9]),([10],[10]),([11,2,0,1,2,3,4,5,6,7,8,9,10,11],[11])])
def w4_Heavy.B1 : List Nat:=[0,1,3,0,8,24,63,0,128,384,1023,2047,4095]
theorem w4_Heavy.tab1 : rtab .any (opsOf Try.f18 1) = w4_Heavy.T1:=by kernel_rfl
theorem w4_Heavy.bits1 : Qaw w4_Heavy.T1.2 w4_Heavy.B1 = true:=by kernel_rfl
theorem w4_Heavy.calls (k : Nat) (A0_0 : Option Addr) (c0_0 : Nat) (l0_0 : List (SOp)) (A0_1 : Option Addr) (c0_1 : Nat) (l0_1 : List (SElem)) (A0_2 : Option Addr) (c0_2 : Nat) (l0_2 : List Int) (r : Bool) (w : World) (hr0_0 : Kd.C kOp w A0_0 l0_0.length l0_0) (hc0_0 : l0_0.length <= c0_0) (hr0_1 : Kd.C Qao w A0_1 l0_1.length l0_1) (hc0_1 : l0_1.length <= c0_1) (hr0_2 : Kd.C (Kd.int .i64) w A0_2 l0_2.length l0_2) (hc0_2 : l0_2.length <= c0_2) (h : w4_Heavy.f k l0_0 l0_1 l0_2 = some r) :
  Calls Try.prog 18 #[.agg #[.slice A0_0 l0_0.length c0_0, .slice A0_1 l0_1.length c0_1, .slice A0_2 l0_2.length c0_2]] w fun e w' => e = .returned (.bool r) /\ Below w.heap.size w w':=by
 have hu51:=Try.underlying51
 have HR0_0:=Zz.k hr0_0
 have HC0_0:=Zz.k hc0_0
 clear hr0_0 hc0_0
 have HR0_1:=Zz.k hr0_1
 have HC0_1:=Zz.k hc0_1
 clear hr0_1 hc0_1
 have HR0_2:=Zz.k hr0_2
 have HC0_2:=Zz.k hc0_2
 clear hr0_2 hc0_2
 have HB:=Zz.k (Below.refl w.heap.size w)
 unfold w4_Heavy.f at h; have H:=h
 clear h
 obtain ⟨t151,A2,H⟩:=bE H
 obtain rfl:=Zo H
 go_enter Try.func18,Try.ntmps18
 try go_wp2_with (first | ((with_reducible refine Qad (N:=1) rfl ?_); refine bx 1 #[.slice A0_0 l0_0.length c0_0, .slice A0_1 l0_1.length c0_1, .slice A0_2 l0_2.length c0_2] 51 (h := ?_); intro gb150 hg w3 hbox hb; have BK150:=Zz.k (hbox); have GW150:=bz HB hg; have GE150:=bz HB hg; replace HB:=bs HB hb; clear hb hbox hg))
 have n0_:=Zz.k (Qag BK150.out)
 have n1_:=Zz.k (Qah HB.out)
 clear BK150
 clear HB
 have BK150:=n0_
 have HB:=n1_
 clear n0_ n1_
 refine stP (fun w' => E3 w' gb150 (.slice A0_0 l0_0.length c0_0) (.slice A0_1 l0_1.length c0_1) (.slice A0_2 l0_2.length c0_2)) 13 (e3 BK150) (h:=fun hHeld => ?_); refine Qal w4_Heavy.tab1 w4_Heavy.bits1 (fun HT_ HW_ => ?_)
 generalize w3.drew = w4 at BK150 HB hHeld ⊢
 refine pu HT_ 0 3 1 (h := ?_)
 refine pu HT_ 3 6 9 (h := ?_)
 refine pu HT_ 7 10 137 (h := ?_)
 refine tk HT_ HW_ hHeld 1 4 139 (h := ?_)
 refine tk HT_ HW_ hHeld 4 7 155 (h := ?_)
 refine pu HT_ 5 8 187 (h := ?_)
 refine tk HT_ HW_ hHeld 8 11 443 (h := ?_)
 refine pu HT_ 9 12 955 (h := ?_)
 refine on HT_ 2 (some 5) 959 (h:=fun K hK => ?_)
 refine gS Try.func26 #[.slice A0_0 l0_0.length c0_0] (h := ?_)
 with_reducible refine (w0_OpsWeight.calls k _ _ l0_0 t151 _ ?side1 ?side2 A2.out).mono ?_
 (case side1 => exact cb HR0_0 HB)
 (case side2 => exact HC0_0.out)
 rintro e w5 ⟨rfl,hb⟩
 refine ⟨_,rfl, ?_⟩
 have n0_:=bl BK150 hb
 have n1_:=bs HB hb
 clear BK150
 clear HB
 have BK150:=n0_
 have HB:=n1_
 clear n0_ n1_
 (try clear hb)
 (try clear hb2)
 (try clear hk)
 (try clear hi)
 refine hK.out _ _ (e3 BK150) (fun hHeld => ?_)
 clear hK K
 refine nn 5 (h := ?_)
 refine pu HT_ 6 9 1023 (h := ?_)
 refine pu HT_ 10 13 2047 (h := ?_)
 refine pu HT_ 11 14 4095 (h := ?_)
 refine pu HT_ 12 2 8191 (h := ?_)
 refine dn HT_ (h := ?_)
 try go_wp2
 go_ret
 exact ⟨re,bw HB⟩
def w4_num.f (a0 : Int) : Option (Int):=some a0
theorem w4_num.calls (a0 : Int) (r : Int) (w : World) (h : w4_num.f a0 = some r) :
  Calls Try.prog 19 #[.int .i64 a0] w fun e w' => e = .returned (.int .i64 r) /\ Drawn0 w w':=by
 unfold w4_num.f at h; have H:=h
 clear h
 obtain rfl:=Zo H
 go_enter Try.func19,Try.ntmps19
 go_wp2
 go_ret
 exact ⟨rf,by repeat (first | exact Drawn0.refl _ | apply Drawn0.step)⟩
def op_Check.f (k : Nat) (a0_0 : Int) (a0_1 : Int) (a0_2 : Int) (a0_3 : Int) (a0_4 : Int) (a0_5 : Int) (a0_6 : ByteArray) (l0_7 : List (SElem)) (a0_8 : Int) (a0_9 : Int) (a0_10 : Int) : Option (Int):=(op_May.f k a0_0 a0_1 a0_2 a0_3 a0_4 a0_5 a0_6 l0_7 a0_8 a0_9 a0_10).bind fun t153 => (if t153 = true then (some 0) else (some 1))
theorem op_Check.mono : ∀ a0 a1 a2 a3 a4 a5 a6 a7 a8 a9 a10 k,LeO (op_Check.f k a0 a1 a2 a3 a4 a5 a6 a7 a8 a9 a10) (op_Check.f (k + 1) a0 a1 a2 a3 a4 a5 a6 a7 a8 a9 a10):=by
 intro a0 a1 a2 a3 a4 a5 a6 a7 a8 a9 a10 k
 unfold op_Check.f
 repeat' first
   | (with_reducible exact op_May.mono _ _ _ _ _ _ _ _ _ _ _ _)
   | (with_reducible exact LeO.refl _)
   | (with_reducible exact LeO.none _)
   | (with_reducible refine LeO.ite ?_ ?_)
   | (with_reducible refine LeO.bind ?_ (fun _ => ?_))
   | exact op_May.mono _ _ _ _ _ _ _ _ _ _ _ _
   | exact LeO.none _
   | refine LeO.ite ?_ ?_
   | refine LeO.bind ?_ (fun _ => ?_)
theorem op_Check.calls (k : Nat) (a0_0 : Int) (a0_1 : Int) (a0_2 : Int) (a0_3 : Int) (a0_4 : Int) (a0_5 : Int) (a0_6 : ByteArray) (A0_7 : Option Addr) (c0_7 : Nat) (l0_7 : List (SElem)) (a0_8 : Int) (a0_9 : Int) (a0_10 : Int) (r : Int) (w : World) (hr0_7 : Kd.C Qao w A0_7 l0_7.length l0_7) (hc0_7 : l0_7.length <= c0_7) (h : op_Check.f k a0_0 a0_1 a0_2 a0_3 a0_4 a0_5 a0_6 l0_7 a0_8 a0_9 a0_10 = some r) :
  Calls Try.prog 20 #[.agg #[.int .i64 a0_0, .int .i64 a0_1, .int .i64 a0_2, .int .i64 a0_3, .int .i64 a0_4, .int .i64 a0_5, .string a0_6, .slice A0_7 l0_7.length c0_7, .int .i64 a0_8, .int .i64 a0_9, .int .i64 a0_10]] w fun e w' => e = .returned (.int .i64 r) /\ Below w.heap.size w w':=by
 have hu38:=Try.underlying38
 have HR0_7:=Zz.k hr0_7
 have HC0_7:=Zz.k hc0_7
 clear hr0_7 hc0_7
 have HB:=Zz.k (Below.refl w.heap.size w)
 unfold op_Check.f at h; have H:=h
 clear h
 obtain ⟨t153,A2,H⟩:=bE H
 by_cases c3 : t153 = true
 ·subst c3
  rw [if_pos rfl] at H
  obtain rfl:=Zo H
  go_enter Try.func20,Try.ntmps20
  go_wp2_with (first | ((with_reducible refine Qad (N:=1) rfl ?_); refine bx 1 #[.int .i64 a0_0, .int .i64 a0_1, .int .i64 a0_2, .int .i64 a0_3, .int .i64 a0_4, .int .i64 a0_5, .string a0_6, .slice A0_7 l0_7.length c0_7, .int .i64 a0_8, .int .i64 a0_9, .int .i64 a0_10] 38 (h := ?_); intro gb152 hg w4 hbox hb; have BK152:=Zz.k (hbox); have GW152:=bz HB hg; have GE152:=bz HB hg; replace HB:=bs HB hb; clear hb hbox hg; obtain ⟨_,_,_,_,_,_,_,_,_,_,_,_,_,_,_,_,_,_,_,_,_,_⟩:=kc11 BK152) | ((with_reducible refine Qac (f:=37) rfl ?_); refine gl (some 4) Try.func37 #[.agg #[.int .i64 a0_0, .int .i64 a0_1, .int .i64 a0_2, .int .i64 a0_3, .int .i64 a0_4, .int .i64 a0_5, .string a0_6, .slice A0_7 l0_7.length c0_7, .int .i64 a0_8, .int .i64 a0_9, .int .i64 a0_10]] (h := ?_); (with_reducible refine (op_May.calls k a0_0 a0_1 a0_2 a0_3 a0_4 a0_5 a0_6 _ _ l0_7 a0_8 a0_9 a0_10 true _ ?side1 ?side2 A2.out).mono ?_); (case side1 => exact cb HR0_7 HB); (case side2 => exact HC0_7.out); rintro e w6 ⟨rfl,hb⟩; refine ⟨_,rfl, ?_⟩; replace BK152:=bl BK152 hb; replace HB:=bs HB hb; clear hb))
  go_ret
  exact ⟨re,bw HB⟩
 replace c3:=Zf c3
 subst c3
 rw [if_neg nft] at H
 obtain rfl:=Zo H
 go_enter Try.func20,Try.ntmps20
 go_wp2_with (first | ((with_reducible refine Qad (N:=1) rfl ?_); refine bx 1 #[.int .i64 a0_0, .int .i64 a0_1, .int .i64 a0_2, .int .i64 a0_3, .int .i64 a0_4, .int .i64 a0_5, .string a0_6, .slice A0_7 l0_7.length c0_7, .int .i64 a0_8, .int .i64 a0_9, .int .i64 a0_10] 38 (h := ?_); intro gb152 hg w7 hbox hb; have BK152:=Zz.k (hbox); have GW152:=bz HB hg; have GE152:=bz HB hg; replace HB:=bs HB hb; clear hb hbox hg; obtain ⟨_,_,_,_,_,_,_,_,_,_,_,_,_,_,_,_,_,_,_,_,_,_⟩:=kc11 BK152) | ((with_reducible refine Qac (f:=37) rfl ?_); refine gl (some 4) Try.func37 #[.agg #[.int .i64 a0_0, .int .i64 a0_1, .int .i64 a0_2, .int .i64 a0_3, .int .i64 a0_4, .int .i64 a0_5, .string a0_6, .slice A0_7 l0_7.length c0_7, .int .i64 a0_8, .int .i64 a0_9, .int .i64 a0_10]] (h := ?_); (with_reducible refine (op_May.calls k a0_0 a0_1 a0_2 a0_3 a0_4 a0_5 a0_6 _ _ l0_7 a0_8 a0_9 a0_10 false _ ?side1 ?side2 A2.out).mono ?_); (case side1 => exact cb HR0_7 HB); (case side2 => exact HC0_7.out); rintro e w9 ⟨rfl,hb⟩; refine ⟨_,rfl, ?_⟩; replace BK152:=bl BK152 hb; replace HB:=bs HB hb; clear hb))
 go_ret
 exact ⟨re,bw HB⟩
def op_All.l0 : Nat -> List (SElem) -> Int -> Int -> Int -> Int -> Int -> Int -> Int -> Int -> ByteArray -> List (SElem) -> Int -> Int -> Int -> Option ((List (SElem)))
 | 0,_,_,_,_,_,_,_,_,_,_,_,_,_,_ => none
 | k + 1,x2,x5,x6,x155000,x155001,x155002,x155003,x155004,x155005,x155006,x155007,x155008,x155009,x155010 => if x6 < x5 then ((op_At.f x155000 x155001 x155002 x155003 x155004 x155005 x155006 x155007 x155008 x155009 x155010 x6).bind fun bt156 => (if x2.length < 5864062014805 then (op_All.l0 k (x2 ++ [(⟨bt156.1,bt156.2.1,bt156.2.2⟩ : SElem)]) x5 (wrap64 (x6 + 1)) x155000 x155001 x155002 x155003 x155004 x155005 x155006 x155007 x155008 x155009 x155010) else (none))) else (some x2)
def op_All.f (k : Nat) (a0_0 : Int) (a0_1 : Int) (a0_2 : Int) (a0_3 : Int) (a0_4 : Int) (a0_5 : Int) (a0_6 : ByteArray) (l0_7 : List (SElem)) (a0_8 : Int) (a0_9 : Int) (a0_10 : Int) : Option ((List (SElem))):=(op_Size.f a0_0 a0_1 a0_2 a0_3 a0_4 a0_5 a0_6 l0_7 a0_8 a0_9 a0_10).bind fun t155 => (op_All.l0 k ([] : List (SElem)) t155 0 a0_0 a0_1 a0_2 a0_3 a0_4 a0_5 a0_6 l0_7 a0_8 a0_9 a0_10)
theorem op_All.mono_l : ∀ k,(∀ y0 y1 y2 y3 y4 y5 y6 y7 y8 y9 y10 y11 y12 y13,LeO (op_All.l0 k y0 y1 y2 y3 y4 y5 y6 y7 y8 y9 y10 y11 y12 y13) (op_All.l0 (k + 1) y0 y1 y2 y3 y4 y5 y6 y7 y8 y9 y10 y11 y12 y13))
 | 0 => fun _ _ _ _ _ _ _ _ _ _ _ _ _ _ r h => by simp [op_All.l0] at h
 | k + 1 => by
  have ih0:=op_All.mono_l k
  ·intro y0 y1 y2 y3 y4 y5 y6 y7 y8 y9 y10 y11 y12 y13
   unfold op_All.l0
   repeat' first
   | (with_reducible exact ih0 _ _ _ _ _ _ _ _ _ _ _ _ _ _)
   | (with_reducible exact LeO.refl _)
   | (with_reducible exact LeO.none _)
   | (with_reducible refine LeO.ite ?_ ?_)
   | (with_reducible refine LeO.bind ?_ (fun _ => ?_))
   | exact ih0 _ _ _ _ _ _ _ _ _ _ _ _ _ _
   | exact LeO.none _
   | refine LeO.ite ?_ ?_
   | refine LeO.bind ?_ (fun _ => ?_)
theorem op_All.mono : ∀ a0 a1 a2 a3 a4 a5 a6 a7 a8 a9 a10 k,LeO (op_All.f k a0 a1 a2 a3 a4 a5 a6 a7 a8 a9 a10) (op_All.f (k + 1) a0 a1 a2 a3 a4 a5 a6 a7 a8 a9 a10):=by
 intro a0 a1 a2 a3 a4 a5 a6 a7 a8 a9 a10 k
 have ih0:=op_All.mono_l k
 unfold op_All.f
 repeat' first
   | (with_reducible exact ih0 _ _ _ _ _ _ _ _ _ _ _ _ _ _)
   | (with_reducible exact LeO.refl _)
   | (with_reducible exact LeO.none _)
   | (with_reducible refine LeO.ite ?_ ?_)
   | (with_reducible refine LeO.bind ?_ (fun _ => ?_))
   | exact ih0 _ _ _ _ _ _ _ _ _ _ _ _ _ _
   | exact LeO.none _
   | refine LeO.ite ?_ ?_
   | refine LeO.bind ?_ (fun _ => ?_)
theorem op_All.calls (k : Nat) (a0_0 : Int) (a0_1 : Int) (a0_2 : Int) (a0_3 : Int) (a0_4 : Int) (a0_5 : Int) (a0_6 : ByteArray) (A0_7 : Option Addr) (c0_7 : Nat) (l0_7 : List (SElem)) (a0_8 : Int) (a0_9 : Int) (a0_10 : Int) (r : List (SElem)) (w : World) (hr0_7 : Kd.C Qao w A0_7 l0_7.length l0_7) (hc0_7 : l0_7.length <= c0_7) (h : op_All.f k a0_0 a0_1 a0_2 a0_3 a0_4 a0_5 a0_6 l0_7 a0_8 a0_9 a0_10 = some r) :
  Calls Try.prog 38 #[.agg #[.int .i64 a0_0, .int .i64 a0_1, .int .i64 a0_2, .int .i64 a0_3, .int .i64 a0_4, .int .i64 a0_5, .string a0_6, .slice A0_7 l0_7.length c0_7, .int .i64 a0_8, .int .i64 a0_9, .int .i64 a0_10]] w fun e w' => ∃ v0_ : Value,e = .returned (v0_) /\ Kd.R Qao 36 w' w.heap.size (fun _ => True) v0_ r /\ Below w.heap.size w w':=by
 have hu38:=Try.underlying38
 have HR0_7:=Zz.k hr0_7
 have HC0_7:=Zz.k hc0_7
 clear hr0_7 hc0_7
 have HB:=Zz.k (Below.refl w.heap.size w)
 unfold op_All.f at h; have H:=h
 clear h
 obtain ⟨t155,A2,H⟩:=bE H
 have H':=Zz.k H
 clear H
 go_enter Try.func38,Try.ntmps38
 go_wp2_with (first | ((with_reducible refine Qad (N:=1) rfl ?_); refine bx 1 #[.int .i64 a0_0, .int .i64 a0_1, .int .i64 a0_2, .int .i64 a0_3, .int .i64 a0_4, .int .i64 a0_5, .string a0_6, .slice A0_7 l0_7.length c0_7, .int .i64 a0_8, .int .i64 a0_9, .int .i64 a0_10] 38 (h := ?_); intro gb154 hg w3 hbox hb; have BK154:=Zz.k (hbox); have GW154:=bz HB hg; have GE154:=bz HB hg; replace HB:=bs HB hb; clear hb hbox hg; obtain ⟨_,_,_,_,_,_,_,_,_,_,_,_,_,_,_,_,_,_,_,_,_,_⟩:=kc11 BK154) | ((with_reducible refine Qac (f:=45) rfl ?_); refine gl (some 5) Try.func45 #[.agg #[.int .i64 a0_0, .int .i64 a0_1, .int .i64 a0_2, .int .i64 a0_3, .int .i64 a0_4, .int .i64 a0_5, .string a0_6, .slice A0_7 l0_7.length c0_7, .int .i64 a0_8, .int .i64 a0_9, .int .i64 a0_10]] (h := ?_); (with_reducible refine (op_Size.calls a0_0 a0_1 a0_2 a0_3 a0_4 a0_5 a0_6 _ _ l0_7 a0_8 a0_9 a0_10 t155 _ ?side1 ?side2 A2.out).mono ?_); (case side1 => exact cb HR0_7 HB); (case side2 => exact HC0_7.out); rintro e w5 ⟨rfl,hb⟩; refine ⟨_,rfl, ?_⟩; replace BK154:=bl BK154 hb; replace HB:=bs HB hb; clear hb))
 go_loopg [2,6] k (fun kq v2 v6 w' => ∃ (x2_1 : List (SElem)) (x6_1 : Int),v6 = .int .i64 x6_1 /\ Zz (op_All.l0 kq x2_1 t155 x6_1 a0_0 a0_1 a0_2 a0_3 a0_4 a0_5 a0_6 l0_7 a0_8 a0_9 a0_10 = some r) /\ Zz (kq <= k) /\ Zz (Kd.R Qao 36 w' w.heap.size (fun _ => True) v2 x2_1) /\ Zz (w'.heap[gb154]? = some (.cells #[.int .i64 a0_0, .int .i64 a0_1, .int .i64 a0_2, .int .i64 a0_3, .int .i64 a0_4, .int .i64 a0_5, .string a0_6,(.slice A0_7 l0_7.length c0_7), .int .i64 a0_8, .int .i64 a0_9, .int .i64 a0_10] 38 (0,0))) /\ Zz (Below w.heap.size w w'))
 case atStart => exact ⟨(([] : List (SElem))),(0),rf,H',⟨Nat.le_refl _⟩,⟨by first | exact Kd.R_nil _ _ _ _ _ | exact Kd.N_nil _ _ _ _ _ | exact Kd.V_nil _ _ _ _ _ | exact Kd.Q_nil _ _ _ _ _ | exact Kd.S_nil _ _ _ _ _⟩,⟨kk BK154⟩,⟨bw HB⟩⟩
 case round =>
  clear H'
  obtain ⟨x2_1,x6_1,rfl,HA,HK1,HO_2,BK154,HB⟩:=hrel
  cases gk with
  | zero => exact absurd HA.out (by simp [op_All.l0])
  | succ k1 =>
   have H:=HA.out
   clear HA
   simp only [op_All.l0] at H
   by_cases c6 : x6_1 < t155; rotate_left
   ·rw [if_neg c6] at H
    have c6b0:=Ze c6
    clear c6
    obtain rfl:=Zo H
    go_wp2
    go_ret
    exact ⟨_,re,by (with_reducible repeat (first | apply Kd.R_alloc | apply Kd.R_drewN | apply Kd.R_drew)); exact HO_2.out,bw HB⟩
   rw [if_pos c6] at H
   have c6b0:=Zd c6
   clear c6
   obtain ⟨⟨t156,t157,t158⟩,A7,H⟩:=bE H
   try dsimp only at H
   by_cases c8 : x2_1.length < 5864062014805; rotate_left
   ·rw [if_neg c8] at H
    exact absurd H (by simp)
   rw [if_pos c8] at H
   have LMc8:=Zz.k c8
   clear c8
   obtain ⟨y159,hy159⟩ : ∃ y_ : List (SElem),y_ = (x2_1 ++ [(⟨t156,t157,t158⟩ : SElem)]):=⟨_,rfl⟩
   first | rw [Option.bind_some,<- hy159] at H | rw [<- hy159] at H
   have Ny159:=Zz.k hy159
   clear hy159
   have H':=Zz.k H
   clear H
   obtain ⟨_,_,_,_,_,_,_,_,_,_,_,_,_,_,_,_,_,_,_,_,_,_⟩:=kc11 BK154
   go_wp2_with (first | ((with_reducible refine Qac (f:=46) rfl ?_); refine gl (some 12) Try.func46 #[.agg #[.int .i64 a0_0, .int .i64 a0_1, .int .i64 a0_2, .int .i64 a0_3, .int .i64 a0_4, .int .i64 a0_5, .string a0_6, .slice A0_7 l0_7.length c0_7, .int .i64 a0_8, .int .i64 a0_9, .int .i64 a0_10], .int .i64 x6_1] (h := ?_); (with_reducible refine (op_At.calls a0_0 a0_1 a0_2 a0_3 a0_4 a0_5 a0_6 _ _ l0_7 a0_8 a0_9 a0_10 x6_1 t156 t157 t158 _ ?side1 ?side2 A7.out).mono ?_); (case side1 => exact cb HR0_7 HB); (case side2 => exact HC0_7.out); rintro e w10 ⟨rfl,hb⟩; refine ⟨_,rfl, ?_⟩; replace HO_2:=rb HO_2 hb; replace BK154:=bl BK154 hb; replace HB:=bs HB hb; clear hb) | ((with_reducible refine gate_builtin (b:=.append) (xs:=#[.tmp 9, .tmp 13]) rfl ?_); at_builtin; refine Kd.R_append Qao (w0:=w) w.heap.size rfl (.tmp 9) (.tmp 13) 23 36 (.agg #[(.int .i64 0),(.int .i64 0),(.int .i64 0)]) 24 rfl Try.underlying23 info36 rfl (by decide) (by omega) u2 x2_1 (⟨t156,t157,t158⟩ : SElem) [.int .i64 t156, .int .i64 t157, .int .i64 t158] (fun _ => True) (fun _ => False) rfl rfl ?aP (fun _ hk => hk.elim) ?aF ?aO ?aB ?aS ?aL ?_; (case aP => exact kElem_mkM _ _ _ (⟨t156,t157,t158⟩ : SElem)); (case aB => exact (bw HB)); (case aF => exact (fun _ _ => trivial)); (case aO => exact (rk HO_2)); (case aS => exact (Qay (bw HB))); (case aL => have:=LMc8.out; omega); intro v160 w11 ho hb hg hat; rw [<- Ny159.out] at ho; have n0_:=Zz.k (blk_grown (kk BK154) hg (Kd.R_ne HO_2.out BK154.out (by decide))); have n1_:=Zz.k (hb); have n2_:=Zz.k (ho); clear BK154; clear HB; clear HO_2; have BK154:=n0_; have HB:=n1_; have HO161:=n2_; clear n0_ n1_ n2_; clear ho hb hg hat))
   go_roundg k1
   case measure => have:=HK1.out; omega
   case rel => exact ⟨(y159),(wrap64 (x6_1 + 1)),rf,H',⟨by have:=HK1.out; omega⟩,⟨rk HO161⟩,⟨kk BK154⟩,⟨bw HB⟩⟩
def op_Elems.f (k : Nat) (a0_0 : Int) (a0_1 : Int) (a0_2 : Int) (a0_3 : Int) (a0_4 : Int) (a0_5 : Int) (a0_6 : ByteArray) (l0_7 : List (SElem)) (a0_8 : Int) (a0_9 : Int) (a0_10 : Int) : Option ((List (SElem)) × Int):=(op_May.f k a0_0 a0_1 a0_2 a0_3 a0_4 a0_5 a0_6 l0_7 a0_8 a0_9 a0_10).bind fun t163 => (if t163 = true then ((op_All.f k a0_0 a0_1 a0_2 a0_3 a0_4 a0_5 a0_6 l0_7 a0_8 a0_9 a0_10).bind fun t164 => (some (t164,0))) else (some (([] : List (SElem)),1)))
theorem op_Elems.mono : ∀ a0 a1 a2 a3 a4 a5 a6 a7 a8 a9 a10 k,LeO (op_Elems.f k a0 a1 a2 a3 a4 a5 a6 a7 a8 a9 a10) (op_Elems.f (k + 1) a0 a1 a2 a3 a4 a5 a6 a7 a8 a9 a10):=by
 intro a0 a1 a2 a3 a4 a5 a6 a7 a8 a9 a10 k
 unfold op_Elems.f
 repeat' first
   | (with_reducible exact op_All.mono _ _ _ _ _ _ _ _ _ _ _ _)
   | (with_reducible exact op_May.mono _ _ _ _ _ _ _ _ _ _ _ _)
   | (with_reducible exact LeO.refl _)
   | (with_reducible exact LeO.none _)
   | (with_reducible refine LeO.ite ?_ ?_)
   | (with_reducible refine LeO.bind ?_ (fun _ => ?_))
   | exact op_All.mono _ _ _ _ _ _ _ _ _ _ _ _
   | exact op_May.mono _ _ _ _ _ _ _ _ _ _ _ _
   | exact LeO.none _
   | refine LeO.ite ?_ ?_
   | refine LeO.bind ?_ (fun _ => ?_)
theorem op_Elems.calls (k : Nat) (a0_0 : Int) (a0_1 : Int) (a0_2 : Int) (a0_3 : Int) (a0_4 : Int) (a0_5 : Int) (a0_6 : ByteArray) (A0_7 : Option Addr) (c0_7 : Nat) (l0_7 : List (SElem)) (a0_8 : Int) (a0_9 : Int) (a0_10 : Int) (r1 : List (SElem)) (r2 : Int) (w : World) (hr0_7 : Kd.C Qao w A0_7 l0_7.length l0_7) (hc0_7 : l0_7.length <= c0_7) (h : op_Elems.f k a0_0 a0_1 a0_2 a0_3 a0_4 a0_5 a0_6 l0_7 a0_8 a0_9 a0_10 = some (r1,r2)) :
  Calls Try.prog 21 #[.agg #[.int .i64 a0_0, .int .i64 a0_1, .int .i64 a0_2, .int .i64 a0_3, .int .i64 a0_4, .int .i64 a0_5, .string a0_6, .slice A0_7 l0_7.length c0_7, .int .i64 a0_8, .int .i64 a0_9, .int .i64 a0_10]] w fun e w' => ∃ v0_ : Value,e = .returned (.tuple #[v0_, .int .i64 r2]) /\ Kd.R Qao 36 w' w.heap.size (fun _ => True) v0_ r1 /\ Below w.heap.size w w':=by
 have hu38:=Try.underlying38
 have HR0_7:=Zz.k hr0_7
 have HC0_7:=Zz.k hc0_7
 clear hr0_7 hc0_7
 have HB:=Zz.k (Below.refl w.heap.size w)
 unfold op_Elems.f at h; have H:=h
 clear h
 obtain ⟨t163,A2,H⟩:=bE H
 by_cases c3 : t163 = true
 ·subst c3
  rw [if_pos rfl] at H
  obtain ⟨t164,A4,H⟩:=bE H
  simp only [Option.some.injEq,Prod.mk.injEq] at H
  obtain ⟨rfl,rfl⟩:=H
  go_enter Try.func21,Try.ntmps21
  go_wp2_with (first | ((with_reducible refine Qad (N:=1) rfl ?_); refine bx 1 #[.int .i64 a0_0, .int .i64 a0_1, .int .i64 a0_2, .int .i64 a0_3, .int .i64 a0_4, .int .i64 a0_5, .string a0_6, .slice A0_7 l0_7.length c0_7, .int .i64 a0_8, .int .i64 a0_9, .int .i64 a0_10] 38 (h := ?_); intro gb162 hg w5 hbox hb; have BK162:=Zz.k (hbox); have GW162:=bz HB hg; have GE162:=bz HB hg; replace HB:=bs HB hb; clear hb hbox hg; obtain ⟨_,_,_,_,_,_,_,_,_,_,_,_,_,_,_,_,_,_,_,_,_,_⟩:=kc11 BK162) | ((with_reducible refine Qac (f:=37) rfl ?_); refine gl (some 5) Try.func37 #[.agg #[.int .i64 a0_0, .int .i64 a0_1, .int .i64 a0_2, .int .i64 a0_3, .int .i64 a0_4, .int .i64 a0_5, .string a0_6, .slice A0_7 l0_7.length c0_7, .int .i64 a0_8, .int .i64 a0_9, .int .i64 a0_10]] (h := ?_); (with_reducible refine (op_May.calls k a0_0 a0_1 a0_2 a0_3 a0_4 a0_5 a0_6 _ _ l0_7 a0_8 a0_9 a0_10 true _ ?side1 ?side2 A2.out).mono ?_); (case side1 => exact cb HR0_7 HB); (case side2 => exact HC0_7.out); rintro e w7 ⟨rfl,hb⟩; refine ⟨_,rfl, ?_⟩; replace BK162:=bl BK162 hb; replace HB:=bs HB hb; clear hb; obtain ⟨_,_,_,_,_,_,_,_,_,_,_,_,_,_,_,_,_,_,_,_,_,_⟩:=kc11 BK162) | ((with_reducible refine Qac (f:=38) rfl ?_); refine gl (some 8) Try.func38 #[.agg #[.int .i64 a0_0, .int .i64 a0_1, .int .i64 a0_2, .int .i64 a0_3, .int .i64 a0_4, .int .i64 a0_5, .string a0_6, .slice A0_7 l0_7.length c0_7, .int .i64 a0_8, .int .i64 a0_9, .int .i64 a0_10]] (h := ?_); (with_reducible refine (op_All.calls k a0_0 a0_1 a0_2 a0_3 a0_4 a0_5 a0_6 _ _ l0_7 a0_8 a0_9 a0_10 t164 _ ?side1 ?side2 A4.out).mono ?_); (case side1 => exact cb HR0_7 HB); (case side2 => exact HC0_7.out); rintro e w9 ⟨v165,rfl,ho0,hb⟩; refine ⟨_,rfl, ?_⟩; have HO166:=Zz.k (Kd.R_lower ho0 (Qay (bw HB))); replace BK162:=bl BK162 hb; replace HB:=bs HB hb; clear hb; clear ho0))
  go_ret2
  exact ⟨_,re,by (with_reducible repeat (first | apply Kd.R_alloc | apply Kd.R_drewN | apply Kd.R_drew)); exact HO166.out,bw HB⟩
 replace c3:=Zf c3
 subst c3
 rw [if_neg nft] at H
 simp only [Option.some.injEq,Prod.mk.injEq] at H
 obtain ⟨rfl,rfl⟩:=H
 go_enter Try.func21,Try.ntmps21
 go_wp2_with (first | ((with_reducible refine Qad (N:=1) rfl ?_); refine bx 1 #[.int .i64 a0_0, .int .i64 a0_1, .int .i64 a0_2, .int .i64 a0_3, .int .i64 a0_4, .int .i64 a0_5, .string a0_6, .slice A0_7 l0_7.length c0_7, .int .i64 a0_8, .int .i64 a0_9, .int .i64 a0_10] 38 (h := ?_); intro gb162 hg w10 hbox hb; have BK162:=Zz.k (hbox); have GW162:=bz HB hg; have GE162:=bz HB hg; replace HB:=bs HB hb; clear hb hbox hg; obtain ⟨_,_,_,_,_,_,_,_,_,_,_,_,_,_,_,_,_,_,_,_,_,_⟩:=kc11 BK162) | ((with_reducible refine Qac (f:=37) rfl ?_); refine gl (some 5) Try.func37 #[.agg #[.int .i64 a0_0, .int .i64 a0_1, .int .i64 a0_2, .int .i64 a0_3, .int .i64 a0_4, .int .i64 a0_5, .string a0_6, .slice A0_7 l0_7.length c0_7, .int .i64 a0_8, .int .i64 a0_9, .int .i64 a0_10]] (h := ?_); (with_reducible refine (op_May.calls k a0_0 a0_1 a0_2 a0_3 a0_4 a0_5 a0_6 _ _ l0_7 a0_8 a0_9 a0_10 false _ ?side1 ?side2 A2.out).mono ?_); (case side1 => exact cb HR0_7 HB); (case side2 => exact HC0_7.out); rintro e w12 ⟨rfl,hb⟩; refine ⟨_,rfl, ?_⟩; replace BK162:=bl BK162 hb; replace HB:=bs HB hb; clear hb))
 go_ret2
 exact ⟨_,re,by first | exact Kd.R_nil _ _ _ _ _ | exact Kd.N_nil _ _ _ _ _ | exact Kd.V_nil _ _ _ _ _ | exact Kd.Q_nil _ _ _ _ _ | exact Kd.S_nil _ _ _ _ _,bw HB⟩
end
section
def Qam (e : SElem) : Bool:=e.f0 == 0 && (e.f1 == 0 && (e.f2 == 0))
def nameOk (s q : Int) : Bool:=decide (1 <= s) && decide (s <= 8) && decide (1 <= q) && decide (q <= 268435456)
def elemOk (e : SElem) : Bool:=Qam e || (nameOk e.f0 e.f1 && decide (0 <= e.f2) && decide (e.f2 < 12))
def ownEl (o : SOp) (e : SElem) : Bool:=e.f0 == o.f0 && e.f1 == o.f1
def Qat (a b : SElem) : Bool:=decide (a.f0 < b.f0) || (a.f0 == b.f0 && (decide (a.f1 < b.f1) || (a.f1 == b.f1 && decide (a.f2 < b.f2))))
def Qbe (o : SOp) : Option SElem -> List SElem -> Bool
 | _,[] => true
 | p,e :: r => !Qam e && elemOk e && !ownEl o e && (match p with | none => true | some q => Qat q e) && Qbe o (some e) r
def goneOk (o : SOp) : Bool:=Qbe o none o.f5 && decide (o.f5.length <= 200)
def Qas (o : SOp) : Nat:=(runesOf o.f4).length
def editOk (o : SOp) : Bool:=elemOk o.f3 && !ownEl o o.f3 && !(o.f4.toList.isEmpty && !Qam o.f3) && !(o.f4.toList.isEmpty && o.f5.isEmpty) && textOk o.f4 && decide (Qas o <= 12) && goneOk o && o.f6 == 0 && o.f7 == 0 && o.f8 == 0
def toggleOk (o : SOp) : Bool:=nameOk o.f6 o.f7 && !(o.f6 == o.f0 && o.f7 == o.f1) && decide (0 <= o.f8) && decide (o.f8 <= 268435456) && Qam o.f3 && o.f4.toList.isEmpty && o.f5.isEmpty
def opOk (o : SOp) : Bool:=nameOk o.f0 o.f1 && (if o.f2 = 1 then editOk o else o.f2 == 2 && toggleOk o)
def Sm (o : SOp) : Prop:=o.f4.size < 9223372036854775807 /\ o.f5.length <= 9223372036854775807
theorem op_IsSite_f (a : Int) : op_IsSite.f a = some (decide (1 <= a) && decide (a <= 8)):=by
 unfold op_IsSite.f
 by_cases h : 1 <= a <;> simp [h]
theorem op_Name_f (a b : Int) : op_Name.f a b = some (nameOk a b):=by
 unfold op_Name.f nameOk
 rw [op_IsSite_f]
 simp only [Option.bind_some]
 by_cases h1 : 1 <= a <;> by_cases h2 : a <= 8 <;> by_cases h3 : 1 <= b <;> simp [h1,h2,h3]
theorem op_IsElem_f (e : SElem) : op_IsElem.f e.f0 e.f1 e.f2 = some (elemOk e):=by
 unfold op_IsElem.f elemOk
 rw [op_Name_f]
 cases h : Qam e
 ·have h' : (e.f0 == 0 && (e.f1 == 0 && (e.f2 == 0))) = false:=h
  rw [if_neg (by rw [h']; simp)]
  simp only [Option.bind_some,Bool.false_or]
  cases nameOk e.f0 e.f1 <;> by_cases h2 : 0 <= e.f2 <;> simp [h2]
 ·have h' : (e.f0 == 0 && (e.f1 == 0 && (e.f2 == 0))) = true:=h
  rw [if_pos h']
  simp
theorem op_own_f (o : SOp) (e : SElem) : op_own.f o.f0 o.f1 o.f2 o.f3.f0 o.f3.f1 o.f3.f2 o.f4 o.f5 o.f6 o.f7 o.f8 e.f0 e.f1 e.f2 = some (ownEl o e):=by
 unfold op_own.f ownEl
 by_cases h : e.f0 = o.f0 <;> simp [h]
def cmpI (a b : Int) : Int:=if a < b then -1 else if a > b then 1 else 0
theorem Qbf (a b : Int) : cmp_Compare_int.f a b = some (cmpI a b):=by
 unfold cmp_Compare_int.f cmp_isNaN_int.f cmpI
 simp only [Option.bind_some,bne_self_eq_false,Bool.false_eq_true,if_false]
 by_cases h : a < b
 ·simp [h]
 ·by_cases h2 : a > b <;> simp [h,h2]
def cmpE (a b : SElem) : Int:=if cmpI a.f0 b.f0 ≠ 0 then cmpI a.f0 b.f0 else if cmpI a.f1 b.f1 ≠ 0 then cmpI a.f1 b.f1 else cmpI a.f2 b.f2
theorem Qak {i : Int} (h0 : -9223372036854775808 <= i) (h : i <= 9223372036854775807) : wrap64 i = i:=by
 unfold wrap64; omega
theorem cmp_Or_three (x y z : Int) : cmp_Or_int.f 5 [x,y,z] = some (if x ≠ 0 then x else if y ≠ 0 then y else z):=by
 have w1 : wrap64 1 = 1:=Qak (by omega) (by omega)
 have w2 : wrap64 2 = 2:=Qak (by omega) (by omega)
 have w3 : wrap64 3 = 3:=Qak (by omega) (by omega)
 unfold cmp_Or_int.f
 by_cases hx : x = 0
 ·by_cases hy : y = 0
  ·by_cases hz : z = 0
   ·subst hx hy hz; simp [cmp_Or_int.l0,rd,w1,w2,w3]
   ·subst hx hy; simp [cmp_Or_int.l0,rd,w1,w2,w3,hz]
  ·subst hx; simp [cmp_Or_int.l0,rd,w1,w2,w3,hy]
 ·simp [cmp_Or_int.l0,rd,hx]
theorem op_Compare_f (a b : SElem) : op_Compare.f 5 a.f0 a.f1 a.f2 b.f0 b.f1 b.f2 = some (cmpE a b):=by
 unfold op_Compare.f cmpE
 rw [Qbf,Qbf,Qbf]
 simp only [Option.bind_some]
 rw [cmp_Or_three]
 rfl
theorem cmpE_neg (a b : SElem) : decide (cmpE a b < 0) = Qat a b:=by
 unfold cmpE Qat cmpI
 by_cases h0 : a.f0 < b.f0
 ·simp [h0]
 ·by_cases h1 : a.f0 > b.f0
  ·have : ¬ a.f0 = b.f0:=by omega
   simp [h0,h1,this]
  ·have e0 : a.f0 = b.f0:=by omega
   by_cases h2 : a.f1 < b.f1
   ·simp [e0,h2]
   ·by_cases h3 : a.f1 > b.f1
    ·have : ¬ a.f1 = b.f1:=by omega
     simp [e0,h2,h3,this]
    ·have e1 : a.f1 = b.f1:=by omega
     by_cases h4 : a.f2 < b.f2
     ·simp [e0,e1,h4]
     ·by_cases h5 : a.f2 > b.f2 <;> simp [e0,e1,h4,h5]
theorem op_Less_f (a b : SElem) : op_Less.f 5 a.f0 a.f1 a.f2 b.f0 b.f1 b.f2 = some (Qat a b):=by
 unfold op_Less.f
 rw [op_Compare_f]
 simp only [Option.bind_some]
 rw [cmpE_neg]
theorem op_Less_ev (a b : SElem) : Ev (fun k => op_Less.f k a.f0 a.f1 a.f2 b.f0 b.f1 b.f2) (Qat a b) :=
 Ev.of (op_Less.mono _ _ _ _ _ _) (op_Less_f a b)
theorem op_Size_f (o : SOp) (h : Sm o) : op_Size.f o.f0 o.f1 o.f2 o.f3.f0 o.f3.f1 o.f3.f2 o.f4 o.f5 o.f6 o.f7 o.f8 = some (Qas o : Int):=by
 unfold op_Size.f utf8_RuneCountInString.f
 rw [if_pos h.1]
 rfl
theorem Qaj (l : List SElem) (i : Nat) (h : i < l.length) : Qaa l (i : Int) = l[i]:=by
 unfold Qaa; simp [List.getD_eq_getElem?_getD,h]
theorem op_gone_ev (o : SOp) (h : Sm o) : ∀ d i,i + d = o.f5.length ->
  Ev (fun k => op_gone.l0 k o.f5 (o.f5.length : Int) (i : Int) o.f0 o.f1 o.f2 o.f3.f0 o.f3.f1 o.f3.f2 o.f4 o.f5 o.f6 o.f7 o.f8)
   (Qbe o (if i = 0 then none else some (Qaa o.f5 ((i : Int) - 1))) (o.f5.drop i) && decide (o.f5.length <= 200)):=by
 intro d
 induction d with
 | zero =>
  intro i hi
  refine Ev.step (f:=fun _ => some (Qbe o (if i = 0 then none else some (Qaa o.f5 ((i : Int) - 1))) (o.f5.drop i) && decide (o.f5.length <= 200))) (fun k => ?_) (Ev.now _)
  have e : o.f5.drop i = []:=List.drop_eq_nil_of_le (by omega)
  simp only [op_gone.l0]
  rw [if_neg (by omega),e]
  simp [Qbe]
  omega
 | succ d ih =>
  intro i hi
  have hlt : i < o.f5.length:=by omega
  have hI : (i : Int) < (o.f5.length : Int):=by omega
  have hw : wrap64 ((i : Int) + 1) = ((i + 1 : Nat) : Int):=by rw [Qak (by omega) (by have:=h.2; omega)]; omega
  have hw1 : wrap64 ((i : Int) - 1) = (i : Int) - 1:=Qak (by omega) (by have:=h.2; omega)
  have ih':=ih (i + 1) (by omega)
  have hd : o.f5.drop i = Qaa o.f5 (i : Int) :: o.f5.drop (i + 1):=by rw [Qaj _ _ hlt]; exact List.drop_eq_getElem_cons hlt
  rw [hd]
  generalize hx : Qaa o.f5 (i : Int) = x
  have hp1 : Qaa o.f5 (((i + 1 : Nat) : Int) - 1) = x:=by rw [show (((i + 1 : Nat) : Int) - 1) = (i : Int) by omega]; exact hx
  rw [if_neg (show ¬ i + 1 = 0 by omega),hp1] at ih'
  have hb0 : (x.f0 == 0 && (x.f1 == 0 && (x.f2 == 0))) = Qam x:=rfl
  have unf : ∀ k,op_gone.l0 (k + 1) o.f5 (o.f5.length : Int) (i : Int) o.f0 o.f1 o.f2 o.f3.f0 o.f3.f1 o.f3.f2 o.f4 o.f5 o.f6 o.f7 o.f8 =
    (if Qam x = true then some false else if elemOk x = true then (if ownEl o x = true then some false else if (i : Int) > 0 then
     ((op_Less.f k (Qaa o.f5 ((i : Int) - 1)).f0 (Qaa o.f5 ((i : Int) - 1)).f1 (Qaa o.f5 ((i : Int) - 1)).f2 x.f0 x.f1 x.f2).bind fun t => if t = true then op_gone.l0 k o.f5 (o.f5.length : Int) ((i + 1 : Nat) : Int) o.f0 o.f1 o.f2 o.f3.f0 o.f3.f1 o.f3.f2 o.f4 o.f5 o.f6 o.f7 o.f8 else some false)
     else op_gone.l0 k o.f5 (o.f5.length : Int) ((i + 1 : Nat) : Int) o.f0 o.f1 o.f2 o.f3.f0 o.f3.f1 o.f3.f2 o.f4 o.f5 o.f6 o.f7 o.f8) else some false):=by
   intro k
   simp only [op_gone.l0]
   rw [if_pos hI,if_pos (show (0 : Int) <= (i : Int) by omega),if_pos hI,hx,hb0,op_IsElem_f,op_own_f,hw,hw1]
   simp only [Option.bind_some]
   by_cases hi0 : (i : Int) > 0
   ·rw [if_pos (show (0 : Int) <= (i : Int) - 1 by omega),if_pos (show (i : Int) - 1 < (o.f5.length : Int) by omega)]
   ·simp only [hi0,if_false]
  refine Ev.step unf ?_
  cases hb : Qam x
  ·cases he : elemOk x
   ·simpa [Qbe,hb,he] using Ev.now false
   ·cases ho : ownEl o x
    ·by_cases hi0 : (i : Int) > 0
     ·have hne : ¬ i = 0:=by omega
      simp only [hi0,if_true,Bool.false_eq_true,if_false,hne]
      refine Ev.bind (op_Less_ev _ _) ?_
      cases hl : Qat (Qaa o.f5 ((i : Int) - 1)) x
      ·simpa [Qbe,hb,he,ho,hl] using Ev.now false
      ·simpa [Qbe,hb,he,ho,hl] using ih'
     ·have hz : i = 0:=by omega
      subst hz
      simpa [Qbe,hb,he,ho] using ih'
    ·simpa [Qbe,hb,he,ho] using Ev.now false
  ·simpa [Qbe,hb] using Ev.now false
theorem op_gone_f (o : SOp) (h : Sm o) : Ev (fun k => op_gone.f k o.f0 o.f1 o.f2 o.f3.f0 o.f3.f1 o.f3.f2 o.f4 o.f5 o.f6 o.f7 o.f8) (goneOk o):=by
 have:=op_gone_ev o h o.f5.length 0 (by omega)
 simpa [goneOk,op_gone.f] using this
theorem toList_isEmpty (s : ByteArray) : (s.toList = ([] : List UInt8)) ↔ s.toList.isEmpty = true:=by
 cases s.toList <;> simp
theorem isEmpty_len {α : Type} (l : List α) : ((l.length : Int) == 0) = l.isEmpty:=by
 cases l with
 | nil => rfl
 | cons a r => simp; omega
theorem op_toggle_f (o : SOp) : op_toggle.f o.f0 o.f1 o.f2 o.f3.f0 o.f3.f1 o.f3.f2 o.f4 o.f5 o.f6 o.f7 o.f8 = some (toggleOk o):=by
 unfold op_toggle.f toggleOk
 rw [op_Name_f]
 simp only [Option.bind_some,isEmpty_len,toList_isEmpty]
 have hb0 : (o.f3.f0 == 0 && (o.f3.f1 == 0 && (o.f3.f2 == 0))) = Qam o.f3:=rfl
 rw [hb0]
 cases nameOk o.f6 o.f7
 ·simp
 ·by_cases h1 : o.f6 = o.f0
  ·by_cases h2 : o.f7 = o.f1
   ·simp [h1,h2]
   ·by_cases h3 : o.f8 < 0
    ·have : ¬ 0 <= o.f8:=by omega
     simp [h1,h2,h3,this]
    ·have h3' : 0 <= o.f8:=by omega
     by_cases h4 : o.f8 > 268435456
     ·have : ¬ o.f8 <= 268435456:=by omega
      simp [h1,h2,h3,h4,this]
     ·have h4' : o.f8 <= 268435456:=by omega
      cases Qam o.f3 <;> cases o.f4.toList.isEmpty <;> simp [h1,h2,h3,h4,h3',h4']
  ·by_cases h3 : o.f8 < 0
   ·have : ¬ 0 <= o.f8:=by omega
    simp [h1,h3,this]
   ·have h3' : 0 <= o.f8:=by omega
    by_cases h4 : o.f8 > 268435456
    ·have : ¬ o.f8 <= 268435456:=by omega
     simp [h1,h3,h4,this]
    ·have h4' : o.f8 <= 268435456:=by omega
     cases Qam o.f3 <;> cases o.f4.toList.isEmpty <;> simp [h1,h3,h4,h3',h4']
theorem not_begin (e : SElem) : (!(e.f0 == 0) || (!(e.f1 == 0) || (!(e.f2 == 0)))) = !Qam e:=by
 unfold Qam; cases (e.f0 == 0) <;> cases (e.f1 == 0) <;> cases (e.f2 == 0) <;> rfl
def editRest (o : SOp) : Bool:=textOk o.f4 && decide (Qas o <= 12) && goneOk o && o.f6 == 0 && o.f7 == 0 && o.f8 == 0
theorem op_edit_j (o : SOp) (h : Sm o) (b : Bool) : Ev (fun k => op_edit.j0 k b o.f0 o.f1 o.f2 o.f3.f0 o.f3.f1 o.f3.f2 o.f4 o.f5 o.f6 o.f7 o.f8) (!b && editRest o):=by
 refine Ev.step (f:=fun k => if b = true then some false else if textOk o.f4 = true then (if (Qas o : Int) <= 12 then (op_gone.f k o.f0 o.f1 o.f2 o.f3.f0 o.f3.f1 o.f3.f2 o.f4 o.f5 o.f6 o.f7 o.f8).bind fun t => if t = true then (if o.f6 = 0 then (if o.f7 = 0 then some (o.f8 == 0) else some false) else some false) else some false else some false) else some false) (fun k => ?_) ?_
 ·simp only [op_edit.j0,text_May.f,Option.bind_some]
  rw [op_Size_f o h]
  simp only [Option.bind_some]
 ·cases b
  ·simp only [Bool.false_eq_true,if_false,Bool.not_false,Bool.true_and]
   unfold editRest
   cases textOk o.f4
   ·simpa using Ev.now false
   ·by_cases hs : (Qas o : Int) <= 12
    ·have hs' : Qas o <= 12:=by omega
     simp only [hs,hs',if_true,decide_true,Bool.true_and]
     refine Ev.bind (op_gone_f o h) ?_
     cases goneOk o
     ·simpa using Ev.now false
     ·by_cases h6 : o.f6 = 0
      ·by_cases h7 : o.f7 = 0
       ·simpa [h6,h7] using Ev.now (o.f8 == 0)
       ·have b7 : (o.f7 == 0) = false:=by simpa using h7
        simpa [h6,h7,b7] using Ev.now false
      ·have b6 : (o.f6 == 0) = false:=by simpa using h6
       simpa [h6,b6] using Ev.now false
    ·have hs' : ¬ Qas o <= 12:=by omega
     simpa [hs,hs'] using Ev.now false
  ·simpa using Ev.now false
theorem op_edit_f (o : SOp) (h : Sm o) : Ev (fun k => op_edit.f k o.f0 o.f1 o.f2 o.f3.f0 o.f3.f1 o.f3.f2 o.f4 o.f5 o.f6 o.f7 o.f8) (editOk o):=by
 have e : editOk o = (!(!elemOk o.f3 || ownEl o o.f3 || (o.f4.toList.isEmpty && !Qam o.f3) || (o.f4.toList.isEmpty && o.f5.isEmpty)) && editRest o):=by
  unfold editOk editRest
  cases elemOk o.f3 <;> cases ownEl o o.f3 <;> cases o.f4.toList.isEmpty <;> cases Qam o.f3 <;> cases o.f5.isEmpty <;> simp
 rw [e]
 unfold op_edit.f
 simp only [op_IsElem_f,op_own_f,Option.bind_some,isEmpty_len,toList_isEmpty,not_begin]
 cases elemOk o.f3
 ·simpa using op_edit_j o h true
 ·cases ownEl o o.f3
  ·cases h4 : o.f4.toList.isEmpty
   ·simpa [h4] using op_edit_j o h false
   ·cases h5 : Qam o.f3
    ·simpa [h4,h5] using op_edit_j o h true
    ·simpa [h4,h5] using op_edit_j o h o.f5.isEmpty
  ·simpa using op_edit_j o h true
theorem op_May_f (o : SOp) (h : Sm o) : Ev (fun k => op_May.f k o.f0 o.f1 o.f2 o.f3.f0 o.f3.f1 o.f3.f2 o.f4 o.f5 o.f6 o.f7 o.f8) (opOk o):=by
 unfold op_May.f opOk
 simp only [op_Name_f,op_toggle_f,Option.bind_some]
 cases nameOk o.f0 o.f1
 ·simpa using Ev.now false
 ·by_cases h1 : o.f2 = 1
  ·simp only [h1,if_true,Bool.true_and]
   have:=op_edit_f o h
   rw [h1] at this
   exact Ev.bind this (Ev.now _)
  ·by_cases h2 : o.f2 = 2
   ·simpa [h1,h2] using Ev.now (toggleOk o)
   ·have b2 : (o.f2 == 2) = false:=by simpa using h2
    simpa [h1,h2,b2] using Ev.now false
end
section
abbrev RE (w : World) (base : Nat) (v : Value) (xs : List SElem) : Prop:=Qao.R 36 w base (fun _ => True) v xs
theorem RE_set {w : World} {base g n c : Nat} {xs : List SElem} (h : RE w base (.slice (some ⟨g,0,none⟩) n c) xs) (i : Nat) (hi : i < n) (x : SElem) :
  RE (((w.setCell ⟨g,i * 3,none⟩ (.int .i64 x.f0)).setCell ⟨g,i * 3 + 1,none⟩ (.int .i64 x.f1)).setCell ⟨g,i * 3 + 2,none⟩ (.int .i64 x.f2)) base (.slice (some ⟨g,0,none⟩) n c) (xs.set i x) /\
   w.grownBy (((w.setCell ⟨g,i * 3,none⟩ (.int .i64 x.f0)).setCell ⟨g,i * 3 + 1,none⟩ (.int .i64 x.f1)).setCell ⟨g,i * 3 + 2,none⟩ (.int .i64 x.f2)) (some g):=by
 obtain ⟨cs,hl,hM,hc,hf⟩:=Kd.R_elem h zElem (i : Int) (by omega) (by omega)
 have hl3 : cs.length = 3:=hl
 have:=Kd.R_seg h (i : Int) (by omega) (by omega) (c:=cs) (seg:=[.int .i64 x.f0, .int .i64 x.f1, .int .i64 x.f2]) (j:=0) (x':=x) (okp:=fun k => True /\ k ≠ g) hl hc (by show 0 + 3 <= 3; omega) (by
  have : cs.take 0 ++ [Value.int .i64 x.f0, .int .i64 x.f1, .int .i64 x.f2] ++ cs.drop (0 + [Value.int .i64 x.f0, .int .i64 x.f1, .int .i64 x.f2].length) = [.int .i64 x.f0, .int .i64 x.f1, .int .i64 x.f2]:=by
   rw [List.take_zero,List.nil_append,List.drop_eq_nil_of_le (by simp; omega),List.append_nil]
  rw [this]; exact kElem_mkM _ _ _ x) (fun k hk => hk)
 exact this
theorem grown_then {w w1 w2 : World} {row : Option Nat} (h : w.grownBy w1 row) (k : Below w1.heap.size w1 w2) : w.grownBy w2 row :=
 ⟨k.os.trans h.os,k.tape.trans h.tape,k.output.trans h.output,Nat.le_trans h.size k.size,fun i hi hne => (k.block i (Nat.lt_of_lt_of_le hi h.size)).trans (h.block i hi hne)⟩
theorem Qav {w w1 w2 : World} {row : Option Nat} (h : w.grownBy w1 row) (k : w1.grownBy w2 row) : w.grownBy w2 row :=
 ⟨k.os.trans h.os,k.tape.trans h.tape,k.output.trans h.output,Nat.le_trans h.size k.size,fun i hi hne => (k.block i (Nat.lt_of_lt_of_le hi h.size) hne).trans (h.block i hi hne)⟩
theorem filter_first (l : List SElem) (p : SElem -> Bool) {i : Nat} (hi : i < l.length) (hpi : p (Qaa l (i : Int)) = true) (hlt : ∀ j,j < i -> p (Qaa l (j : Int)) = false) : l.take i = (l.take (i + 1)).filter (fun x => !p x):=by
 rw [List.take_succ_eq_append_getElem hi,List.filter_append]
 rw [Qaj _ _ hi] at hpi
 have h1 : (l.take i).filter (fun x => !p x) = l.take i:=by
  rw [List.filter_eq_self]
  intro x hx
  obtain ⟨j,hj,rfl⟩:=List.mem_take_iff_getElem.1 hx
  have:=hlt j (by omega)
  rw [Qaj _ _ (by omega)] at this
  simp [this]
 rw [h1]; simp [hpi]
def zs (n : Nat) : List Value:=(Builtin.zeroCells #[.int .i64 0, .int .i64 0, .int .i64 0] n).toList
theorem zs_len (n : Nat) : (zs n).length = n * 3:=by simp [zs,Builtin.zeroCells]
theorem zs_one (n : Nat) : ∀ v ∈ zs n,v.oneCell' = true:=by
 intro v hv
 unfold zs Builtin.zeroCells at hv
 simp only [Array.toList_map,List.mem_map] at hv
 obtain ⟨i,_,rfl⟩:=hv
 have h : i % 3 = 0 \/ i % 3 = 1 \/ i % 3 = 2:=by omega
 show (#[Value.int .i64 0, .int .i64 0, .int .i64 0][i % 3]!).oneCell' = true
 rcases h with h | h | h <;> rw [h] <;> rfl
theorem run_clear_elem (w : World) (ty : TypeId) (b o n c : Nat) (hn : 0 < n) (hc : ∀ j,j < n * 3 -> (w.cell? ⟨b,o + j,none⟩).isSome = true) (hf : ∀ j,j < n * 3 -> w.frozen? ⟨b,o + j,none⟩ = false) :
  (Builtin.clear_ #[23] ty #[.slice (some ⟨b,o,none⟩) n c]).run Try.prog w = .ok (.tuple #[]) (w.setCells b o (zs n)):=by
 have hst:=run_storeCells_cells (P:=Try.prog) b o (zs n) 0 w (by rw [zs_len]; simpa using hc) (by rw [zs_len]; simpa using hf) (zs_one n)
 simp only [Nat.add_zero] at hst
 have hv:=Try.zeroValue36
 obtain ⟨m,rfl⟩ : ∃ m,n = m + 1:=⟨n - 1,by omega⟩
 simp only [Builtin.clear_]
 unfold zs at hst ⊢
 simp [run_underlying Try.underlying23,hv,Value.cells,hst]
theorem RE_clear {w : World} {base g n c : Nat} {xs : List SElem} (h : RE w base (.slice (some ⟨g,0,none⟩) n c) xs) (a : Nat) (ha : a <= n) (seg : List Value) (hs : a * 3 + seg.length <= n * 3) :
  RE (w.setCells g (a * 3) seg) base (.slice (some ⟨g,0,none⟩) a c) (xs.take a) /\ w.grownBy (w.setCells g (a * 3) seg) (some g) /\ (∀ j,j < n * 3 -> (w.cell? ⟨g,j,none⟩).isSome = true) /\ ∀ j,w.frozen? ⟨g,j,none⟩ = false:=by
 have hn:=(Kd.R_reads' h).1
 obtain ⟨_,inner0,own0,hr0⟩:=h
 have hT:=Kd.R_take (m:=a) (show RE w base (.slice (some ⟨g,0,none⟩) n c) xs from ⟨fun _ _ => trivial,inner0,own0,hr0⟩) (by omega)
 obtain ⟨hok,inner,ho,hr⟩:=hT
 obtain ⟨ho1,ho2⟩:=ho
 obtain ⟨_,ho02⟩:=own0
 rcases ho02 with ⟨hv,_⟩ | ⟨g0,cap0,cur0,hv0,hb0,hh0,hnc0,hcm0,hcs0,ht0⟩
 ·cases hv
 rcases ho2 with ⟨hv,_⟩ | ⟨g',cap',cur,hv,hb,hh,hnc',hcm,hcs,ht⟩
 ·cases hv
 injection hv with hA _ hc
 injection hA with hA
 injection hA with hg
 subst hg; subst hc
 injection hv0 with hA _ hc
 injection hA with hA
 injection hA with hg
 subst hg; subst hc
 have e : cur0 = cur:=by
  rw [hh] at hh0; injection hh0 with hh0; injection hh0 with hh0; exact hh0.symm
 subst e
 have hfit : a * 3 + seg.length <= cur0.size:=by
  have h3 : Qao.sz = 3:=rfl
  rw [hcs0,h3]; omega
 obtain ⟨cur',h3,h4,h5⟩:=setCells_row seg (a * 3) w cur0 hh hfit
 obtain ⟨s1,s2,s3,s4⟩:=setCells_same g seg (a * 3) w
 refine ⟨⟨hok,inner,⟨ho1, .inr ⟨g,c,cur',by rw [List.length_take,Nat.min_eq_left (by omega)],hb,h3,hnc',hcm,by rw [h4,hcs], ?_⟩⟩,hr⟩,⟨s1,s2,s3,by rw [s4]; exact Nat.le_refl _,fun k _ hk => setCells_far seg _ k (fun he => hk (by rw [he]))⟩,fun j hj => ?_,fun j => blk_frozen hh j⟩
 ·rw [<- ht,h5]
  have hl : (cur0.toList.take (a * 3)).length = a * 3:=by rw [List.length_take,Array.length_toList]; omega
  have h33 : (xs.take a).length * 3 = a * 3:=by rw [List.length_take]; omega
  show List.take ((xs.take a).length * 3) _ = List.take ((xs.take a).length * 3) _
  rw [h33,List.append_assoc,List.take_append_of_le_length (by omega),List.take_take,Nat.min_self]
 ·rw [cell_of_row w g j cur0 _ (0,0) hh,Array.getElem?_eq_getElem (by have h3 : Qao.sz = 3:=rfl; rw [hcs0,h3]; omega)]
  rfl
theorem DeleteFuncElem (gf : Nat) (lb : Array Value) (base c : Nat) (A : Option Addr) (l : List SElem) (p : SElem -> Bool) (w : World) (eg : ∀ args w,(callFunc gf args).run Try.prog w = .ok (.enter gf args) w)
  (hm : l.length <= 1000000000) (h0 : RE w base (.slice A l.length c) l)
  (hs : ∀ W x,x ∈ l -> w.grownBy W (Value.slice A l.length c).ownBlock -> Calls Try.prog gf (#[elV x] ++ lb) W fun e w' => e = .returned (.bool (p x)) /\ Below W.heap.size W w') :
  Calls Try.prog 40 #[.slice A l.length c, .func (.func gf) #[] lb] w fun e w' => ∃ n',e = .returned (.slice A n' c) /\ RE w' base (.slice A n' c) (l.filter fun x => !p x) /\ w.grownBy w' (Value.slice A l.length c).ownBlock:=by
 have hu1:=Try.underlying23
 have hu2:=Try.underlying36
 have cI:=IndexFuncElem gf lb A c l (fun i => p (Qaa l (i : Int))) (fun _ W => Below w.heap.size w W) (fun _ W => Below w.heap.size w W) w eg (by omega) (Below.refl _ _) (fun i W hb => (Kd.R_reads' (Kd.R_below h0 hb)).2.2) (fun i W hi hb => by
  refine (hs W (Qaa l (i : Int)) (by rw [Qaj _ _ hi]; exact List.getElem_mem hi) (Qau hb _)).mono ?_
  rintro e w' ⟨rfl,hb'⟩
  have : Below w.heap.size w w':=Qbm hb hb'
  exact ⟨rfl,fun _ => this,fun _ => this⟩)
 have HI:=Zz.k (firstAt_cases (fun i : Nat => p (Qaa l (i : Int))) l.length)
 generalize Qbb (fun i : Nat => p (Qaa l (i : Int))) l.length l.length 0 = i0 at cI HI
 have CI:=Zz.k cI
 have HS:=Zz.k hs
 have H0:=Zz.k h0
 clear cI hs h0
 go_enter Try.func40,Try.ntmps40
 go_wp2_with fail
 refine CI.out.mono ?_
 rintro e w1 ⟨rfl,hpost⟩
 have HP:=Zz.k hpost
 clear hpost CI
 rcases HI.out with ⟨i,hi,hpi,hlt,rfl⟩ | ⟨hno,rfl⟩
 ·have hne : ((i : Int) == -1) = false:=by simp
  obtain ⟨g,cap,hv,hbg,hgl,_⟩:=Kd.R_form H0.out (by omega)
  injection hv with ha _ hcap
  subst ha; subst hcap
  have hb1 : Below w.heap.size w w1:=by rcases HP.out with ⟨_,_,_,_,h⟩ | ⟨_,h⟩ <;> exact h
  have HG1:=Zz.k (Qau hb1 (some g))
  have HR1:=Zz.k (Kd.R_below H0.out hb1)
  have HFT:=Zz.k (filter_first l p hi hpi hlt)
  clear HP HI hb1 H0
  go_wp2
  go_loopg [5,6,7] l.length (fun gg s5 s6 _ wr => ∃ (a b : Nat) (xs : List SElem),a < b /\ b <= l.length /\ l.length - b <= gg /\ s5 = .int .i64 a /\ s6 = .int .i64 b /\ Zz (xs.length = l.length) /\ Zz (xs.take a = (l.take b).filter (fun x => !p x)) /\ Zz (xs.drop b = l.drop b) /\ Zz (RE wr base (.slice (some ⟨g,0,none⟩) l.length c) xs) /\ Zz (w.grownBy wr (some g)))
  case atStart => exact ⟨i,i + 1,l,by omega,by omega,by omega,rfl,by go_num,⟨rfl⟩,HFT,⟨rfl⟩,HR1,HG1⟩
  case round =>
   clear HFT HR1 HG1
   obtain ⟨a,b,xs,hab,hbn,hgk,rfl,rfl,HL,HF,HD,HR,HG⟩:=hrel
   by_cases hlt2 : b < l.length
   ·obtain ⟨g',rfl⟩ : ∃ g',gk = g' + 1:=⟨gk - 1,by omega⟩
    have hltz : (b : Int) < (l.length : Int):=by omega
    have h0z : (0 : Int) <= (b : Int):=by omega
    obtain ⟨hn,_,hC⟩:=Kd.R_reads' HR.out
    obtain ⟨ad,hA,x0,x1,x2⟩:=Qap hC (b : Int) h0z (by omega)
    injection hA with hA
    subst hA
    clear hC hn
    simp only [Int.toNat_natCast,add_plain] at x0 x1 x2
    have hx : Qaa xs (b : Int) = Qaa l (b : Int):=by
     have hb2 : b < xs.length:=by rw [HL.out]; exact hlt2
     rw [Qaj _ _ hb2,Qaj _ _ hlt2]
     have:=HD.out
     rw [List.drop_eq_getElem_cons hb2,List.drop_eq_getElem_cons hlt2] at this
     injection this
    rw [hx] at x0 x1 x2
    have HM:=Zz.k (show Qaa l (b : Int) ∈ l by rw [Qaj _ _ hlt2]; exact List.getElem_mem hlt2)
    generalize hxe : Qaa l (b : Int) = x at x0 x1 x2 HM
    have HXE:=Zz.k hxe
    clear hxe hx
    have hal : Below wr.heap.size wr (wr.alloc (.cells #[.int .i64 x.f0, .int .i64 x.f1, .int .i64 x.f2] 36)):=Qan (Below.refl _ _) _
    have HC:=Zz.k (HS.out _ x HM.out (grown_then HG.out hal))
    have HG2:=Zz.k (grown_then HG.out hal)
    have HR2:=Zz.k (Kd.R_below HR.out hal)
    have HLT : xs.length = l.length:=HL.out
    have ha1 : a < xs.length:=by omega
    clear hal HG HR
    go_wp2_with fail
    refine HC.out.mono ?_
    rintro e w2 ⟨rfl,hb2⟩
    have d0:=Qaf hb2 (show (wr.alloc (.cells #[.int .i64 x.f0, .int .i64 x.f1, .int .i64 x.f2] 36)).cell? ⟨wr.heap.size,0,none⟩ = some (.int .i64 x.f0) by simp)
    have d1:=Qaf hb2 (show (wr.alloc (.cells #[.int .i64 x.f0, .int .i64 x.f1, .int .i64 x.f2] 36)).cell? ⟨wr.heap.size,1,none⟩ = some (.int .i64 x.f1) by simp)
    have d2:=Qaf hb2 (show (wr.alloc (.cells #[.int .i64 x.f0, .int .i64 x.f1, .int .i64 x.f2] 36)).cell? ⟨wr.heap.size,2,none⟩ = some (.int .i64 x.f2) by simp)
    have HG3:=Zz.k (grown_then HG2.out hb2)
    have HR3:=Zz.k (Kd.R_below HR2.out hb2)
    clear hb2 HG2 HR2 x0 x1 x2 HC
    have hxl : l[b] = x:=by rw [<- Qaj _ _ hlt2]; exact HXE.out
    have hD2 : xs.drop (b + 1) = l.drop (b + 1):=by
     have:=HD.out
     rw [List.drop_eq_getElem_cons (show b < xs.length by omega),List.drop_eq_getElem_cons hlt2] at this
     injection this
    have HD2:=Zz.k hD2
    have hF2:=HF.out
    cases hp : p x with
    | true =>
     have hF3 : xs.take a = (l.take (b + 1)).filter (fun x => !p x):=by
      rw [List.take_succ_eq_append_getElem hlt2,List.filter_append,hxl,<- hF2]; simp [hp]
     have HF3:=Zz.k hF3
     clear hF3 hF2 hD2 hp HF HD hxl
     go_wp2
     go_roundg g'
     case measure => omega
     case rel => exact ⟨a,b + 1,xs,by omega,by omega,by omega,rfl,by go_num,HL,HF3,HD2,HR3,HG3⟩
    | false =>
     have hF3 : (xs.set a x).take (a + 1) = (l.take (b + 1)).filter (fun x => !p x):=by
      rw [List.take_succ_eq_append_getElem hlt2,List.filter_append,hxl,<- hF2,List.take_succ_eq_append_getElem (by simp; omega),List.take_set_of_le (Nat.le_refl a)]; simp [hp]
     have HF3:=Zz.k hF3
     have HL3:=Zz.k (show (xs.set a x).length = l.length by rw [List.length_set]; exact HLT)
     have HD3:=Zz.k (show (xs.set a x).drop (b + 1) = l.drop (b + 1) by rw [List.drop_set_of_lt (by omega)]; exact hD2)
     obtain ⟨cs,hcl,_,hcc,hff⟩:=Kd.R_elem HR3.out zElem (a : Int) (by omega) (by omega)
     have hcl3 : cs.length = 3:=hcl
     have hR4:=RE_set HR3.out a (by omega) x
     have HR4:=Zz.k hR4.1
     have HG4:=Zz.k (Qav HG3.out hR4.2)
     obtain ⟨q0,q1,q2,rfl⟩ : ∃ q0 q1 q2,cs = [q0,q1,q2]:=by
      match cs,hcl3 with
      | [q0,q1,q2],_ => exact ⟨q0,q1,q2,rfl⟩
     have e0 : w2.cell? ⟨g,a * 3,none⟩ = some q0:=hcc 0 _ rfl
     have e1 : w2.cell? ⟨g,a * 3 + 1,none⟩ = some q1:=hcc 1 _ rfl
     have e2 : w2.cell? ⟨g,a * 3 + 2,none⟩ = some q2:=hcc 2 _ rfl
     have f0 : w2.frozen? ⟨g,a * 3,none⟩ = false:=hff 0
     have f1 : w2.frozen? ⟨g,a * 3 + 1,none⟩ = false:=hff 1
     have f2 : w2.frozen? ⟨g,a * 3 + 2,none⟩ = false:=hff 2
     clear hF3 hF2 hD2 hp HF HD hxl hR4 hcc hff hcl hcl3 HG3 HR3
     go_wp2
     go_roundg g'
     case measure => omega
     case rel => exact ⟨a + 1,b + 1,xs.set a x,by omega,by omega,by omega,by go_num,by go_num,HL3,HF3,HD3,HR4,HG4⟩
   ·obtain rfl : b = l.length:=by omega
    have hltz : ¬ (l.length : Int) < (l.length : Int):=by omega
    obtain ⟨r1,r2,r3,r4⟩:=RE_clear HR.out a (by omega) (zs (l.length - a)) (by rw [zs_len]; omega)
    have HR5:=Zz.k r1
    have HG5:=Zz.k (Qav HG.out r2)
    have hcl : ∀ ty,(Builtin.clear_ #[23] ty #[.slice (some ⟨g,a * 3,none⟩) (l.length - a) (c - a)]).run Try.prog wr = .ok (.tuple #[]) (wr.setCells g (a * 3) (zs (l.length - a))) :=
     fun ty => run_clear_elem wr ty g (a * 3) _ _ (by omega) (fun j hj => r3 _ (by omega)) (fun j hj => r4 _)
    have hF5:=HF.out
    rw [List.take_length] at hF5
    have HF5:=Zz.k hF5
    have hnc:=(Kd.R_reads' HR.out).2.1
    have hac : c ≠ a:=by omega
    have hac1 : (a : Int) <= (c : Int):=by omega
    have hac2 : ¬ (c : Int) < (a : Int):=by omega
    clear r1 r2 r3 r4 HR HG HD HF hF5
    go_wp2
    go_ret
    exact ⟨_,rfl,by rw [<- HF5.out]; exact HR5.out,HG5.out⟩
 ·go_wp2
  go_ret
  have hb1 : Below w.heap.size w w1:=by rcases HP.out with ⟨_,_,_,_,h⟩ | ⟨_,h⟩ <;> exact h
  refine ⟨_,rfl, ?_,Qau hb1 _⟩
  have : l.filter (fun x => !p x) = l:=by
   rw [List.filter_eq_self]
   intro x hx
   obtain ⟨j,hj,rfl⟩:=List.getElem_of_mem hx
   have:=hno j hj
   rw [Qaj _ _ hj] at this
   simp [this]
  rw [this]
  exact Kd.R_below H0.out hb1
end
section
def t_op_Needs.T3 : Bool × List (List Nat × List Nat):=(true,[([],[]),([0],[0]),([1],[1]),([],[]),([3],[3]),([],[]),([5],[5]),([],[]),([7],[7]),([6,8],[6,8]),([4,9],[4,9]),([2,10,2],[2,10]),([11,11,0,1,2,3,4,5,6,7,8,9,10,11],[11])])
def t_op_Needs.B3 : List Nat:=[0,1,3,0,8,0,32,0,128,480,1016,2047,4095]
theorem t_op_Needs.tab3 : rtab .any (opsOf Try.f22 3) = t_op_Needs.T3:=by kernel_rfl
theorem t_op_Needs.bits3 : Qaw t_op_Needs.T3.2 t_op_Needs.B3 = true:=by kernel_rfl
def t_op_Compare.T1 : Bool × List (List Nat × List Nat):=(true,[([],[]),([0],[0]),([],[]),([2],[2]),([1,3],[1,3]),([],[]),([5],[5]),([],[]),([7],[7]),([6,8,4],[6,8]),([],[]),([10],[10]),([],[]),([12],[12]),([11,13,9],[11,13]),([4,9,14],[4,9,14]),([15,14],[15]),([16,16,0,1,2,3,4,5,6,7,8,9,10,11,12,13,14,15,16],[16])])
def t_op_Compare.B1 : List Nat:=[0,1,0,4,15,0,32,0,128,511,0,1024,0,4096,16383,32767,65535,131071]
theorem t_op_Compare.tab1 : rtab .any (opsOf Try.f43 1) = t_op_Compare.T1:=by kernel_rfl
theorem t_op_Compare.bits1 : Qaw t_op_Compare.T1.2 t_op_Compare.B1 = true:=by kernel_rfl
def t_api_Elem.T6 : Bool × List (List Nat × List Nat):=(true,[([],[]),([],[]),([0,1],[0,1]),([2],[2]),([],[]),([],[]),([5],[5]),([4,6],[4,6]),([7],[7]),([3,8],[3,8])])
def t_api_Elem.B6 : List Nat:=[0,0,3,7,0,0,32,112,240,511]
theorem t_api_Elem.tab6 : rtab .any (opsOf Try.f44 6) = t_api_Elem.T6:=by kernel_rfl
theorem t_api_Elem.bits6 : Qaw t_api_Elem.T6.2 t_api_Elem.B6 = true:=by kernel_rfl
def t_api_Elem.T11 : Bool × List (List Nat × List Nat):=(true,[([],[]),([],[]),([0,1],[0,1]),([2],[2]),([],[]),([],[]),([5],[5]),([4,6],[4,6]),([7],[7]),([3,8],[3,8])])
def t_api_Elem.B11 : List Nat:=[0,0,3,7,0,0,32,112,240,511]
theorem t_api_Elem.tab11 : rtab .any (opsOf Try.f44 11) = t_api_Elem.T11:=by kernel_rfl
theorem t_api_Elem.bits11 : Qaw t_api_Elem.T11.2 t_api_Elem.B11 = true:=by kernel_rfl
end
section
attribute [local go_sem high] eqAElem
def compN (l : List SElem) : Nat -> List SElem
 | 0 => []
 | n + 1 => if n = 0 \/ Qaa l (n : Int) ≠ Qaa l ((n - 1 : Nat) : Int) then compN l n ++ [Qaa l (n : Int)] else compN l n
def compL (l : List SElem) : List SElem:=compN l l.length
theorem compN_le (l : List SElem) : ∀ n,(compN l n).length <= n
 | 0 => Nat.le_refl _
 | n + 1 => by
  have:=compN_le l n
  unfold compN
  split
  ·rw [List.length_append,List.length_singleton]; omega
  ·omega
theorem compN_all (l : List SElem) : ∀ n,n <= l.length -> (∀ i,1 <= i -> i < n -> Qaa l (i : Int) ≠ Qaa l ((i - 1 : Nat) : Int)) -> compN l n = l.take n
 | 0,_,_ => rfl
 | n + 1,h,hn => by
  have ih:=compN_all l n (by omega) (fun i h1 h2 => hn i h1 (by omega))
  have hlt : n < l.length:=by omega
  unfold compN
  rw [if_pos,ih,List.take_succ_eq_append_getElem hlt,Qaj _ _ hlt]
  by_cases h0 : n = 0
  ·exact .inl h0
  ·exact .inr (hn n (by omega) (by omega))
theorem eq3_dec (x y : SElem) : (x.f0 == y.f0 && (x.f1 == y.f1 && (x.f2 == y.f2))) = decide (x = y):=by
 cases x; cases y
 rw [Bool.eq_iff_iff]
 simp only [Bool.and_eq_true,beq_iff_eq,decide_eq_true_eq,SElem.mk.injEq]
theorem ne3_dec (x y : SElem) : ((!(x.f0 == y.f0)) || ((!(x.f1 == y.f1)) || (!(x.f2 == y.f2)))) = !decide (x = y):=by
 rw [<- eq3_dec,Bool.not_and,Bool.not_and]
abbrev P3 (W : World) (g i : Nat) (x : SElem) : Prop:=W.cell? ⟨g,i * 3,none⟩ = some (.int .i64 x.f0) /\ W.cell? ⟨g,i * 3 + 1,none⟩ = some (.int .i64 x.f1) /\ W.cell? ⟨g,i * 3 + 2,none⟩ = some (.int .i64 x.f2)
theorem grown_drew (w : World) (row : Option Nat) : w.grownBy w.drew row:=⟨rfl,rfl,rfl,Nat.le_refl _,fun _ _ _ => rfl⟩
theorem RE_at {w : World} {base g n c : Nat} {xs : List SElem} (h : RE w base (.slice (some ⟨g,0,none⟩) n c) xs) {i : Nat} (hi : i < n) : P3 w g i (Qaa xs (i : Int)):=by
 obtain ⟨hn,_,hC⟩:=Kd.R_reads' h
 obtain ⟨ad,hA,x0,x1,x2⟩:=Qap hC (i : Int) (by omega) (by omega)
 injection hA with hA
 subst hA
 simp only [Int.toNat_natCast,add_plain] at x0 x1 x2
 exact ⟨x0,x1,x2⟩
theorem compact_calls {w : World} {base g c : Nat} {l : List SElem} (h : RE w base (.slice (some ⟨g,0,none⟩) l.length c) l) (hl : l.length <= 1000000) :
  Calls Try.prog 44 #[.slice (some ⟨g,0,none⟩) l.length c] w fun e w' => ∃ n',e = .returned (.slice (some ⟨g,0,none⟩) n' c) /\ RE w' base (.slice (some ⟨g,0,none⟩) n' c) (compL l) /\ w.grownBy w' (some g):=by
 have HR0:=Zz.k h
 have hnc:=(Kd.R_reads' h).2.1
 clear h
 by_cases h2 : l.length < 2
 ·have h2z : (l.length : Int) < 2:=by omega
  have hcl : compL l = l:=by
   unfold compL
   rw [compN_all l _ (Nat.le_refl _) (fun i h1 h3 => by omega),List.take_length]
  have HCL:=Zz.k hcl
  clear hcl
  go_enter Try.func44,Try.ntmps44
  go_wp2
  go_ret
  exact ⟨_,rfl,by rw [HCL.out]; exact HR0.out,Qau (Below.refl _ _) _⟩
 ·have h2z : ¬ (l.length : Int) < 2:=by omega
  have HG0:=Zz.k (Qau (Below.refl w.heap.size w) (some g))
  go_enter Try.func44,Try.ntmps44
  go_wp2
  go_loopg [3] l.length (fun gg s3 wr => ∃ k : Nat,1 <= k /\ k <= l.length /\ l.length - k <= gg /\ s3 = .int .i64 k /\ Zz (∀ i,1 <= i -> i < k -> Qaa l (i : Int) ≠ Qaa l ((i - 1 : Nat) : Int)) /\ Zz (RE wr base (.slice (some ⟨g,0,none⟩) l.length c) l) /\ Zz (w.grownBy wr (some g)))
  case atStart => exact ⟨1,by omega,by omega,by omega,rfl,⟨fun i h1 h2 => by omega⟩,HR0,HG0⟩
  case round =>
   clear HR0 HG0
   obtain ⟨k,hk1,hkn,hgk,rfl,HN,HR,HG⟩:=hrel
   by_cases hlt : k < l.length
   ·have hltz : (k : Int) < (l.length : Int):=by omega
    have h0z : (0 : Int) <= (k : Int):=by omega
    obtain ⟨m,hm⟩ : ∃ m,k = m + 1:=⟨k - 1,by omega⟩
    obtain ⟨x0,x1,x2⟩:=RE_at HR.out hlt
    obtain ⟨y0,y1,y2⟩:=RE_at HR.out (show m < l.length by omega)
    have hwm : wrap64 ((k : Int) - 1) = (m : Int):=by rw [Qak (by omega) (by omega)]; omega
    have hm0 : (0 : Int) <= (m : Int):=by omega
    have hm1 : (m : Int) < (l.length : Int):=by omega
    have HXY:=Zz.k (show (k - 1 : Nat) = m by omega)
    generalize hx : Qaa l (k : Int) = x at x0 x1 x2
    generalize hy : Qaa l (m : Int) = y at y0 y1 y2
    have HX:=Zz.k hx
    have HY:=Zz.k hy
    have HM:=Zz.k hm
    clear hx hy hm
    go_upto_region 6 with (fail)
    refine stR (S:=fun w' => P3 w' g k x /\ P3 w' g m y) 10 t_api_Elem.bits6 t_api_Elem.tab6 (hS:=⟨⟨x0,x1,x2⟩,⟨y0,y1,y2⟩⟩) (h:=fun hS HT HW => ?_)
    clear x0 x1 x2 y0 y1 y2
    have HR1:=Zz.k (Kd.R_drew HR.out)
    have HG1:=Zz.k (Qav HG.out (grown_drew wr _))
    clear HR HG
    generalize wr.drew = wd at HR1 HG1 hS ⊢
    refine pu HT 0 16 1 (h := ?_)
    refine pu HT 1 17 3 (h := ?_)
    refine pu HT 2 18 7 (h := ?_)
    refine tk HT HW hS 3 19 15 (h := ?_)
    refine pu HT 4 20 31 (h := ?_)
    refine pu HT 5 21 63 (h := ?_)
    refine pu HT 6 22 127 (h := ?_)
    rw [hwm]
    refine pu HT 7 23 255 (h := ?_)
    refine tk HT HW hS 8 24 511 (h := ?_)
    refine pu HT 9 25 1023 (h := ?_)
    rw [eq3_dec]
    refine dn HT (h := ?_)
    clear HT HW hS
    by_cases hxy : x = y
    ·rw [Zd hxy]
     have hst : compN l (k + 1) = l.take k:=by
      have h1:=compN_all l k (by omega) HN.out
      unfold compN
      rw [if_neg,h1]
      rw [HX.out,HXY.out,HY.out]
      rintro (h2 | h2)
      ·omega
      ·exact h2 hxy
     have HST:=Zz.k hst
     have hck : k <= c:=by omega
     have hckz : (k : Int) <= (c : Int):=by omega
     have hknz : (k : Int) <= (l.length : Int):=by omega
     clear hst HX HY HXY HN hxy
     go_wp2
     go_loopg [3,5] l.length (fun gg s3 s5 wr => ∃ (a b : Nat) (xs : List SElem),k <= a /\ 1 <= b /\ a + 1 <= k + b /\ k + b <= l.length /\ l.length - (k + b) <= gg /\ s3 = .int .i64 a /\ s5 = .int .i64 b /\ Zz (xs.length = l.length) /\ Zz (xs.take a = compN l (k + b)) /\ Zz (xs.drop a = l.drop a) /\ Zz (RE wr base (.slice (some ⟨g,0,none⟩) l.length c) xs) /\ Zz (w.grownBy wr (some g)))
     case atStart => exact ⟨k,1,l,Nat.le_refl _,Nat.le_refl _,by omega,by omega,by omega,rfl,rfl,⟨rfl⟩,⟨HST.out.symm⟩,⟨rfl⟩,HR1,HG1⟩
     case round =>
      clear HR1 HG1 HST hwm hm0 hm1 HM
      obtain ⟨a,b,xs,hka,hb1,hab,hbn,hgk2,rfl,rfl,HL,HF,HD,HR,HG⟩:=hrel
      have hxl : ∀ i,a <= i -> i < l.length -> Qaa xs (i : Int) = Qaa l (i : Int):=by
       intro i h1 h3
       have hL:=HL.out
       have hD:=HD.out
       rw [Qaj _ _ (by omega),Qaj _ _ h3]
       have e1 : xs[i]? = (xs.drop a)[i - a]?:=by rw [List.getElem?_drop]; congr 1; omega
       have e2 : l[i]? = (l.drop a)[i - a]?:=by rw [List.getElem?_drop]; congr 1; omega
       have:=e1.trans ((congrArg (·[i - a]?) hD).trans e2.symm)
       rw [List.getElem?_eq_getElem (by omega),List.getElem?_eq_getElem h3] at this
       exact Zo this
      by_cases hlt2 : k + b < l.length
      ·obtain ⟨g2,rfl⟩ : ∃ g2,gk = g2 + 1:=⟨gk - 1,by omega⟩
       have hbz : (b : Int) < ((l.length - k : Nat) : Int):=by omega
       have hb0 : (0 : Int) <= (b : Int):=by omega
       obtain ⟨m2,hm2⟩ : ∃ m2,b = m2 + 1:=⟨b - 1,by omega⟩
       have hwb : wrap64 ((b : Int) - 1) = (m2 : Int):=by rw [Qak (by omega) (by omega)]; omega
       have hm20 : (0 : Int) <= (m2 : Int):=by omega
       have hm21 : (m2 : Int) < ((l.length - k : Nat) : Int):=by omega
       obtain ⟨x0,x1,x2⟩:=RE_at HR.out (show k + b < l.length by omega)
       obtain ⟨y0,y1,y2⟩:=RE_at HR.out (show k + m2 < l.length by omega)
       rw [hxl _ (by omega) (by omega)] at x0 x1 x2
       rw [hxl _ (by omega) (by omega)] at y0 y1 y2
       rw [show (k + b) * 3 = k * 3 + b * 3 by omega] at x0 x1 x2
       rw [show (k + m2) * 3 = k * 3 + m2 * 3 by omega] at y0 y1 y2
       have HKB:=Zz.k (show (k + b - 1 : Nat) = k + m2 by omega)
       generalize hx : Qaa l ((k + b : Nat) : Int) = x at x0 x1 x2
       generalize hy : Qaa l ((k + m2 : Nat) : Int) = y at y0 y1 y2
       have HX:=Zz.k hx
       have HY:=Zz.k hy
       clear hx hy hm2 hxl
       go_upto_region 11 with (fail)
       refine stR (S:=fun w' => (w'.cell? ⟨g,k * 3 + b * 3,none⟩ = some (.int .i64 x.f0) /\ w'.cell? ⟨g,k * 3 + b * 3 + 1,none⟩ = some (.int .i64 x.f1) /\ w'.cell? ⟨g,k * 3 + b * 3 + 2,none⟩ = some (.int .i64 x.f2)) /\ (w'.cell? ⟨g,k * 3 + m2 * 3,none⟩ = some (.int .i64 y.f0) /\ w'.cell? ⟨g,k * 3 + m2 * 3 + 1,none⟩ = some (.int .i64 y.f1) /\ w'.cell? ⟨g,k * 3 + m2 * 3 + 2,none⟩ = some (.int .i64 y.f2))) 10 t_api_Elem.bits11 t_api_Elem.tab11 (hS:=⟨⟨x0,x1,x2⟩,⟨y0,y1,y2⟩⟩) (h:=fun hS HT HW => ?_)
       clear x0 x1 x2 y0 y1 y2
       have HR1:=Zz.k (Kd.R_drew HR.out)
       have HG1:=Zz.k (Qav HG.out (grown_drew wr _))
       clear HR HG
       generalize wr.drew = wd at HR1 HG1 hS ⊢
       refine pu HT 0 35 1 (h := ?_)
       refine pu HT 1 36 3 (h := ?_)
       refine pu HT 2 37 7 (h := ?_)
       refine tk HT HW hS 3 38 15 (h := ?_)
       refine pu HT 4 39 31 (h := ?_)
       refine pu HT 5 40 63 (h := ?_)
       refine pu HT 6 41 127 (h := ?_)
       rw [hwb]
       refine pu HT 7 42 255 (h := ?_)
       refine tk HT HW hS 8 43 511 (h := ?_)
       refine pu HT 9 44 1023 (h := ?_)
       rw [ne3_dec]
       refine dn HT (h := ?_)
       obtain ⟨⟨x0,x1,x2⟩,_⟩:=hS
       clear HT HW
       have hcn : compN l (k + b + 1) = if x = y then compN l (k + b) else compN l (k + b) ++ [x]:=by
        conv => lhs; unfold compN
        rw [HX.out,HKB.out,HY.out]
        by_cases hxy : x = y
        ·rw [if_neg (by rintro (h1 | h1); omega; exact h1 hxy),if_pos hxy]
        ·rw [if_pos (.inr hxy),if_neg hxy]
       by_cases hxy : x = y
       ·rw [if_pos hxy] at hcn
        rw [Zd hxy,Bool.not_true]
        have HF2:=Zz.k (show xs.take a = compN l (k + (b + 1)) by rw [<- Nat.add_assoc,hcn]; exact HF.out)
        clear hcn HF x0 x1 x2
        go_wp2
        go_roundg g2
        case measure => omega
        case rel => exact ⟨a,b + 1,xs,hka,by omega,by omega,by omega,by omega,rfl,by go_num,HL,HF2,HD,HR1,HG1⟩
       ·rw [if_neg hxy] at hcn
        rw [Ze hxy,Bool.not_false]
        have hL:=HL.out
        have hF:=HF.out
        have hD:=HD.out
        have hal : a < xs.length:=by omega
        have HF2:=Zz.k (show (xs.set a x).take (a + 1) = compN l (k + (b + 1)) by
         rw [<- Nat.add_assoc,hcn,<- hF,List.take_succ_eq_append_getElem (by rw [List.length_set]; exact hal),List.take_set_of_le (Nat.le_refl a)]
         simp)
        have HL2:=Zz.k (show (xs.set a x).length = l.length by rw [List.length_set]; exact hL)
        have HD2:=Zz.k (show (xs.set a x).drop (a + 1) = l.drop (a + 1) by
         rw [List.drop_set_of_lt (by omega)]
         have:=congrArg (List.drop 1) hD
         rw [List.drop_drop,List.drop_drop] at this
         exact this)
        obtain ⟨cs,hcl,_,hcc,hff⟩:=Kd.R_elem HR1.out zElem (a : Int) (by omega) (by omega)
        have hcl3 : cs.length = 3:=hcl
        have hR4:=RE_set HR1.out a (by omega) x
        have HR4:=Zz.k hR4.1
        have HG4:=Zz.k (Qav HG1.out hR4.2)
        obtain ⟨q0,q1,q2,rfl⟩ : ∃ q0 q1 q2,cs = [q0,q1,q2]:=by
         match cs,hcl3 with
         | [q0,q1,q2],_ => exact ⟨q0,q1,q2,rfl⟩
        have e0 : wd.cell? ⟨g,a * 3,none⟩ = some q0:=hcc 0 _ rfl
        have e1 : wd.cell? ⟨g,a * 3 + 1,none⟩ = some q1:=hcc 1 _ rfl
        have e2 : wd.cell? ⟨g,a * 3 + 2,none⟩ = some q2:=hcc 2 _ rfl
        have f0 : wd.frozen? ⟨g,a * 3,none⟩ = false:=hff 0
        have f1 : wd.frozen? ⟨g,a * 3 + 1,none⟩ = false:=hff 1
        have f2 : wd.frozen? ⟨g,a * 3 + 2,none⟩ = false:=hff 2
        have ha0 : (0 : Int) <= (a : Int):=by omega
        have ha1 : (a : Int) < (l.length : Int):=by omega
        clear hcn HF hL hF hD hR4 hcc hff hcl hcl3 HR1 HG1 HL HD hxy
        go_wp2
        go_roundg g2
        case measure => omega
        case rel => exact ⟨a + 1,b + 1,xs.set a x,by omega,by omega,by omega,by omega,by omega,by go_num,by go_num,HL2,HF2,HD2,HR4,HG4⟩
      ·have hbe : k + b = l.length:=by omega
       have hbz : ¬ (b : Int) < ((l.length - k : Nat) : Int):=by omega
       obtain ⟨r1,r2,r3,r4⟩:=RE_clear HR.out a (by omega) (zs (l.length - a)) (by rw [zs_len]; omega)
       have HR5:=Zz.k r1
       have HG5:=Zz.k (Qav HG.out r2)
       have hcl : ∀ ty,(Builtin.clear_ #[23] ty #[.slice (some ⟨g,a * 3,none⟩) (l.length - a) (c - a)]).run Try.prog wr = .ok (.tuple #[]) (wr.setCells g (a * 3) (zs (l.length - a))) :=
        fun ty => run_clear_elem wr ty g (a * 3) _ _ (by omega) (fun j hj => r3 _ (by omega)) (fun j hj => r4 _)
       have hF5:=HF.out
       rw [hbe] at hF5
       have HF5:=Zz.k hF5
       have hac : c ≠ a:=by omega
       have hac1 : (a : Int) <= (c : Int):=by omega
       have hac2 : ¬ (c : Int) < (a : Int):=by omega
       have hal1 : (a : Int) <= (l.length : Int):=by omega
       clear r1 r2 r3 r4 HR HG HD HF hF5 hxl
       go_wp2
       go_ret
       exact ⟨_,rfl,by rw [show compL l = _ from rfl]; unfold compL; rw [<- HF5.out]; exact HR5.out,HG5.out⟩
    ·obtain ⟨g',rfl⟩ : ∃ g',gk = g' + 1:=⟨gk - 1,by omega⟩
     rw [Ze hxy]
     have HN2:=Zz.k (show ∀ i,1 <= i -> i < k + 1 -> Qaa l (i : Int) ≠ Qaa l ((i - 1 : Nat) : Int) by
      intro i h1 h3
      rcases Nat.lt_or_ge i k with h4 | h4
      ·exact HN.out i h1 h4
      ·obtain rfl : i = k:=by omega
       rw [HX.out,HXY.out,HY.out]
       exact hxy)
     go_wp2
     go_roundg g'
     case measure => omega
     case rel => exact ⟨k + 1,by omega,by omega,by omega,by go_num,HN2,HR1,HG1⟩
   ·obtain rfl : k = l.length:=by omega
    have hltz : ¬ (l.length : Int) < (l.length : Int):=by omega
    have hcl : compL l = l:=by
     unfold compL
     rw [compN_all l _ (Nat.le_refl _) HN.out,List.take_length]
    have HCL:=Zz.k hcl
    clear hcl
    go_wp2
    go_ret
    exact ⟨_,rfl,by rw [HCL.out]; exact HR.out,HG.out⟩
end
end Go.Proofs.Ytonoaflfobajcaa.L
end

section
namespace Go.Proofs
open Go.Shelf
set_option linter.unusedVariables false
set_option linter.unusedSimpArgs false
set_option maxHeartbeats 40000000
set_option maxRecDepth 1000000
section
def Try.sortEl_ren : Go.Shelf.Ren:=⟨fun | 6 => 42 | 15 => 63 | 14 => 62 | 28 => 85 | 29 => 86 | 20 => 77 | 21 => 78 | 22 => 79 | 23 => 80 | 24 => 81 | 25 => 82 | 26 => 83 | 27 => 84 | 46 => 93 | 47 => 94 | 48 => 95 | 49 => 96 | 50 => 97 | 57 => 103 | n => n,fun | 22 => 23 | 24 => 36 | 25 => 74 | 3 => 3 | 39 => 92 | 0 => 0 | 53 => 117 | 55 => 119 | 4 => 4 | 46 => 111 | 45 => 110 | 50 => 97 | 5 => 5 | 9 => 9 | 66 => 126 | 70 => 130 | 76 => 139 | 77 => 140 | n => n,fun | n => n⟩
theorem Try.sortEl : Go.Proofs.SlLaysF0.n6 Try.prog Try.sortEl_ren:={
 mixed:=by kernel_rfl
 f6:=⟨Try.f42.name,by decide,Try.func42.trans (congrArg some (by kernel_rfl))⟩
 f14:=⟨Try.f62.name,by decide,Try.func62.trans (congrArg some (by kernel_rfl))⟩
 f15:=Try.func63.trans (congrArg some (by kernel_rfl))
 f20:=⟨Try.f77.name,by decide,Try.func77.trans (congrArg some (by kernel_rfl))⟩
 f21:=⟨Try.f78.name,by decide,Try.func78.trans (congrArg some (by kernel_rfl))⟩
 f22:=⟨Try.f79.name,by decide,Try.func79.trans (congrArg some (by kernel_rfl))⟩
 f23:=⟨Try.f80.name,by decide,Try.func80.trans (congrArg some (by kernel_rfl))⟩
 f24:=⟨Try.f81.name,by decide,Try.func81.trans (congrArg some (by kernel_rfl))⟩
 f25:=⟨Try.f82.name,by decide,Try.func82.trans (congrArg some (by kernel_rfl))⟩
 f26:=⟨Try.f83.name,by decide,Try.func83.trans (congrArg some (by kernel_rfl))⟩
 f27:=⟨Try.f84.name,by decide,Try.func84.trans (congrArg some (by kernel_rfl))⟩
 f28:=Try.func85.trans (congrArg some (by kernel_rfl))
 f29:=Try.func86.trans (congrArg some (by kernel_rfl))
 f46:=⟨Try.f93.name,by decide,Try.func93.trans (congrArg some (by kernel_rfl))⟩
 f47:=Try.func94.trans (congrArg some (by kernel_rfl))
 f48:=Try.func95.trans (congrArg some (by kernel_rfl))
 f49:=⟨Try.f96.name,by decide,Try.func96.trans (congrArg some (by kernel_rfl))⟩
 f50:=⟨Try.f97.name,by decide,Try.func97.trans (congrArg some (by kernel_rfl))⟩
 f57:=⟨Try.f103.name,by decide,Try.func103.trans (congrArg some (by kernel_rfl))⟩
 t0:=Try.underlying0
 a0:=Try.isAgg0
 z0:=Try.sizeOf0
 v0:=Try.zeroValue0
 t3:=Try.underlying3
 a3:=Try.isAgg3
 z3:=Try.sizeOf3
 v3:=Try.zeroValue3
 t4:=Try.underlying4
 a4:=Try.isAgg4
 z4:=Try.sizeOf4
 v4:=Try.zeroValue4
 t5:=Try.underlying5
 a5:=Try.isAgg5
 z5:=Try.sizeOf5
 v5:=Try.zeroValue5
 t9:=Try.underlying9
 a9:=Try.isAgg9
 z9:=Try.sizeOf9
 v9:=Try.zeroValue9
 t22:=Try.underlying23
 a22:=Try.isAgg23
 z22:=Try.sizeOf23
 v22:=Try.zeroValue23
 t25:=Try.underlying74
 a25:=Try.isAgg74
 z25:=Try.sizeOf74
 v25:=Try.zeroValue74
 t39:=Try.underlying92
 a39:=Try.isAgg92
 z39:=Try.sizeOf92
 v39:=Try.zeroValue92
 t45:=Try.underlying110
 a45:=Try.isAgg110
 z45:=Try.sizeOf110
 v45:=Try.zeroValue110
 t46:=Try.underlying111
 a46:=Try.isAgg111
 z46:=Try.sizeOf111
 v46:=Try.zeroValue111
 t50:=Try.underlying97
 a50:=Try.isAgg97
 z50:=Try.sizeOf97
 v50:=Try.zeroValue97
 t53:=Try.underlying117
 a53:=Try.isAgg117
 z53:=Try.sizeOf117
 v53:=Try.zeroValue117
 t55:=Try.underlying119
 a55:=Try.isAgg119
 z55:=Try.sizeOf119
 v55:=Try.zeroValue119
 t66:=Try.underlying126
 a66:=Try.isAgg126
 z66:=Try.sizeOf126
 v66:=Try.zeroValue126
 t70:=Try.underlying130
 a70:=Try.isAgg130
 z70:=Try.sizeOf130
 v70:=Try.zeroValue130
 t76:=Try.underlying139
 a76:=Try.isAgg139
 z76:=Try.sizeOf139
 v76:=Try.zeroValue139
 t77:=Try.underlying140
 a77:=Try.isAgg140
 z77:=Try.sizeOf140
 v77:=Try.zeroValue140 }
end
end Go.Proofs
end

section
namespace Go.Proofs.Ytonoaflfobajcaa.L
open Go.RowKit Go.Sort Go.Proofs.YtonoaflfobajcaaW.PrintWords Go.Proofs.YtonoaflfobajcaaW.PrintLast Go.Proofs.YtonoaflfobajcaaW.PrintMore
set_option linter.unusedVariables false
set_option linter.unusedSimpArgs false
set_option maxHeartbeats 40000000
set_option maxRecDepth 1000000
section
def GD (w w' : World) : Prop:=∃ q os,w' = grow (w.drewN q) os
theorem GD.refl (w : World) : GD w w:=⟨0,#[],by rw [grow_empty]; rfl⟩
theorem GD.drawn {w w1 : World} (h : GD w w1) (n : Nat) : GD w (w1.drewN n):=by
 obtain ⟨q,os,rfl⟩:=h
 exact ⟨q + n,os,by rw [<- World.drewN_drewN]; rfl⟩
theorem GD.drew {w w1 : World} (h : GD w w1) : GD w w1.drew:=by
 obtain ⟨q,os,rfl⟩:=h
 exact ⟨q + 1,os,by rw [<- World.drewN_drewN]; rfl⟩
theorem GD.alloc {w w1 : World} (h : GD w w1) (o : Obj) : GD w (w1.alloc o):=by
 obtain ⟨q,os,rfl⟩:=h
 exact ⟨q,os ++ #[o],by rw [alloc_eq_grow,grow_grow]⟩
theorem tp_cell (w : World) (cs : Array Value) (t : TypeId) (g j : Nat) (hg : w.heap.size = g) : (w.alloc (.cells cs t)).cell? ⟨g,j,none⟩ = cs[j]?:=by subst hg; simp
abbrev S6 (W : World) (g : Nat) (x y : SElem) : Prop:=W.cell? ⟨g,0,none⟩ = some (.int .i64 x.f0) /\ W.cell? ⟨g,1,none⟩ = some (.int .i64 x.f1) /\ W.cell? ⟨g,2,none⟩ = some (.int .i64 x.f2) /\ W.cell? ⟨g + 1,0,none⟩ = some (.int .i64 y.f0) /\ W.cell? ⟨g + 1,1,none⟩ = some (.int .i64 y.f1) /\ W.cell? ⟨g + 1,2,none⟩ = some (.int .i64 y.f2)
theorem S6.below {W W' : World} {g : Nat} {x y : SElem} (h : S6 W g x y) (hb : Below W.heap.size W W') : S6 W' g x y :=
 ⟨Qaf hb h.1,Qaf hb h.2.1,Qaf hb h.2.2.1,Qaf hb h.2.2.2.1,Qaf hb h.2.2.2.2.1,Qaf hb h.2.2.2.2.2⟩
theorem S6.boxed (w : World) (x y : SElem) (t : TypeId) : S6 ((w.alloc (.cells #[.int .i64 x.f0, .int .i64 x.f1, .int .i64 x.f2] t)).alloc (.cells #[.int .i64 y.f0, .int .i64 y.f1, .int .i64 y.f2] t)) w.heap.size x y:=by
 have hz : (w.alloc (.cells #[.int .i64 x.f0, .int .i64 x.f1, .int .i64 x.f2] t)).heap.size = w.heap.size + 1:=by simp
 have hb:=Qan (Below.refl _ (w.alloc (.cells #[.int .i64 x.f0, .int .i64 x.f1, .int .i64 x.f2] t))) (.cells #[.int .i64 y.f0, .int .i64 y.f1, .int .i64 y.f2] t)
 refine ⟨Qaf hb (by simp),Qaf hb (by simp),Qaf hb (by simp), ?_, ?_, ?_⟩
 ·rw [<- hz]; exact (tp_cell _ _ _ _ 0 rfl).trans rfl
 ·rw [<- hz]; exact (tp_cell _ _ _ _ 1 rfl).trans rfl
 ·rw [<- hz]; exact (tp_cell _ _ _ _ 2 rfl).trans rfl
theorem three_C (w : World) (a b c : Int) (t : TypeId) : Kd.C (Kd.int .i64) (w.alloc (.cells #[.int .i64 a, .int .i64 b, .int .i64 c] t)) (some ⟨w.heap.size,0,none⟩) 3 [a,b,c]:=by
 refine ⟨rfl,by omega,fun _ => ⟨_,rfl,fun j p hp => ?_⟩⟩
 have hc : ∀ i,(w.alloc (.cells #[.int .i64 a, .int .i64 b, .int .i64 c] t)).cell? ⟨w.heap.size,i,none⟩ = (#[Value.int .i64 a, .int .i64 b, .int .i64 c] : Array Value)[i]?:=fun i => tp_cell _ _ _ _ i rfl
 refine ⟨[.int .i64 p],rfl,rfl,fun i u hu => ?_⟩
 have hi : i = 0:=by
  rcases i with _ | i
  ·rfl
  ·simp at hu
 subst hi
 have ea : (⟨w.heap.size,0,none⟩ : Addr).add (j * (Kd.int .i64).sz + 0) = ⟨w.heap.size,j,none⟩:=by rw [Addr.add_lit,Nat.zero_add,Nat.add_zero]; show (⟨w.heap.size,j * 1,none⟩ : Addr) = _; rw [Nat.mul_one]
 rw [ea,hc]
 rcases j with _ | _ | _ | j
 ·simp at hp hu; rw [<- hu,<- hp]; rfl
 ·simp at hp hu; rw [<- hu,<- hp]; rfl
 ·simp at hp hu; rw [<- hu,<- hp]; rfl
 ·simp at hp
theorem compare_calls (x y : SElem) (W : World) : Calls Try.prog 43 #[elV x,elV y] W fun e w' => e = .returned (.int .i64 (cmpE x y)) /\ GD W w':=by
 have HC0:=Zz.k (fun w => cmp_Compare_int.calls x.f0 y.f0 (cmpI x.f0 y.f0) w (Qbf _ _))
 have HC1:=Zz.k (fun w => cmp_Compare_int.calls x.f1 y.f1 (cmpI x.f1 y.f1) w (Qbf _ _))
 have HC2:=Zz.k (fun w => cmp_Compare_int.calls x.f2 y.f2 (cmpI x.f2 y.f2) w (Qbf _ _))
 have HOR:=Zz.k (fun w => cmp_Or_int.calls 5 (some ⟨w.heap.size,0,none⟩) 3 [cmpI x.f0 y.f0,cmpI x.f1 y.f1,cmpI x.f2 y.f2] (cmpE x y) (w.alloc (.cells #[.int .i64 (cmpI x.f0 y.f0), .int .i64 (cmpI x.f1 y.f1), .int .i64 (cmpI x.f2 y.f2)] 3)) (three_C w _ _ _ _) (Nat.le_refl _) (cmp_Or_three _ _ _))
 have HG:=Zz.k (((GD.refl W).alloc (.cells #[.int .i64 x.f0, .int .i64 x.f1, .int .i64 x.f2] 36)).alloc (.cells #[.int .i64 y.f0, .int .i64 y.f1, .int .i64 y.f2] 36))
 have HS:=Zz.k (S6.boxed W x y 36)
 generalize hr : cmpE x y = r at HOR
 generalize cmpI x.f0 y.f0 = r0 at HC0 HOR
 generalize cmpI x.f1 y.f1 = r1 at HC1 HOR
 generalize cmpI x.f2 y.f2 = r2 at HC2 HOR
 unfold elV
 go_enter Try.func43,Try.ntmps43
 go_upto_region 1 with (fail)
 refine stR (S:=fun w' => S6 w' W.heap.size x y) 18 t_op_Compare.bits1 t_op_Compare.tab1 (hS:=HS.out) (h:=fun hS HT HW => ?_)
 have HG2:=Zz.k HG.out.drew
 generalize ((W.alloc (.cells #[.int .i64 x.f0, .int .i64 x.f1, .int .i64 x.f2] 36)).alloc (.cells #[.int .i64 y.f0, .int .i64 y.f1, .int .i64 y.f2] 36)).drew = w1 at HG2 hS ⊢
 clear HG HS
 refine pu HT 0 5 1 (h := ?_)
 refine pu HT 2 7 5 (h := ?_)
 refine pu HT 5 10 37 (h := ?_)
 refine pu HT 7 12 165 (h := ?_)
 refine pu HT 10 15 1189 (h := ?_)
 refine pu HT 12 17 5285 (h := ?_)
 refine tk HT HW hS 1 6 5287 (h := ?_)
 refine tk HT HW hS 3 8 5295 (h := ?_)
 refine tk HT HW hS 6 11 5359 (h := ?_)
 refine tk HT HW hS 8 13 5615 (h := ?_)
 refine tk HT HW hS 11 16 7663 (h := ?_)
 refine tk HT HW hS 13 18 15855 (h := ?_)
 refine ca HT 4 (some 9) 15871 #[.int .i64 x.f0, .int .i64 y.f0] Try.func65 (h:=fun K hK => ?_)
 refine (HC0.out w1).mono ?_
 rintro e w2 ⟨rfl,⟨n0,rfl⟩⟩
 refine ⟨_,rfl, ?_⟩
 refine hK.out _ _ hS (fun _ => ?_)
 clear hK
 refine nm (h := ?_)
 refine ca HT 9 (some 14) 16383 #[.int .i64 x.f1, .int .i64 y.f1] Try.func65 (h:=fun K hK => ?_)
 refine (HC1.out _).mono ?_
 rintro e w2 ⟨rfl,⟨n1,rfl⟩⟩
 refine ⟨_,rfl, ?_⟩
 refine hK.out _ _ hS (fun _ => ?_)
 clear hK
 refine nm (h := ?_)
 refine ca HT 14 (some 19) 32767 #[.int .i64 x.f2, .int .i64 y.f2] Try.func65 (h:=fun K hK => ?_)
 refine (HC2.out _).mono ?_
 rintro e w2 ⟨rfl,⟨n2,rfl⟩⟩
 refine ⟨_,rfl, ?_⟩
 have HG3:=Zz.k (((HG2.out.drawn n0).drawn n1).drawn n2)
 refine hK.out _ _ hS (fun hS' => ?_)
 clear hK
 refine nm (h := ?_)
 generalize (((w1.drewN n0).drewN n1).drewN n2) = w3 at HG3 hS' ⊢
 refine exS HT 15 (some 20) 65535 (.slice (some ⟨w3.heap.size,0,none⟩) 3 3) (w3.alloc (.cells #[.int .i64 r0, .int .i64 r1, .int .i64 r2] 3)) (hrun := ?_) (hS:=S6.below hS' (Qan (Below.refl _ _) _)) (h:=fun hS2 => ?_)
 ·clear HT HW hS hS'
  go_simp
 refine nm (h := ?_)
 refine ca HT 16 (some 21) 131071 #[.slice (some ⟨w3.heap.size,0,none⟩) 3 3] Try.func64 (h:=fun K hK => ?_)
 refine (HOR.out w3).mono ?_
 rintro e w2 ⟨rfl,⟨n3,rfl⟩⟩
 refine ⟨_,rfl, ?_⟩
 have HG4:=Zz.k ((HG3.out.alloc (.cells #[.int .i64 r0, .int .i64 r1, .int .i64 r2] 3)).drawn n3)
 refine hK.out _ _ hS2 (fun _ => ?_)
 clear hK
 refine nm (h := ?_)
 refine pu HT 17 4 262143 (h := ?_)
 refine dn HT (h := ?_)
 clear HT HW hS hS' hS2
 go_wp2
 go_ret
 exact ⟨re,HG4.out⟩
end
section
instance inhE : Inhabited SElem:=⟨⟨0,0,0⟩⟩
def Qaz (x : SElem) : List Value:=[.int .i64 x.f0, .int .i64 x.f1, .int .i64 x.f2]
def sortL (l : List SElem) : List SElem:=l.mergeSort fun x y => !Qat y x
theorem ltE (x y : SElem) : ltOf cmpE x y = Qat x y:=cmpE_neg x y
theorem elLess_iff (x y : SElem) : Qat x y = true ↔ x.f0 < y.f0 \/ (x.f0 = y.f0 /\ (x.f1 < y.f1 \/ (x.f1 = y.f1 /\ x.f2 < y.f2))):=by
 unfold Qat
 simp only [Bool.or_eq_true,Bool.and_eq_true,decide_eq_true_eq,beq_iff_eq]
theorem Qbl (x y : SElem) : Qat x y = false ↔ ¬ (x.f0 < y.f0 \/ (x.f0 = y.f0 /\ (x.f1 < y.f1 \/ (x.f1 = y.f1 /\ x.f2 < y.f2)))):=by
 rw [<- elLess_iff,Bool.not_eq_true]
theorem swoE : SWO (ltOf cmpE) where
 irrefl x:=by rw [ltE,Qbl]; omega
 trans x y z h1 h2:=by rw [ltE,elLess_iff] at *; omega
 ntrans x y z h1 h2:=by rw [ltE,Qbl] at *; omega
theorem totE (x y : SElem) (h1 : ltOf cmpE x y = false) (h2 : ltOf cmpE y x = false) : x = y:=by
 rw [ltE,Qbl] at h1 h2
 cases x; cases y
 simp only at h1 h2
 rw [SElem.mk.injEq]
 exact ⟨by omega,by omega,by omega⟩
theorem flat_at (d : Array SElem) {j : Nat} (hj : j < d.size) {i : Nat} (hi : i < 3) : (flatK Qaz 3 d)[j * 3 + i]! = (Qaz d[j])[i]!:=by
 rw [get_flatK _ _ _ _ (by omega),show (j * 3 + i) / 3 = j by omega,show (j * 3 + i) % 3 = i by omega,getElem!_pos d j hj]
theorem HoldsK_of {w : World} {base g c : Nat} {xs : List SElem} (h : RE w base (.slice (some ⟨g,0,none⟩) xs.length c) xs) : HoldsK Qaz 3 w g 0 xs.toArray:=by
 intro t ht
 rw [size_flatK] at ht
 have hs : xs.toArray.size = xs.length:=rfl
 have hj : t / 3 < xs.length:=by omega
 obtain ⟨cs,hl,hM,hc,hf⟩:=Kd.R_elem h zElem ((t / 3 : Nat) : Int) (by omega) (by omega)
 have hcs : cs = Qaz xs[t / 3]:=by
  have:=Qaj xs (t / 3) hj
  unfold Qaa at this
  rw [Int.toNat_natCast] at this hM
  rw [this] at hM
  exact kElem_openM hM
 have ht3 : t = t / 3 * 3 + t % 3:=by omega
 have hv : (flatK Qaz 3 xs.toArray)[t]! = (Qaz xs[t / 3])[t % 3]!:=by
  conv => lhs; rw [ht3]
  rw [flat_at _ (by rw [hs]; exact hj) (by omega)]
  rfl
 rw [hv,Nat.zero_add]
 have hi3 : t % 3 < 3:=by omega
 have h3 : Qao.sz = 3:=rfl
 refine ⟨?_, ?_⟩
 ·have:=hc (t % 3) ((Qaz xs[t / 3])[t % 3]!) (by
   rw [hcs]
   have hle : t % 3 < (Qaz xs[t / 3]).length:=by unfold Qaz; exact hi3
   rw [List.getElem?_eq_getElem hle,getElem!_pos (Qaz xs[t / 3]) (t % 3) hle])
  rw [Int.toNat_natCast,h3] at this
  rw [<- ht3] at this
  exact this
 ·have:=hf (t % 3)
  rw [Int.toNat_natCast,h3] at this
  rw [<- ht3] at this
  exact this
theorem heap_mapBlock {w : World} {g : Nat} {cur : Array Value} {T : TypeId} {fr : Nat × Nat} (f : Array Value -> Array Value) (h : w.heap[g]? = some (.cells cur T fr)) : (mapBlock w g f).heap[g]? = some (.cells (f cur) T fr):=by
 show (w.heap.modify g (onCells f))[g]? = _
 rw [Array.getElem?_modify,if_pos rfl,h]
 rfl
theorem heap_mapBlock_far {w : World} {g k : Nat} (f : Array Value -> Array Value) (h : k ≠ g) : (mapBlock w g f).heap[k]? = w.heap[k]?:=by
 show (w.heap.modify g (onCells f))[k]? = _
 rw [Array.getElem?_modify,if_neg (Ne.symm h)]
theorem flat_inner (d : Array SElem) (ok : World -> Nat -> (Nat -> Prop) -> Prop) {w : World} {base : Nat} {okp : Nat -> Prop} : Reps (Qao.M w base okp) 3 d.toList (flatK Qaz 3 d).toList:=by
 refine ⟨by rw [Array.length_toList,size_flatK,Array.length_toList],fun j p hp => ?_⟩
 have hj : j < d.size:=by
  have:=(List.getElem?_eq_some_iff.1 hp).1
  rwa [Array.length_toList] at this
 have hp' : d[j] = p:=by
  have:=(List.getElem?_eq_some_iff.1 hp).2
  rw [<- this]; rfl
 have hl : (flatK Qaz 3 d).toList.length = d.size * 3:=by rw [Array.length_toList,size_flatK]
 have e : ((flatK Qaz 3 d).toList.drop (j * 3)).take 3 = [.int .i64 p.f0, .int .i64 p.f1, .int .i64 p.f2]:=by
  refine List.ext_getElem (by rw [List.length_take,List.length_drop,hl]; show min 3 _ = 3; omega) (fun i h1 h2 => ?_)
  have hi : i < 3:=h2
  rw [List.getElem_take,List.getElem_drop]
  have ha : (flatK Qaz 3 d).toList[j * 3 + i]'(by rw [hl]; omega) = (flatK Qaz 3 d)[j * 3 + i]!:=by
   rw [Array.getElem_toList,getElem!_pos _ _ (by rw [size_flatK]; omega)]
  rw [ha,flat_at d hj hi,hp']
  have hle : i < (Qaz p).length:=hi
  rw [getElem!_pos (Qaz p) i hle]
  rfl
 rw [e]
 exact kElem_mkM _ _ _ p
theorem RE_sorted {w : World} {base g c : Nat} {xs : List SElem} (h : RE w base (.slice (some ⟨g,0,none⟩) xs.length c) xs) (d : Array SElem) (hd : d.size = xs.length) (n : Nat) (os : Array Obj) :
  RE (sortWorldK Qaz 3 w g 0 n d os) base (.slice (some ⟨g,0,none⟩) xs.length c) d.toList /\ w.grownBy (sortWorldK Qaz 3 w g 0 n d os) (some g):=by
 obtain ⟨hok,inner,ho,hr⟩:=h
 obtain ⟨ho1,ho2⟩:=ho
 rcases ho2 with ⟨hv,_⟩ | ⟨g',cap',cur,hv,hb,hh,hnc',hcm,hcs,ht⟩
 ·cases hv
 injection hv with hA _ hc
 injection hA with hA
 injection hA with hg
 subst hg; subst hc
 have h3 : Qao.sz = 3:=rfl
 have hglt : g < w.heap.size:=by
  rcases Nat.lt_or_ge g w.heap.size with hx | hx
  ·exact hx
  ·rw [Array.getElem?_eq_none hx] at hh; cases hh
 have hsz : (putCells id 0 (flatK Qaz 3 d) cur).size = cur.size:=by simp [putCells]
 have hrow : (sortWorldK Qaz 3 w g 0 n d os).heap[g]? = some (.cells (putCells id 0 (flatK Qaz 3 d) cur) 36 (0,0)):=by
  have h1:=heap_mapBlock (w:=Sort.ahead w n) (putCells id 0 (flatK Qaz 3 d)) (show (Sort.ahead w n).heap[g]? = _ from hh)
  show ((mapBlock (Sort.ahead w n) g (putCells id 0 (flatK Qaz 3 d))).heap ++ os)[g]? = _
  rw [Array.getElem?_append_left (by show g < (w.heap.modify g (onCells (putCells id 0 (flatK Qaz 3 d)))).size; rw [Array.size_modify]; exact hglt)]
  exact h1
 have htake : (putCells id 0 (flatK Qaz 3 d) cur).toList.take (xs.length * 3) = (flatK Qaz 3 d).toList:=by
  have hlen : xs.length * 3 <= cur.size:=by
   rw [hcs,h3]
   exact Nat.mul_le_mul_right 3 hnc'
  have hL : (putCells id 0 (flatK Qaz 3 d) cur).toList.length = cur.size:=by rw [Array.length_toList,hsz]
  have hF : (flatK Qaz 3 d).toList.length = xs.length * 3:=by rw [Array.length_toList,size_flatK,hd]
  refine List.ext_getElem (by rw [List.length_take,hL,hF]; omega) (fun i h1 h2 => ?_)
  have hi : i < xs.length * 3:=by rw [List.length_take] at h1; omega
  rw [List.getElem_take,Array.getElem_toList,Array.getElem_toList]
  unfold putCells
  rw [Array.getElem_mapIdx,if_pos ⟨Nat.zero_le _,by rw [Nat.zero_add,size_flatK,hd]; exact hi⟩]
  show (flatK Qaz 3 d)[i - 0]! = _
  rw [Nat.sub_zero,getElem!_pos _ _ (by rw [size_flatK,hd]; exact hi)]
 have hdl : d.toList.length = xs.length:=by rw [Array.length_toList,hd]
 have h0 : (flatK Qaz 3 d).toList.length = d.toList.length * Qao.sz:=by rw [Array.length_toList,size_flatK,Array.length_toList]; rfl
 have hgrow : w.grownBy (sortWorldK Qaz 3 w g 0 n d os) (some g):=by
  refine ⟨rfl,rfl,rfl, ?_,fun k hk hne => ?_⟩
  ·show w.heap.size <= ((w.heap.modify g (onCells (putCells id 0 (flatK Qaz 3 d)))) ++ os).size
   rw [Array.size_append,Array.size_modify]; omega
  ·show ((mapBlock (Sort.ahead w n) g (putCells id 0 (flatK Qaz 3 d))).heap ++ os)[k]? = _
   rw [Array.getElem?_append_left (by show k < (w.heap.modify g (onCells (putCells id 0 (flatK Qaz 3 d)))).size; rw [Array.size_modify]; exact hk)]
   exact heap_mapBlock_far _ (fun e => hne (by rw [e]))
 refine ⟨⟨hok,(flatK Qaz 3 d).toList,⟨h0, .inr ⟨g,c,putCells id 0 (flatK Qaz 3 d) cur,by rw [hdl],hb,hrow,by rw [hdl]; exact hnc',hcm,by rw [hsz]; exact hcs,by rw [hdl,h3]; exact htake⟩⟩,flat_inner d (fun _ _ _ => True)⟩,hgrow⟩
theorem cmpLays (blk off size : Nat) (w : World) : CmpLays Try.prog 43 #[] Qaz 3 cmpE blk off size w:=fun _ _ _ _ x y => compare_calls x y _
theorem sort_calls {w : World} {base g c : Nat} {xs : List SElem} (h : RE w base (.slice (some ⟨g,0,none⟩) xs.length c) xs) (hg : g < w.heap.size) (hl : xs.length <= 1000000) :
  Calls Try.prog 42 #[.slice (some ⟨g,0,none⟩) xs.length c, .func (.func 43) #[] #[]] w fun e w' =>
   e = .returned (.tuple #[]) /\ RE w' base (.slice (some ⟨g,0,none⟩) xs.length c) (sortL xs) /\ w.grownBy w' (some g):=by
 have hcon:=AnyQ.slices_SortFunc Try.sortEl 3 Try.isAgg36 Try.sizeOf36 Qaz (fun _ => rfl) (fun x v hv => by simp [Qaz] at hv; rcases hv with rfl | rfl | rfl <;> rfl) cmpE swoE 43 #[] g 0 c xs.toArray w
  (enters_at Try.func43 (by kernel_rfl) rfl) (cmpLays _ _ _ _) (HoldsK_of h) hg (by show xs.length < _; omega)
 change Calls Try.prog 42 _ _ _ at hcon
 refine hcon.mono ?_
 rintro e w' ⟨rfl,d',n,os,hp,hs,rfl⟩
 have hu:=sorted_unique_holds swoE totE xs.toArray d' hp hs
 have hd : d'.size = xs.length:=hp.1
 obtain ⟨r1,r2⟩:=RE_sorted h d' hd n os
 have e1 : d'.toList = sortL xs:=by
  rw [hu]
  unfold sortL
  congr 1
  funext x y
  rw [ltE]
 rw [e1] at r1
 exact ⟨rfl,r1,r2⟩
end
end Go.Proofs.Ytonoaflfobajcaa.L
end

section
namespace Go.Proofs.Ytonoaflfobajcaa.L
open Go.RowKit Go.Proofs.YtonoaflfobajcaaW.PrintWords Go.Proofs.YtonoaflfobajcaaW.PrintLast Go.Proofs.YtonoaflfobajcaaW.PrintMore
set_option linter.unusedVariables false
set_option linter.unusedSimpArgs false
set_option maxHeartbeats 40000000
set_option maxRecDepth 1000000
section
theorem kElem_openK {w : World} {x : SElem} {cs : List Value} (h : Qao.K w x cs) : cs = [.int .i64 x.f0, .int .i64 x.f1, .int .i64 x.f2]:=by
 obtain ⟨_,_,rfl,rfl,⟨_,_,rfl,rfl,rfl⟩⟩:=h
 exact rfl
theorem infoE3 : (Try.prog.info? 36).map (fun i => (i.zero,i.size,i.bytes)) = some (some (.agg #[(.int .i64 0),(.int .i64 0),(.int .i64 0)]),3,24):=by kernel_rfl
theorem clone_calls (A : Option Addr) (c : Nat) (l : List SElem) (w : World) (hr : Kd.C Qao w A l.length l) (hl : l.length <= 1000000) :
  Calls Try.prog 39 #[.slice A l.length c] w fun e w' => ∃ v,e = .returned v /\ RE w' w.heap.size v l /\ Below w.heap.size w w':=by
 have q22 : ∀ (w : World) (a : Option Addr) (n c n' c' : Nat),(binOp .eql 23 (.slice a n c) (.slice none n' c')).run Try.prog w = .ok (.bool a.isNone) w:=fun w a n c n' c' => Lib.run_eql_slice_nil w _ _ a n c n' c' Try.underlying23
 rcases A with _ | ad
 ·have hz : l.length = 0:=by
   rcases Nat.eq_zero_or_pos l.length with h | h
   ·exact h
   ·obtain ⟨_,h',_⟩:=hr.2.2 h
    cases h'
  obtain rfl : l = []:=List.eq_nil_of_length_eq_zero hz
  clear hr hz hl
  go_enter Try.func39,Try.ntmps39
  go_wp2
  go_ret
  exact ⟨_,rfl,Kd.R_nil _ _ _ _ _,Below.refl _ _⟩
 ·obtain ⟨i0,hi,hiv⟩:=Option.map_eq_some_iff.1 infoE3
  simp only [Prod.mk.injEq] at hiv
  obtain ⟨hz0,hz1,hz2⟩:=hiv
  obtain ⟨news,hnr,hnc⟩:=Qbg.inner_ hr
  have hnl : news.length = l.length * 3:=hnr.1
  have HNC:=Zz.k hnc
  have HNR:=Zz.k hnr
  have h1 : ∀ u ∈ news,u.oneCell' = true:=Kd.reps_one hnr (by decide) (fun p c h => Qao.K_one h)
  clear hr hnc hnr
  go_enter Try.func39,Try.ntmps39
  go_wp2_with (at_builtin; refine wpList_append_own _ rfl _ _ 23 rfl w.heap.size 36 i0 _ 3 24 Try.underlying23 hi hz0 hz1 hz2 rfl (by decide) _ _ _ rfl (World.ownsRow_made w #[] 0 (Nat.le_refl _) (Nat.zero_le _) (by simp)) ad l.length c news rfl ?qc1 ?qc2 ?qc3 ?qc4 ?qc5 ?qc6 ?_)
  case qc1 => exact hnl
  case qc2 =>
   intro j u hj
   exact Qaf (Qan (Below.refl _ _) _) (HNC.out j u hj)
  case qc3 => exact h1
  case qc4 => rw [Nat.zero_add]; unfold maxLen; omega
  case qc5 => rw [Nat.zero_add]; omega
  case qc6 => simp
  intro v' w1 hown hgrow hnil
  have HO:=Zz.k hown
  have HG:=Zz.k hgrow
  clear hown hgrow hnil
  go_wp2
  go_ret
  have ho : w1.ownsRow w.heap.size 36 3 v' l.length news:=by simpa using HO.out
  refine ⟨v',rfl,⟨fun _ _ => trivial,news,ho,⟨HNR.out.1,fun j p hp => ?_⟩⟩,((Below.refl _ w).alloc (Nat.le_refl _) _).grown HG.out (by simp) (by intro k hk; simp [Value.ownBlock] at hk; omega)⟩
  rw [kElem_openK (HNR.out.2 j p hp)]
  exact kElem_mkM _ _ _ p
end
end Go.Proofs.Ytonoaflfobajcaa.L
end
