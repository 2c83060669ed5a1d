/- Part 3 of the proof that for every argument the law EditMany answers true: many edits, one behind the other, by sites in turn, are each a row's next op; the text is as if each had been done to it plainly. -/
import Derived.Test.YtlllghajjamdpaaZEM2
import Derived.LoopTactic
import Derived.WalkSpells
import Derived.Maps.OwnSet
import Derived.Maps.OwnOps
import Derived.DeepKeys5
import Derived.StillTailTactics
section
namespace Go.Proofs.Ytlllghajjamdpaa.L
open Go.RowKit Go.Proofs.YtlllghajjamdpaaW.PrintWords Go.Proofs.YtlllghajjamdpaaW.PrintLast Go.Proofs.YtlllghajjamdpaaW.PrintMore
set_option linter.unusedVariables false
set_option linter.unusedSimpArgs false
set_option maxHeartbeats 40000000
set_option maxRecDepth 1000000
section
attribute [local go_sem] Qcg Qce max_two min_two Qbm Qbl Qcf Qcd
attribute [local go_sem high] eqAElem
def op_edit.j0 : Nat -> Bool -> Int -> Int -> Int -> Int -> Int -> Int -> ByteArray -> List (SElem) -> Int -> Int -> Int -> Option (Bool)
 | 0,_,_,_,_,_,_,_,_,_,_,_,_ => none
 | k + 1,x34,x136000,x136001,x136002,x136003,x136004,x136005,x136006,x136007,x136008,x136009,x136010 => if x34 = true then (some false) else ((text_May.f x136006).bind fun t138 => (if t138 = true then ((op_Size.f x136000 x136001 x136002 x136003 x136004 x136005 x136006 x136007 x136008 x136009 x136010).bind fun t139 => (if t139 <= 12 then ((op_gone.f k x136000 x136001 x136002 x136003 x136004 x136005 x136006 x136007 x136008 x136009 x136010).bind fun t140 => (if t140 = true then (if x136008 = 0 then (if x136009 = 0 then (some (x136010 == 0)) else (some false)) else (some false)) else (some false))) else (some false))) else (some false)))
def op_edit.f (k : Nat) (a0_0 : Int) (a0_1 : Int) (a0_2 : Int) (a0_3 : Int) (a0_4 : Int) (a0_5 : Int) (a0_6 : ByteArray) (l0_7 : List (SElem)) (a0_8 : Int) (a0_9 : Int) (a0_10 : Int) : Option (Bool):=(op_IsElem.f a0_3 a0_4 a0_5).bind fun t136 => (if t136 = true then ((op_own.f a0_0 a0_1 a0_2 a0_3 a0_4 a0_5 a0_6 l0_7 a0_8 a0_9 a0_10 a0_3 a0_4 a0_5).bind fun t137 => (if t137 = true then (op_edit.j0 k true a0_0 a0_1 a0_2 a0_3 a0_4 a0_5 a0_6 l0_7 a0_8 a0_9 a0_10) else (if a0_6.toList = ([] : List UInt8) then (if (!(a0_3 == 0) || (!(a0_4 == 0) || (!(a0_5 == 0)))) = true then (op_edit.j0 k true a0_0 a0_1 a0_2 a0_3 a0_4 a0_5 a0_6 l0_7 a0_8 a0_9 a0_10) else (op_edit.j0 k ((l0_7.length : Int) == 0) a0_0 a0_1 a0_2 a0_3 a0_4 a0_5 a0_6 l0_7 a0_8 a0_9 a0_10)) else (op_edit.j0 k false a0_0 a0_1 a0_2 a0_3 a0_4 a0_5 a0_6 l0_7 a0_8 a0_9 a0_10)))) else (op_edit.j0 k true a0_0 a0_1 a0_2 a0_3 a0_4 a0_5 a0_6 l0_7 a0_8 a0_9 a0_10))
theorem op_edit.calls (k : Nat) (a0_0 : Int) (a0_1 : Int) (a0_2 : Int) (a0_3 : Int) (a0_4 : Int) (a0_5 : Int) (a0_6 : ByteArray) (A0_7 : Option Addr) (c0_7 : Nat) (l0_7 : List (SElem)) (a0_8 : Int) (a0_9 : Int) (a0_10 : Int) (r : Bool) (w : World) (hr0_7 : Kd.C Qaw w A0_7 l0_7.length l0_7) (hc0_7 : l0_7.length <= c0_7) (h : op_edit.f k a0_0 a0_1 a0_2 a0_3 a0_4 a0_5 a0_6 l0_7 a0_8 a0_9 a0_10 = some r) :
  Calls Try.prog 64 #[.agg #[.int .i64 a0_0, .int .i64 a0_1, .int .i64 a0_2, .int .i64 a0_3, .int .i64 a0_4, .int .i64 a0_5, .string a0_6, .slice A0_7 l0_7.length c0_7, .int .i64 a0_8, .int .i64 a0_9, .int .i64 a0_10]] w fun e w' => e = .returned (.bool r) /\ Below w.heap.size w w':=by
 have hu32:=Try.underlying32
 have hu30:=Try.underlying30
 have HR0_7:=Zz.k hr0_7
 have HC0_7:=Zz.k hc0_7
 clear hr0_7 hc0_7
 have HB:=Zz.k (Below.refl w.heap.size w)
 unfold op_edit.f at h; have H:=h
 clear h
 have HC2:=Zz.k H
 clear H
 go_enter Try.func64,Try.ntmps64
 go_upto_region 1 with (first | ((with_reducible refine Qaf (N:=1) rfl ?_); (try (refine Qah (by rfl) ?_; dsimp only)); refine bx 1 #[.int .i64 a0_0, .int .i64 a0_1, .int .i64 a0_2, .int .i64 a0_3, .int .i64 a0_4, .int .i64 a0_5, .string a0_6, .slice A0_7 l0_7.length c0_7, .int .i64 a0_8, .int .i64 a0_9, .int .i64 a0_10] 32 (h := ?_); intro gb135 hg w3 hbox hb; have BK135:=Zz.k (hbox); have GW135:=bz HB hg; have GE135:=bz HB hg; replace HB:=bs HB hb; clear hb hbox hg))
 (try simp only [Act.put,List.setIfInBounds_toArray,List.set_cons_zero,List.set_cons_succ])
 go_cut [34] (fun v34 wc => ∃ (kq : Nat) (x34_1 : Bool),v34 = .bool x34_1 /\ Zz (op_edit.j0 kq x34_1 a0_0 a0_1 a0_2 a0_3 a0_4 a0_5 a0_6 l0_7 a0_8 a0_9 a0_10 = some r) /\ Zz (kq <= k) /\ Zz (wc.heap[gb135]? = some (.cells #[.int .i64 a0_0, .int .i64 a0_1, .int .i64 a0_2, .int .i64 a0_3, .int .i64 a0_4, .int .i64 a0_5, .string a0_6,(.slice A0_7 l0_7.length c0_7), .int .i64 a0_8, .int .i64 a0_9, .int .i64 a0_10] 32 (0,0))) /\ Zz (Below w.heap.size w wc))
 case first =>
  have H:=HC2.out
  clear HC2
  obtain ⟨t136,A4,H⟩:=bE H
  by_cases c5 : t136 = true; rotate_left
  ·replace c5:=Zf c5
   subst c5
   rw [if_neg nft] at H
   have H':=Zz.k H
   clear H
   obtain ⟨_,_,_,_,_,_,_,_,_,_,_,_,_,_,_,_,_,_,_,_,_,_⟩:=kc11 BK135
   go_wp2_with (first | ((with_reducible refine Qac (f:=76) rfl ?_); refine gl (some 5) Try.func76 #[.agg #[.int .i64 a0_3, .int .i64 a0_4, .int .i64 a0_5]] (h := ?_); (with_reducible refine (op_IsElem.calls a0_3 a0_4 a0_5 false _ A4.out).mono ?_); rintro e w30 ⟨rfl,hb⟩; refine ⟨_,rfl, ?_⟩; replace BK135:=bl BK135 hb; replace HB:=bs HB hb; clear hb))
   go_meet
   case rel => exact ⟨_,(true),rf,H',⟨by first | omega | exact Nat.le_refl _⟩,⟨kk BK135⟩,⟨bw HB⟩⟩
  subst c5
  rw [if_pos rfl] at H
  obtain ⟨t137,A6,H⟩:=bE H
  by_cases c7 : t137 = true
  ·subst c7
   rw [if_pos rfl] at H
   have H':=Zz.k H
   clear H
   obtain ⟨_,_,_,_,_,_,_,_,_,_,_,_,_,_,_,_,_,_,_,_,_,_⟩:=kc11 BK135
   go_wp2_with (first | ((with_reducible refine Qac (f:=76) rfl ?_); refine gl (some 5) Try.func76 #[.agg #[.int .i64 a0_3, .int .i64 a0_4, .int .i64 a0_5]] (h := ?_); (with_reducible refine (op_IsElem.calls a0_3 a0_4 a0_5 true _ A4.out).mono ?_); rintro e w9 ⟨rfl,hb⟩; refine ⟨_,rfl, ?_⟩; replace BK135:=bl BK135 hb; replace HB:=bs HB hb; clear hb; obtain ⟨_,_,_,_,_,_,_,_,_,_,_,_,_,_,_,_,_,_,_,_,_,_⟩:=kc11 BK135) | (go_at_call 77; (with_reducible refine (op_own.calls a0_0 a0_1 a0_2 a0_3 a0_4 a0_5 a0_6 _ _ l0_7 a0_8 a0_9 a0_10 a0_3 a0_4 a0_5 true _ ?side1 ?side2 A6.out).mono ?_); (case side1 => exact cb HR0_7 HB); (case side2 => exact HC0_7.out); rintro e w11 ⟨rfl,hb⟩; replace BK135:=bl BK135 hb; replace HB:=bs HB hb; clear hb))
   go_meet
   case rel => exact ⟨_,(true),rf,H',⟨by first | omega | exact Nat.le_refl _⟩,⟨kk BK135⟩,⟨bw HB⟩⟩
  replace c7:=Zf c7
  subst c7
  rw [if_neg nft] at H
  by_cases c12 : a0_6.toList = ([] : List UInt8); rotate_left
  ·rw [if_neg c12] at H
   obtain ⟨c12b0,c12b1⟩:=bF c12
   (first | rw [c12b0] | (simp only [i64_w,i32_w]; rw [c12b0]) | skip)
   have H':=Zz.k H
   clear H
   obtain ⟨_,_,_,_,_,_,_,_,_,_,_,_,_,_,_,_,_,_,_,_,_,_⟩:=kc11 BK135
   go_wp2_with (first | ((with_reducible refine Qac (f:=76) rfl ?_); refine gl (some 5) Try.func76 #[.agg #[.int .i64 a0_3, .int .i64 a0_4, .int .i64 a0_5]] (h := ?_); (with_reducible refine (op_IsElem.calls a0_3 a0_4 a0_5 true _ A4.out).mono ?_); rintro e w25 ⟨rfl,hb⟩; refine ⟨_,rfl, ?_⟩; replace BK135:=bl BK135 hb; replace HB:=bs HB hb; clear hb; obtain ⟨_,_,_,_,_,_,_,_,_,_,_,_,_,_,_,_,_,_,_,_,_,_⟩:=kc11 BK135) | (go_at_call 77; (with_reducible refine (op_own.calls a0_0 a0_1 a0_2 a0_3 a0_4 a0_5 a0_6 _ _ l0_7 a0_8 a0_9 a0_10 a0_3 a0_4 a0_5 false _ ?side1 ?side2 A6.out).mono ?_); (case side1 => exact cb HR0_7 HB); (case side2 => exact HC0_7.out); rintro e w27 ⟨rfl,hb⟩; replace BK135:=bl BK135 hb; replace HB:=bs HB hb; clear hb; obtain ⟨_,_,_,_,_,_,_,_,_,_,_,_,_,_,_,_,_,_,_,_,_,_⟩:=kc11 BK135))
   go_meet
   case rel => exact ⟨_,(false),rf,H',⟨by first | omega | exact Nat.le_refl _⟩,⟨kk BK135⟩,⟨bw HB⟩⟩
  rw [if_pos c12] at H
  obtain ⟨c12b0,c12b1⟩:=bT c12
  clear c12
  (first | rw [c12b0] | (simp only [i64_w,i32_w]; rw [c12b0]) | skip)
  by_cases c13 : (!(a0_3 == 0) || (!(a0_4 == 0) || (!(a0_5 == 0)))) = true
  ·rw [if_pos c13] at H
   have c13b0 : (!(a0_3 == 0) || (!(a0_4 == 0) || (!(a0_5 == 0)))) = true:=c13
   clear c13
   have H':=Zz.k H
   clear H
   obtain ⟨_,_,_,_,_,_,_,_,_,_,_,_,_,_,_,_,_,_,_,_,_,_⟩:=kc11 BK135
   go_wp2_with (first | ((with_reducible refine Qac (f:=76) rfl ?_); refine gl (some 5) Try.func76 #[.agg #[.int .i64 a0_3, .int .i64 a0_4, .int .i64 a0_5]] (h := ?_); (with_reducible refine (op_IsElem.calls a0_3 a0_4 a0_5 true _ A4.out).mono ?_); rintro e w15 ⟨rfl,hb⟩; refine ⟨_,rfl, ?_⟩; replace BK135:=bl BK135 hb; replace HB:=bs HB hb; clear hb; obtain ⟨_,_,_,_,_,_,_,_,_,_,_,_,_,_,_,_,_,_,_,_,_,_⟩:=kc11 BK135) | (go_at_call 77; (with_reducible refine (op_own.calls a0_0 a0_1 a0_2 a0_3 a0_4 a0_5 a0_6 _ _ l0_7 a0_8 a0_9 a0_10 a0_3 a0_4 a0_5 false _ ?side1 ?side2 A6.out).mono ?_); (case side1 => exact cb HR0_7 HB); (case side2 => exact HC0_7.out); rintro e w17 ⟨rfl,hb⟩; replace BK135:=bl BK135 hb; replace HB:=bs HB hb; clear hb; obtain ⟨_,_,_,_,_,_,_,_,_,_,_,_,_,_,_,_,_,_,_,_,_,_⟩:=kc11 BK135))
   go_meet
   case rel => exact ⟨_,(true),rf,H',⟨by first | omega | exact Nat.le_refl _⟩,⟨kk BK135⟩,⟨bw HB⟩⟩
  rw [if_neg c13] at H
  have c13b0 : (!(a0_3 == 0) || (!(a0_4 == 0) || (!(a0_5 == 0)))) = false:=by simpa using c13
  clear c13
  have H':=Zz.k H
  clear H
  obtain ⟨_,_,_,_,_,_,_,_,_,_,_,_,_,_,_,_,_,_,_,_,_,_⟩:=kc11 BK135
  go_wp2_with (first | ((with_reducible refine Qac (f:=76) rfl ?_); refine gl (some 5) Try.func76 #[.agg #[.int .i64 a0_3, .int .i64 a0_4, .int .i64 a0_5]] (h := ?_); (with_reducible refine (op_IsElem.calls a0_3 a0_4 a0_5 true _ A4.out).mono ?_); rintro e w20 ⟨rfl,hb⟩; refine ⟨_,rfl, ?_⟩; replace BK135:=bl BK135 hb; replace HB:=bs HB hb; clear hb; obtain ⟨_,_,_,_,_,_,_,_,_,_,_,_,_,_,_,_,_,_,_,_,_,_⟩:=kc11 BK135) | (go_at_call 77; (with_reducible refine (op_own.calls a0_0 a0_1 a0_2 a0_3 a0_4 a0_5 a0_6 _ _ l0_7 a0_8 a0_9 a0_10 a0_3 a0_4 a0_5 false _ ?side1 ?side2 A6.out).mono ?_); (case side1 => exact cb HR0_7 HB); (case side2 => exact HC0_7.out); rintro e w22 ⟨rfl,hb⟩; replace BK135:=bl BK135 hb; replace HB:=bs HB hb; clear hb; obtain ⟨_,_,_,_,_,_,_,_,_,_,_,_,_,_,_,_,_,_,_,_,_,_⟩:=kc11 BK135))
  go_meet
  case rel => exact ⟨_,(((l0_7.length : Int) == 0)),rf,H',⟨by first | omega | exact Nat.le_refl _⟩,⟨kk BK135⟩,⟨bw HB⟩⟩
 case rest =>
  clear HC2
  obtain ⟨kq,x34_1,rfl,HA,HJ1,BK135,HB⟩:=hcut
  cases kq with
  | zero => exact absurd HA.out (by simp [op_edit.j0])
  | succ kj1 =>
   have H:=HA.out
   clear HA
   simp only [op_edit.j0] at H
   by_cases c31 : x34_1 = true
   ·subst c31
    rw [if_pos rfl] at H
    obtain rfl:=Zo H
    go_wp2
    go_ret
    exact ⟨re,bw HB⟩
   replace c31:=Zf c31
   subst c31
   rw [if_neg nft] at H
   obtain ⟨t138,A32,H⟩:=bE H
   by_cases c33 : t138 = true; rotate_left
   ·replace c33:=Zf c33
    subst c33
    rw [if_neg nft] at H
    obtain rfl:=Zo H
    obtain ⟨_,_,_,_,_,_,_,_,_,_,_,_,_,_,_,_,_,_,_,_,_,_⟩:=kc11 BK135
    go_wp2_with (first | ((with_reducible refine Qac (f:=11) rfl ?_); refine gl (some 37) Try.func11 #[.string a0_6] (h := ?_); (with_reducible refine (text_May.calls a0_6 false _ A32.out).mono ?_); rintro e w72 ⟨rfl,hb⟩; refine ⟨_,rfl, ?_⟩; replace BK135:=bl BK135 hb; replace HB:=bs HB hb; clear hb))
    go_ret
    exact ⟨re,bw HB⟩
   subst c33
   rw [if_pos rfl] at H
   obtain ⟨t139,A34,H⟩:=bE H
   by_cases c35 : t139 <= 12; rotate_left
   ·rw [if_neg c35] at H
    have c35b0:=Ze c35
    clear c35
    obtain rfl:=Zo H
    obtain ⟨_,_,_,_,_,_,_,_,_,_,_,_,_,_,_,_,_,_,_,_,_,_⟩:=kc11 BK135
    go_wp2_with (first | ((with_reducible refine Qac (f:=11) rfl ?_); refine gl (some 37) Try.func11 #[.string a0_6] (h := ?_); (with_reducible refine (text_May.calls a0_6 true _ A32.out).mono ?_); rintro e w68 ⟨rfl,hb⟩; refine ⟨_,rfl, ?_⟩; replace BK135:=bl BK135 hb; replace HB:=bs HB hb; clear hb; obtain ⟨_,_,_,_,_,_,_,_,_,_,_,_,_,_,_,_,_,_,_,_,_,_⟩:=kc11 BK135) | (go_at_call 42; (with_reducible refine (op_Size.calls a0_0 a0_1 a0_2 a0_3 a0_4 a0_5 a0_6 _ _ l0_7 a0_8 a0_9 a0_10 t139 _ ?side1 ?side2 A34.out).mono ?_); (case side1 => exact cb HR0_7 HB); (case side2 => exact HC0_7.out); rintro e w70 ⟨rfl,hb⟩; replace BK135:=bl BK135 hb; replace HB:=bs HB hb; clear hb))
    go_ret
    exact ⟨re,bw HB⟩
   rw [if_pos c35] at H
   have c35b0:=Zd c35
   clear c35
   obtain ⟨t140,A36,H⟩:=bE H
   by_cases c37 : t140 = true; rotate_left
   ·replace c37:=Zf c37
    subst c37
    rw [if_neg nft] at H
    obtain rfl:=Zo H
    obtain ⟨_,_,_,_,_,_,_,_,_,_,_,_,_,_,_,_,_,_,_,_,_,_⟩:=kc11 BK135
    go_wp2_with (first | ((with_reducible refine Qac (f:=11) rfl ?_); refine gl (some 37) Try.func11 #[.string a0_6] (h := ?_); (with_reducible refine (text_May.calls a0_6 true _ A32.out).mono ?_); rintro e w62 ⟨rfl,hb⟩; refine ⟨_,rfl, ?_⟩; replace BK135:=bl BK135 hb; replace HB:=bs HB hb; clear hb; obtain ⟨_,_,_,_,_,_,_,_,_,_,_,_,_,_,_,_,_,_,_,_,_,_⟩:=kc11 BK135) | (go_at_call 42; (with_reducible refine (op_Size.calls a0_0 a0_1 a0_2 a0_3 a0_4 a0_5 a0_6 _ _ l0_7 a0_8 a0_9 a0_10 t139 _ ?side1 ?side2 A34.out).mono ?_); (case side1 => exact cb HR0_7 HB); (case side2 => exact HC0_7.out); rintro e w64 ⟨rfl,hb⟩; replace BK135:=bl BK135 hb; replace HB:=bs HB hb; clear hb; obtain ⟨_,_,_,_,_,_,_,_,_,_,_,_,_,_,_,_,_,_,_,_,_,_⟩:=kc11 BK135) | (go_at_call 78; (with_reducible refine (op_gone.calls kj1 a0_0 a0_1 a0_2 a0_3 a0_4 a0_5 a0_6 _ _ l0_7 a0_8 a0_9 a0_10 false _ ?side1 ?side2 A36.out).mono ?_); (case side1 => exact cb HR0_7 HB); (case side2 => exact HC0_7.out); rintro e w66 ⟨rfl,hb⟩; replace BK135:=bl BK135 hb; replace HB:=bs HB hb; clear hb))
    go_ret
    exact ⟨re,bw HB⟩
   subst c37
   rw [if_pos rfl] at H
   by_cases c38 : a0_8 = 0; rotate_left
   ·rw [if_neg c38] at H
    obtain ⟨c38b0,c38b1⟩:=bF c38
    obtain rfl:=Zo H
    obtain ⟨_,_,_,_,_,_,_,_,_,_,_,_,_,_,_,_,_,_,_,_,_,_⟩:=kc11 BK135
    go_wp2_with (first | ((with_reducible refine Qac (f:=11) rfl ?_); refine gl (some 37) Try.func11 #[.string a0_6] (h := ?_); (with_reducible refine (text_May.calls a0_6 true _ A32.out).mono ?_); rintro e w55 ⟨rfl,hb⟩; refine ⟨_,rfl, ?_⟩; replace BK135:=bl BK135 hb; replace HB:=bs HB hb; clear hb; obtain ⟨_,_,_,_,_,_,_,_,_,_,_,_,_,_,_,_,_,_,_,_,_,_⟩:=kc11 BK135) | (go_at_call 42; (with_reducible refine (op_Size.calls a0_0 a0_1 a0_2 a0_3 a0_4 a0_5 a0_6 _ _ l0_7 a0_8 a0_9 a0_10 t139 _ ?side1 ?side2 A34.out).mono ?_); (case side1 => exact cb HR0_7 HB); (case side2 => exact HC0_7.out); rintro e w57 ⟨rfl,hb⟩; replace BK135:=bl BK135 hb; replace HB:=bs HB hb; clear hb; obtain ⟨_,_,_,_,_,_,_,_,_,_,_,_,_,_,_,_,_,_,_,_,_,_⟩:=kc11 BK135) | (go_at_call 78; (with_reducible refine (op_gone.calls kj1 a0_0 a0_1 a0_2 a0_3 a0_4 a0_5 a0_6 _ _ l0_7 a0_8 a0_9 a0_10 true _ ?side1 ?side2 A36.out).mono ?_); (case side1 => exact cb HR0_7 HB); (case side2 => exact HC0_7.out); rintro e w59 ⟨rfl,hb⟩; replace BK135:=bl BK135 hb; replace HB:=bs HB hb; clear hb; obtain ⟨_,_,_,_,_,_,_,_,_,_,_,_,_,_,_,_,_,_,_,_,_,_⟩:=kc11 BK135))
    go_ret
    exact ⟨re,bw HB⟩
   rw [if_pos c38] at H
   obtain ⟨c38b0,c38b1⟩:=bT c38
   clear c38
   by_cases c39 : a0_9 = 0
   ·rw [if_pos c39] at H
    obtain ⟨c39b0,c39b1⟩:=bT c39
    clear c39
    obtain rfl:=Zo H
    obtain ⟨_,_,_,_,_,_,_,_,_,_,_,_,_,_,_,_,_,_,_,_,_,_⟩:=kc11 BK135
    go_wp2_with (first | ((with_reducible refine Qac (f:=11) rfl ?_); refine gl (some 37) Try.func11 #[.string a0_6] (h := ?_); (with_reducible refine (text_May.calls a0_6 true _ A32.out).mono ?_); rintro e w41 ⟨rfl,hb⟩; refine ⟨_,rfl, ?_⟩; replace BK135:=bl BK135 hb; replace HB:=bs HB hb; clear hb; obtain ⟨_,_,_,_,_,_,_,_,_,_,_,_,_,_,_,_,_,_,_,_,_,_⟩:=kc11 BK135) | (go_at_call 42; (with_reducible refine (op_Size.calls a0_0 a0_1 a0_2 a0_3 a0_4 a0_5 a0_6 _ _ l0_7 a0_8 a0_9 a0_10 t139 _ ?side1 ?side2 A34.out).mono ?_); (case side1 => exact cb HR0_7 HB); (case side2 => exact HC0_7.out); rintro e w43 ⟨rfl,hb⟩; replace BK135:=bl BK135 hb; replace HB:=bs HB hb; clear hb; obtain ⟨_,_,_,_,_,_,_,_,_,_,_,_,_,_,_,_,_,_,_,_,_,_⟩:=kc11 BK135) | (go_at_call 78; (with_reducible refine (op_gone.calls kj1 a0_0 a0_1 a0_2 a0_3 a0_4 a0_5 a0_6 _ _ l0_7 a0_8 a0_9 a0_10 true _ ?side1 ?side2 A36.out).mono ?_); (case side1 => exact cb HR0_7 HB); (case side2 => exact HC0_7.out); rintro e w45 ⟨rfl,hb⟩; replace BK135:=bl BK135 hb; replace HB:=bs HB hb; clear hb; obtain ⟨_,_,_,_,_,_,_,_,_,_,_,_,_,_,_,_,_,_,_,_,_,_⟩:=kc11 BK135))
    go_ret
    exact ⟨re,bw HB⟩
   rw [if_neg c39] at H
   obtain ⟨c39b0,c39b1⟩:=bF c39
   obtain rfl:=Zo H
   obtain ⟨_,_,_,_,_,_,_,_,_,_,_,_,_,_,_,_,_,_,_,_,_,_⟩:=kc11 BK135
   go_wp2_with (first | ((with_reducible refine Qac (f:=11) rfl ?_); refine gl (some 37) Try.func11 #[.string a0_6] (h := ?_); (with_reducible refine (text_May.calls a0_6 true _ A32.out).mono ?_); rintro e w48 ⟨rfl,hb⟩; refine ⟨_,rfl, ?_⟩; replace BK135:=bl BK135 hb; replace HB:=bs HB hb; clear hb; obtain ⟨_,_,_,_,_,_,_,_,_,_,_,_,_,_,_,_,_,_,_,_,_,_⟩:=kc11 BK135) | (go_at_call 42; (with_reducible refine (op_Size.calls a0_0 a0_1 a0_2 a0_3 a0_4 a0_5 a0_6 _ _ l0_7 a0_8 a0_9 a0_10 t139 _ ?side1 ?side2 A34.out).mono ?_); (case side1 => exact cb HR0_7 HB); (case side2 => exact HC0_7.out); rintro e w50 ⟨rfl,hb⟩; replace BK135:=bl BK135 hb; replace HB:=bs HB hb; clear hb; obtain ⟨_,_,_,_,_,_,_,_,_,_,_,_,_,_,_,_,_,_,_,_,_,_⟩:=kc11 BK135) | (go_at_call 78; (with_reducible refine (op_gone.calls kj1 a0_0 a0_1 a0_2 a0_3 a0_4 a0_5 a0_6 _ _ l0_7 a0_8 a0_9 a0_10 true _ ?side1 ?side2 A36.out).mono ?_); (case side1 => exact cb HR0_7 HB); (case side2 => exact HC0_7.out); rintro e w52 ⟨rfl,hb⟩; replace BK135:=bl BK135 hb; replace HB:=bs HB hb; clear hb; obtain ⟨_,_,_,_,_,_,_,_,_,_,_,_,_,_,_,_,_,_,_,_,_,_⟩:=kc11 BK135))
   go_ret
   exact ⟨re,bw HB⟩
end
section
attribute [local go_sem] Qcg Qce max_two min_two Qbm Qbl Qcf Qcd
attribute [local go_sem high] eqAElem
def op_toggle.f (a0_0 : Int) (a0_1 : Int) (a0_2 : Int) (a0_3 : Int) (a0_4 : Int) (a0_5 : Int) (a0_6 : ByteArray) (l0_7 : List (SElem)) (a0_8 : Int) (a0_9 : Int) (a0_10 : Int) : Option (Bool):=(op_Name.f a0_8 a0_9).bind fun t142 => (if t142 = true then (if a0_8 = a0_0 then (if a0_9 = a0_1 then (some false) else (if a0_10 < 0 then (some false) else (if a0_10 > 268435456 then (some false) else (if (a0_3 == 0 && (a0_4 == 0 && (a0_5 == 0))) = true then (if a0_6.toList = ([] : List UInt8) then (some ((l0_7.length : Int) == 0)) else (some false)) else (some false))))) else (if a0_10 < 0 then (some false) else (if a0_10 > 268435456 then (some false) else (if (a0_3 == 0 && (a0_4 == 0 && (a0_5 == 0))) = true then (if a0_6.toList = ([] : List UInt8) then (some ((l0_7.length : Int) == 0)) else (some false)) else (some false))))) else (some false))
theorem op_toggle.calls (a0_0 : Int) (a0_1 : Int) (a0_2 : Int) (a0_3 : Int) (a0_4 : Int) (a0_5 : Int) (a0_6 : ByteArray) (A0_7 : Option Addr) (c0_7 : Nat) (l0_7 : List (SElem)) (a0_8 : Int) (a0_9 : Int) (a0_10 : Int) (r : Bool) (w : World) (hr0_7 : Kd.C Qaw w A0_7 l0_7.length l0_7) (hc0_7 : l0_7.length <= c0_7) (h : op_toggle.f a0_0 a0_1 a0_2 a0_3 a0_4 a0_5 a0_6 l0_7 a0_8 a0_9 a0_10 = some r) :
  Calls Try.prog 65 #[.agg #[.int .i64 a0_0, .int .i64 a0_1, .int .i64 a0_2, .int .i64 a0_3, .int .i64 a0_4, .int .i64 a0_5, .string a0_6, .slice A0_7 l0_7.length c0_7, .int .i64 a0_8, .int .i64 a0_9, .int .i64 a0_10]] w fun e w' => e = .returned (.bool r) /\ Below w.heap.size w w':=by
 have hu32:=Try.underlying32
 have hu30:=Try.underlying30
 have HR0_7:=Zz.k hr0_7
 have HC0_7:=Zz.k hc0_7
 clear hr0_7 hc0_7
 have HB:=Zz.k (Below.refl w.heap.size w)
 unfold op_toggle.f at h; have H:=h
 clear h
 obtain ⟨t142,A2,H⟩:=bE H
 by_cases c3 : t142 = true; rotate_left
 ·replace c3:=Zf c3
  subst c3
  rw [if_neg nft] at H
  obtain rfl:=Zo H
  go_enter Try.func65,Try.ntmps65
  go_wp2_with (first | ((with_reducible refine Qaf (N:=1) rfl ?_); (try (refine Qah (by rfl) ?_; dsimp only)); refine bx 1 #[.int .i64 a0_0, .int .i64 a0_1, .int .i64 a0_2, .int .i64 a0_3, .int .i64 a0_4, .int .i64 a0_5, .string a0_6, .slice A0_7 l0_7.length c0_7, .int .i64 a0_8, .int .i64 a0_9, .int .i64 a0_10] 32 (h := ?_); intro gb141 hg w36 hbox hb; have BK141:=Zz.k (hbox); have GW141:=bz HB hg; have GE141:=bz HB hg; replace HB:=bs HB hb; clear hb hbox hg; obtain ⟨_,_,_,_,_,_,_,_,_,_,_,_,_,_,_,_,_,_,_,_,_,_⟩:=kc11 BK141) | ((with_reducible refine Qac (f:=63) rfl ?_); refine gl (some 7) Try.func63 #[.int .i64 a0_8, .int .i64 a0_9] (h := ?_); (with_reducible refine (op_Name.calls a0_8 a0_9 false _ A2.out).mono ?_); rintro e w' ⟨rfl,⟨nd,rfl⟩⟩; refine ⟨_,rfl, ?_⟩))
  go_ret
  exact ⟨re,bw HB⟩
 subst c3
 rw [if_pos rfl] at H
 by_cases c4 : a0_8 = a0_0; rotate_left
 ·rw [if_neg c4] at H
  obtain ⟨c4b0,c4b1⟩:=bF c4
  by_cases c22 : a0_10 < 0
  ·rw [if_pos c22] at H
   have c22b0:=Zd c22
   clear c22
   obtain rfl:=Zo H
   go_enter Try.func65,Try.ntmps65
   go_wp2_with (first | ((with_reducible refine Qaf (N:=1) rfl ?_); (try (refine Qah (by rfl) ?_; dsimp only)); refine bx 1 #[.int .i64 a0_0, .int .i64 a0_1, .int .i64 a0_2, .int .i64 a0_3, .int .i64 a0_4, .int .i64 a0_5, .string a0_6, .slice A0_7 l0_7.length c0_7, .int .i64 a0_8, .int .i64 a0_9, .int .i64 a0_10] 32 (h := ?_); intro gb141 hg w23 hbox hb; have BK141:=Zz.k (hbox); have GW141:=bz HB hg; have GE141:=bz HB hg; replace HB:=bs HB hb; clear hb hbox hg; obtain ⟨_,_,_,_,_,_,_,_,_,_,_,_,_,_,_,_,_,_,_,_,_,_⟩:=kc11 BK141) | ((with_reducible refine Qac (f:=63) rfl ?_); refine gl (some 7) Try.func63 #[.int .i64 a0_8, .int .i64 a0_9] (h := ?_); (with_reducible refine (op_Name.calls a0_8 a0_9 true _ A2.out).mono ?_); rintro e w' ⟨rfl,⟨nd,rfl⟩⟩; refine ⟨_,rfl, ?_⟩))
   go_ret
   exact ⟨re,bw HB⟩
  rw [if_neg c22] at H
  have c22b0:=Ze c22
  clear c22
  by_cases c25 : a0_10 > 268435456
  ·rw [if_pos c25] at H
   have c25b0:=Zd c25
   clear c25
   obtain rfl:=Zo H
   go_enter Try.func65,Try.ntmps65
   go_wp2_with (first | ((with_reducible refine Qaf (N:=1) rfl ?_); (try (refine Qah (by rfl) ?_; dsimp only)); refine bx 1 #[.int .i64 a0_0, .int .i64 a0_1, .int .i64 a0_2, .int .i64 a0_3, .int .i64 a0_4, .int .i64 a0_5, .string a0_6, .slice A0_7 l0_7.length c0_7, .int .i64 a0_8, .int .i64 a0_9, .int .i64 a0_10] 32 (h := ?_); intro gb141 hg w26 hbox hb; have BK141:=Zz.k (hbox); have GW141:=bz HB hg; have GE141:=bz HB hg; replace HB:=bs HB hb; clear hb hbox hg; obtain ⟨_,_,_,_,_,_,_,_,_,_,_,_,_,_,_,_,_,_,_,_,_,_⟩:=kc11 BK141) | ((with_reducible refine Qac (f:=63) rfl ?_); refine gl (some 7) Try.func63 #[.int .i64 a0_8, .int .i64 a0_9] (h := ?_); (with_reducible refine (op_Name.calls a0_8 a0_9 true _ A2.out).mono ?_); rintro e w' ⟨rfl,⟨nd,rfl⟩⟩; refine ⟨_,rfl, ?_⟩))
   go_ret
   exact ⟨re,bw HB⟩
  rw [if_neg c25] at H
  have c25b0:=Ze c25
  clear c25
  by_cases c28 : (a0_3 == 0 && (a0_4 == 0 && (a0_5 == 0))) = true; rotate_left
  ·rw [if_neg c28] at H
   have c28b0 : (a0_3 == 0 && (a0_4 == 0 && (a0_5 == 0))) = false:=by simpa using c28
   (try (have c28b1 : decide (a0_3 = 0 && (a0_4 == 0 && (a0_5 == 0))) = false:=by simpa using c28))
   (try (have c28b2 : (a0_3 == 0 && (a0_4 == 0 && (a0_5 == 0))) = false:=by simpa using c28))
   (try (have c28b3 : ¬ (a0_3 = 0 && (a0_4 == 0 && (a0_5 == 0))):=by simpa using c28))
   clear c28
   obtain rfl:=Zo H
   go_enter Try.func65,Try.ntmps65
   go_wp2_with (first | ((with_reducible refine Qaf (N:=1) rfl ?_); (try (refine Qah (by rfl) ?_; dsimp only)); refine bx 1 #[.int .i64 a0_0, .int .i64 a0_1, .int .i64 a0_2, .int .i64 a0_3, .int .i64 a0_4, .int .i64 a0_5, .string a0_6, .slice A0_7 l0_7.length c0_7, .int .i64 a0_8, .int .i64 a0_9, .int .i64 a0_10] 32 (h := ?_); intro gb141 hg w34 hbox hb; have BK141:=Zz.k (hbox); have GW141:=bz HB hg; have GE141:=bz HB hg; replace HB:=bs HB hb; clear hb hbox hg; obtain ⟨_,_,_,_,_,_,_,_,_,_,_,_,_,_,_,_,_,_,_,_,_,_⟩:=kc11 BK141) | ((with_reducible refine Qac (f:=63) rfl ?_); refine gl (some 7) Try.func63 #[.int .i64 a0_8, .int .i64 a0_9] (h := ?_); (with_reducible refine (op_Name.calls a0_8 a0_9 true _ A2.out).mono ?_); rintro e w' ⟨rfl,⟨nd,rfl⟩⟩; refine ⟨_,rfl, ?_⟩))
   go_ret
   exact ⟨re,bw HB⟩
  rw [if_pos c28] at H
  have c28b0 : (a0_3 == 0 && (a0_4 == 0 && (a0_5 == 0))) = true:=c28
  (try (have c28b1 : decide (a0_3 = 0 && (a0_4 == 0 && (a0_5 == 0))) = true:=by simpa using c28))
  (try (have c28b2 : (a0_3 == 0 && (a0_4 == 0 && (a0_5 == 0))) = true:=by simpa using c28))
  clear c28
  by_cases c29 : a0_6.toList = ([] : List UInt8)
  ·rw [if_pos c29] at H
   obtain ⟨c29b0,c29b1⟩:=bT c29
   clear c29
   obtain rfl:=Zo H
   go_enter Try.func65,Try.ntmps65
   go_wp2_with (first | ((with_reducible refine Qaf (N:=1) rfl ?_); (try (refine Qah (by rfl) ?_; dsimp only)); refine bx 1 #[.int .i64 a0_0, .int .i64 a0_1, .int .i64 a0_2, .int .i64 a0_3, .int .i64 a0_4, .int .i64 a0_5, .string a0_6, .slice A0_7 l0_7.length c0_7, .int .i64 a0_8, .int .i64 a0_9, .int .i64 a0_10] 32 (h := ?_); intro gb141 hg w30 hbox hb; have BK141:=Zz.k (hbox); have GW141:=bz HB hg; have GE141:=bz HB hg; replace HB:=bs HB hb; clear hb hbox hg; obtain ⟨_,_,_,_,_,_,_,_,_,_,_,_,_,_,_,_,_,_,_,_,_,_⟩:=kc11 BK141) | ((with_reducible refine Qac (f:=63) rfl ?_); refine gl (some 7) Try.func63 #[.int .i64 a0_8, .int .i64 a0_9] (h := ?_); (with_reducible refine (op_Name.calls a0_8 a0_9 true _ A2.out).mono ?_); rintro e w' ⟨rfl,⟨nd,rfl⟩⟩; refine ⟨_,rfl, ?_⟩))
   go_ret
   exact ⟨re,bw HB⟩
  rw [if_neg c29] at H
  obtain ⟨c29b0,c29b1⟩:=bF c29
  obtain rfl:=Zo H
  go_enter Try.func65,Try.ntmps65
  go_wp2_with (first | ((with_reducible refine Qaf (N:=1) rfl ?_); (try (refine Qah (by rfl) ?_; dsimp only)); refine bx 1 #[.int .i64 a0_0, .int .i64 a0_1, .int .i64 a0_2, .int .i64 a0_3, .int .i64 a0_4, .int .i64 a0_5, .string a0_6, .slice A0_7 l0_7.length c0_7, .int .i64 a0_8, .int .i64 a0_9, .int .i64 a0_10] 32 (h := ?_); intro gb141 hg w32 hbox hb; have BK141:=Zz.k (hbox); have GW141:=bz HB hg; have GE141:=bz HB hg; replace HB:=bs HB hb; clear hb hbox hg; obtain ⟨_,_,_,_,_,_,_,_,_,_,_,_,_,_,_,_,_,_,_,_,_,_⟩:=kc11 BK141) | ((with_reducible refine Qac (f:=63) rfl ?_); refine gl (some 7) Try.func63 #[.int .i64 a0_8, .int .i64 a0_9] (h := ?_); (with_reducible refine (op_Name.calls a0_8 a0_9 true _ A2.out).mono ?_); rintro e w' ⟨rfl,⟨nd,rfl⟩⟩; refine ⟨_,rfl, ?_⟩))
  go_ret
  exact ⟨re,bw HB⟩
 rw [if_pos c4] at H
 obtain ⟨c4b0,c4b1⟩:=bT c4
 clear c4
 by_cases c5 : a0_9 = a0_1
 ·rw [if_pos c5] at H
  obtain ⟨c5b0,c5b1⟩:=bT c5
  clear c5
  obtain rfl:=Zo H
  go_enter Try.func65,Try.ntmps65
  go_wp2_with (first | ((with_reducible refine Qaf (N:=1) rfl ?_); (try (refine Qah (by rfl) ?_; dsimp only)); refine bx 1 #[.int .i64 a0_0, .int .i64 a0_1, .int .i64 a0_2, .int .i64 a0_3, .int .i64 a0_4, .int .i64 a0_5, .string a0_6, .slice A0_7 l0_7.length c0_7, .int .i64 a0_8, .int .i64 a0_9, .int .i64 a0_10] 32 (h := ?_); intro gb141 hg w6 hbox hb; have BK141:=Zz.k (hbox); have GW141:=bz HB hg; have GE141:=bz HB hg; replace HB:=bs HB hb; clear hb hbox hg; obtain ⟨_,_,_,_,_,_,_,_,_,_,_,_,_,_,_,_,_,_,_,_,_,_⟩:=kc11 BK141) | ((with_reducible refine Qac (f:=63) rfl ?_); refine gl (some 7) Try.func63 #[.int .i64 a0_8, .int .i64 a0_9] (h := ?_); (with_reducible refine (op_Name.calls a0_8 a0_9 true _ A2.out).mono ?_); rintro e w' ⟨rfl,⟨nd,rfl⟩⟩; refine ⟨_,rfl, ?_⟩))
  go_ret
  exact ⟨re,bw HB⟩
 rw [if_neg c5] at H
 obtain ⟨c5b0,c5b1⟩:=bF c5
 by_cases c8 : a0_10 < 0
 ·rw [if_pos c8] at H
  have c8b0:=Zd c8
  clear c8
  obtain rfl:=Zo H
  go_enter Try.func65,Try.ntmps65
  go_wp2_with (first | ((with_reducible refine Qaf (N:=1) rfl ?_); (try (refine Qah (by rfl) ?_; dsimp only)); refine bx 1 #[.int .i64 a0_0, .int .i64 a0_1, .int .i64 a0_2, .int .i64 a0_3, .int .i64 a0_4, .int .i64 a0_5, .string a0_6, .slice A0_7 l0_7.length c0_7, .int .i64 a0_8, .int .i64 a0_9, .int .i64 a0_10] 32 (h := ?_); intro gb141 hg w9 hbox hb; have BK141:=Zz.k (hbox); have GW141:=bz HB hg; have GE141:=bz HB hg; replace HB:=bs HB hb; clear hb hbox hg; obtain ⟨_,_,_,_,_,_,_,_,_,_,_,_,_,_,_,_,_,_,_,_,_,_⟩:=kc11 BK141) | ((with_reducible refine Qac (f:=63) rfl ?_); refine gl (some 7) Try.func63 #[.int .i64 a0_8, .int .i64 a0_9] (h := ?_); (with_reducible refine (op_Name.calls a0_8 a0_9 true _ A2.out).mono ?_); rintro e w' ⟨rfl,⟨nd,rfl⟩⟩; refine ⟨_,rfl, ?_⟩))
  go_ret
  exact ⟨re,bw HB⟩
 rw [if_neg c8] at H
 have c8b0:=Ze c8
 clear c8
 by_cases c11 : a0_10 > 268435456
 ·rw [if_pos c11] at H
  have c11b0:=Zd c11
  clear c11
  obtain rfl:=Zo H
  go_enter Try.func65,Try.ntmps65
  go_wp2_with (first | ((with_reducible refine Qaf (N:=1) rfl ?_); (try (refine Qah (by rfl) ?_; dsimp only)); refine bx 1 #[.int .i64 a0_0, .int .i64 a0_1, .int .i64 a0_2, .int .i64 a0_3, .int .i64 a0_4, .int .i64 a0_5, .string a0_6, .slice A0_7 l0_7.length c0_7, .int .i64 a0_8, .int .i64 a0_9, .int .i64 a0_10] 32 (h := ?_); intro gb141 hg w12 hbox hb; have BK141:=Zz.k (hbox); have GW141:=bz HB hg; have GE141:=bz HB hg; replace HB:=bs HB hb; clear hb hbox hg; obtain ⟨_,_,_,_,_,_,_,_,_,_,_,_,_,_,_,_,_,_,_,_,_,_⟩:=kc11 BK141) | ((with_reducible refine Qac (f:=63) rfl ?_); refine gl (some 7) Try.func63 #[.int .i64 a0_8, .int .i64 a0_9] (h := ?_); (with_reducible refine (op_Name.calls a0_8 a0_9 true _ A2.out).mono ?_); rintro e w' ⟨rfl,⟨nd,rfl⟩⟩; refine ⟨_,rfl, ?_⟩))
  go_ret
  exact ⟨re,bw HB⟩
 rw [if_neg c11] at H
 have c11b0:=Ze c11
 clear c11
 by_cases c14 : (a0_3 == 0 && (a0_4 == 0 && (a0_5 == 0))) = true; rotate_left
 ·rw [if_neg c14] at H
  have c14b0 : (a0_3 == 0 && (a0_4 == 0 && (a0_5 == 0))) = false:=by simpa using c14
  (try (have c14b1 : decide (a0_3 = 0 && (a0_4 == 0 && (a0_5 == 0))) = false:=by simpa using c14))
  (try (have c14b2 : (a0_3 == 0 && (a0_4 == 0 && (a0_5 == 0))) = false:=by simpa using c14))
  (try (have c14b3 : ¬ (a0_3 = 0 && (a0_4 == 0 && (a0_5 == 0))):=by simpa using c14))
  clear c14
  obtain rfl:=Zo H
  go_enter Try.func65,Try.ntmps65
  go_wp2_with (first | ((with_reducible refine Qaf (N:=1) rfl ?_); (try (refine Qah (by rfl) ?_; dsimp only)); refine bx 1 #[.int .i64 a0_0, .int .i64 a0_1, .int .i64 a0_2, .int .i64 a0_3, .int .i64 a0_4, .int .i64 a0_5, .string a0_6, .slice A0_7 l0_7.length c0_7, .int .i64 a0_8, .int .i64 a0_9, .int .i64 a0_10] 32 (h := ?_); intro gb141 hg w20 hbox hb; have BK141:=Zz.k (hbox); have GW141:=bz HB hg; have GE141:=bz HB hg; replace HB:=bs HB hb; clear hb hbox hg; obtain ⟨_,_,_,_,_,_,_,_,_,_,_,_,_,_,_,_,_,_,_,_,_,_⟩:=kc11 BK141) | ((with_reducible refine Qac (f:=63) rfl ?_); refine gl (some 7) Try.func63 #[.int .i64 a0_8, .int .i64 a0_9] (h := ?_); (with_reducible refine (op_Name.calls a0_8 a0_9 true _ A2.out).mono ?_); rintro e w' ⟨rfl,⟨nd,rfl⟩⟩; refine ⟨_,rfl, ?_⟩))
  go_ret
  exact ⟨re,bw HB⟩
 rw [if_pos c14] at H
 have c14b0 : (a0_3 == 0 && (a0_4 == 0 && (a0_5 == 0))) = true:=c14
 (try (have c14b1 : decide (a0_3 = 0 && (a0_4 == 0 && (a0_5 == 0))) = true:=by simpa using c14))
 (try (have c14b2 : (a0_3 == 0 && (a0_4 == 0 && (a0_5 == 0))) = true:=by simpa using c14))
 clear c14
 by_cases c15 : a0_6.toList = ([] : List UInt8)
 ·rw [if_pos c15] at H
  obtain ⟨c15b0,c15b1⟩:=bT c15
  clear c15
  obtain rfl:=Zo H
  go_enter Try.func65,Try.ntmps65
  go_wp2_with (first | ((with_reducible refine Qaf (N:=1) rfl ?_); (try (refine Qah (by rfl) ?_; dsimp only)); refine bx 1 #[.int .i64 a0_0, .int .i64 a0_1, .int .i64 a0_2, .int .i64 a0_3, .int .i64 a0_4, .int .i64 a0_5, .string a0_6, .slice A0_7 l0_7.length c0_7, .int .i64 a0_8, .int .i64 a0_9, .int .i64 a0_10] 32 (h := ?_); intro gb141 hg w16 hbox hb; have BK141:=Zz.k (hbox); have GW141:=bz HB hg; have GE141:=bz HB hg; replace HB:=bs HB hb; clear hb hbox hg; obtain ⟨_,_,_,_,_,_,_,_,_,_,_,_,_,_,_,_,_,_,_,_,_,_⟩:=kc11 BK141) | ((with_reducible refine Qac (f:=63) rfl ?_); refine gl (some 7) Try.func63 #[.int .i64 a0_8, .int .i64 a0_9] (h := ?_); (with_reducible refine (op_Name.calls a0_8 a0_9 true _ A2.out).mono ?_); rintro e w' ⟨rfl,⟨nd,rfl⟩⟩; refine ⟨_,rfl, ?_⟩))
  go_ret
  exact ⟨re,bw HB⟩
 rw [if_neg c15] at H
 obtain ⟨c15b0,c15b1⟩:=bF c15
 obtain rfl:=Zo H
 go_enter Try.func65,Try.ntmps65
 go_wp2_with (first | ((with_reducible refine Qaf (N:=1) rfl ?_); (try (refine Qah (by rfl) ?_; dsimp only)); refine bx 1 #[.int .i64 a0_0, .int .i64 a0_1, .int .i64 a0_2, .int .i64 a0_3, .int .i64 a0_4, .int .i64 a0_5, .string a0_6, .slice A0_7 l0_7.length c0_7, .int .i64 a0_8, .int .i64 a0_9, .int .i64 a0_10] 32 (h := ?_); intro gb141 hg w18 hbox hb; have BK141:=Zz.k (hbox); have GW141:=bz HB hg; have GE141:=bz HB hg; replace HB:=bs HB hb; clear hb hbox hg; obtain ⟨_,_,_,_,_,_,_,_,_,_,_,_,_,_,_,_,_,_,_,_,_,_⟩:=kc11 BK141) | ((with_reducible refine Qac (f:=63) rfl ?_); refine gl (some 7) Try.func63 #[.int .i64 a0_8, .int .i64 a0_9] (h := ?_); (with_reducible refine (op_Name.calls a0_8 a0_9 true _ A2.out).mono ?_); rintro e w' ⟨rfl,⟨nd,rfl⟩⟩; refine ⟨_,rfl, ?_⟩))
 go_ret
 exact ⟨re,bw HB⟩
def op_May.f (k : Nat) (a0_0 : Int) (a0_1 : Int) (a0_2 : Int) (a0_3 : Int) (a0_4 : Int) (a0_5 : Int) (a0_6 : ByteArray) (l0_7 : List (SElem)) (a0_8 : Int) (a0_9 : Int) (a0_10 : Int) : Option (Bool):=(op_Name.f a0_0 a0_1).bind fun t144 => (if t144 = true then (if a0_2 = 1 then ((op_edit.f k a0_0 a0_1 a0_2 a0_3 a0_4 a0_5 a0_6 l0_7 a0_8 a0_9 a0_10).bind fun t145 => (some t145)) else (if a0_2 = 2 then ((op_toggle.f a0_0 a0_1 a0_2 a0_3 a0_4 a0_5 a0_6 l0_7 a0_8 a0_9 a0_10).bind fun t146 => (some t146)) else (some false))) else (some false))
theorem op_May.calls (k : Nat) (a0_0 : Int) (a0_1 : Int) (a0_2 : Int) (a0_3 : Int) (a0_4 : Int) (a0_5 : Int) (a0_6 : ByteArray) (A0_7 : Option Addr) (c0_7 : Nat) (l0_7 : List (SElem)) (a0_8 : Int) (a0_9 : Int) (a0_10 : Int) (r : Bool) (w : World) (hr0_7 : Kd.C Qaw w A0_7 l0_7.length l0_7) (hc0_7 : l0_7.length <= c0_7) (h : op_May.f k a0_0 a0_1 a0_2 a0_3 a0_4 a0_5 a0_6 l0_7 a0_8 a0_9 a0_10 = some r) :
  Calls Try.prog 38 #[.agg #[.int .i64 a0_0, .int .i64 a0_1, .int .i64 a0_2, .int .i64 a0_3, .int .i64 a0_4, .int .i64 a0_5, .string a0_6, .slice A0_7 l0_7.length c0_7, .int .i64 a0_8, .int .i64 a0_9, .int .i64 a0_10]] w fun e w' => e = .returned (.bool r) /\ Below w.heap.size w w':=by
 have hu32:=Try.underlying32
 have HR0_7:=Zz.k hr0_7
 have HC0_7:=Zz.k hc0_7
 clear hr0_7 hc0_7
 have HB:=Zz.k (Below.refl w.heap.size w)
 unfold op_May.f at h; have H:=h
 clear h
 obtain ⟨t144,A2,H⟩:=bE H
 by_cases c3 : t144 = true; rotate_left
 ·replace c3:=Zf c3
  subst c3
  rw [if_neg nft] at H
  obtain rfl:=Zo H
  go_enter Try.func38,Try.ntmps38
  go_wp2_with (first | ((with_reducible refine Qaf (N:=1) rfl ?_); refine bx 1 #[.int .i64 a0_0, .int .i64 a0_1, .int .i64 a0_2, .int .i64 a0_3, .int .i64 a0_4, .int .i64 a0_5, .string a0_6, .slice A0_7 l0_7.length c0_7, .int .i64 a0_8, .int .i64 a0_9, .int .i64 a0_10] 32 (h := ?_); intro gb143 hg w16 hbox hb; have BK143:=Zz.k (hbox); have GW143:=bz HB hg; have GE143:=bz HB hg; replace HB:=bs HB hb; clear hb hbox hg; obtain ⟨_,_,_,_,_,_,_,_,_,_,_,_,_,_,_,_,_,_,_,_,_,_⟩:=kc11 BK143) | ((with_reducible refine Qac (f:=63) rfl ?_); refine gl (some 8) Try.func63 #[.int .i64 a0_0, .int .i64 a0_1] (h := ?_); (with_reducible refine (op_Name.calls a0_0 a0_1 false _ A2.out).mono ?_); rintro e w' ⟨rfl,⟨nd,rfl⟩⟩; refine ⟨_,rfl, ?_⟩))
  go_ret
  exact ⟨re,bw HB⟩
 subst c3
 rw [if_pos rfl] at H
 by_cases c4 : a0_2 = 1
 ·rw [if_pos c4] at H
  obtain ⟨c4b0,c4b1⟩:=bT c4
  clear c4
  obtain ⟨t145,A5,H⟩:=bE H
  obtain rfl:=Zo H
  go_enter Try.func38,Try.ntmps38
  go_wp2_with (first | ((with_reducible refine Qaf (N:=1) rfl ?_); refine bx 1 #[.int .i64 a0_0, .int .i64 a0_1, .int .i64 a0_2, .int .i64 a0_3, .int .i64 a0_4, .int .i64 a0_5, .string a0_6, .slice A0_7 l0_7.length c0_7, .int .i64 a0_8, .int .i64 a0_9, .int .i64 a0_10] 32 (h := ?_); intro gb143 hg w6 hbox hb; have BK143:=Zz.k (hbox); have GW143:=bz HB hg; have GE143:=bz HB hg; replace HB:=bs HB hb; clear hb hbox hg; obtain ⟨_,_,_,_,_,_,_,_,_,_,_,_,_,_,_,_,_,_,_,_,_,_⟩:=kc11 BK143) | ((with_reducible refine Qac (f:=63) rfl ?_); refine gl (some 8) Try.func63 #[.int .i64 a0_0, .int .i64 a0_1] (h := ?_); (with_reducible refine (op_Name.calls a0_0 a0_1 true _ A2.out).mono ?_); rintro e w' ⟨rfl,⟨nd,rfl⟩⟩; refine ⟨_,rfl, ?_⟩) | ((with_reducible refine Qac (f:=64) rfl ?_); refine gl (some 15) Try.func64 #[.agg #[.int .i64 a0_0, .int .i64 a0_1, .int .i64 a0_2, .int .i64 a0_3, .int .i64 a0_4, .int .i64 a0_5, .string a0_6, .slice A0_7 l0_7.length c0_7, .int .i64 a0_8, .int .i64 a0_9, .int .i64 a0_10]] (h := ?_); (with_reducible refine (op_edit.calls k a0_0 a0_1 a0_2 a0_3 a0_4 a0_5 a0_6 _ _ l0_7 a0_8 a0_9 a0_10 t145 _ ?side1 ?side2 A5.out).mono ?_); (case side1 => repeat (first | exact (Kd.C_below HR0_7.out (bw HB)) | (with_reducible refine Kd.C_alloc ?_ _) | (with_reducible refine Kd.C_drewN ?_ _) | (with_reducible refine Kd.C_drew ?_))); (case side2 => exact HC0_7.out); rintro e w8 ⟨rfl,hb⟩; refine ⟨_,rfl, ?_⟩; replace BK143:=bl BK143 hb; replace HB:=bs HB hb; clear hb))
  go_ret
  exact ⟨re,bw HB⟩
 rw [if_neg c4] at H
 obtain ⟨c4b0,c4b1⟩:=bF c4
 by_cases c9 : a0_2 = 2; rotate_left
 ·rw [if_neg c9] at H
  obtain ⟨c9b0,c9b1⟩:=bF c9
  obtain rfl:=Zo H
  go_enter Try.func38,Try.ntmps38
  go_wp2_with (first | ((with_reducible refine Qaf (N:=1) rfl ?_); refine bx 1 #[.int .i64 a0_0, .int .i64 a0_1, .int .i64 a0_2, .int .i64 a0_3, .int .i64 a0_4, .int .i64 a0_5, .string a0_6, .slice A0_7 l0_7.length c0_7, .int .i64 a0_8, .int .i64 a0_9, .int .i64 a0_10] 32 (h := ?_); intro gb143 hg w14 hbox hb; have BK143:=Zz.k (hbox); have GW143:=bz HB hg; have GE143:=bz HB hg; replace HB:=bs HB hb; clear hb hbox hg; obtain ⟨_,_,_,_,_,_,_,_,_,_,_,_,_,_,_,_,_,_,_,_,_,_⟩:=kc11 BK143) | ((with_reducible refine Qac (f:=63) rfl ?_); refine gl (some 8) Try.func63 #[.int .i64 a0_0, .int .i64 a0_1] (h := ?_); (with_reducible refine (op_Name.calls a0_0 a0_1 true _ A2.out).mono ?_); rintro e w' ⟨rfl,⟨nd,rfl⟩⟩; refine ⟨_,rfl, ?_⟩))
  go_ret
  exact ⟨re,bw HB⟩
 rw [if_pos c9] at H
 obtain ⟨c9b0,c9b1⟩:=bT c9
 clear c9
 obtain ⟨t146,A10,H⟩:=bE H
 obtain rfl:=Zo H
 go_enter Try.func38,Try.ntmps38
 go_wp2_with (first | ((with_reducible refine Qaf (N:=1) rfl ?_); refine bx 1 #[.int .i64 a0_0, .int .i64 a0_1, .int .i64 a0_2, .int .i64 a0_3, .int .i64 a0_4, .int .i64 a0_5, .string a0_6, .slice A0_7 l0_7.length c0_7, .int .i64 a0_8, .int .i64 a0_9, .int .i64 a0_10] 32 (h := ?_); intro gb143 hg w11 hbox hb; have BK143:=Zz.k (hbox); have GW143:=bz HB hg; have GE143:=bz HB hg; replace HB:=bs HB hb; clear hb hbox hg; obtain ⟨_,_,_,_,_,_,_,_,_,_,_,_,_,_,_,_,_,_,_,_,_,_⟩:=kc11 BK143) | ((with_reducible refine Qac (f:=63) rfl ?_); refine gl (some 8) Try.func63 #[.int .i64 a0_0, .int .i64 a0_1] (h := ?_); (with_reducible refine (op_Name.calls a0_0 a0_1 true _ A2.out).mono ?_); rintro e w' ⟨rfl,⟨nd,rfl⟩⟩; refine ⟨_,rfl, ?_⟩) | (go_at_call 65; (with_reducible refine (op_toggle.calls a0_0 a0_1 a0_2 a0_3 a0_4 a0_5 a0_6 _ _ l0_7 a0_8 a0_9 a0_10 t146 _ ?side1 ?side2 A10.out).mono ?_); (case side1 => repeat (first | exact (Kd.C_below HR0_7.out (bw HB)) | (with_reducible refine Kd.C_alloc ?_ _) | (with_reducible refine Kd.C_drewN ?_ _) | (with_reducible refine Kd.C_drew ?_))); (case side2 => exact HC0_7.out); rintro e w13 ⟨rfl,hb⟩; replace BK143:=bl BK143 hb; replace HB:=bs HB hb; clear hb))
 go_ret
 exact ⟨re,bw HB⟩
def edit_Next.l0 : Nat -> Int -> Int -> List (SOp) -> Int -> Int -> Option (Int)
 | 0,_,_,_,_,_ => none
 | k + 1,x1,x5,x8,x9,x10 => if x10 < x9 then (if 0 <= x10 then (if x10 < (x8.length : Int) then (if ((Qar x8 x10).f0) = x1 then (edit_Next.l0 k x1 (wrap64 (x5 + 1)) x8 x9 (wrap64 (x10 + 1))) else (edit_Next.l0 k x1 x5 x8 x9 (wrap64 (x10 + 1)))) else (none)) else (none)) else (some x5)
def edit_Next.f (k : Nat) (l0 : List (SOp)) (a1 : Int) : Option (Int):=edit_Next.l0 k a1 1 l0 (l0.length : Int) 0
theorem edit_Next.calls (k : Nat) (A0 : Option Addr) (c0 : Nat) (l0 : List (SOp)) (a1 : Int) (r : Int) (w : World) (hr0 : Kd.C kOp w A0 l0.length l0) (hc0 : l0.length <= c0) (h : edit_Next.f k l0 a1 = some r) :
  Calls Try.prog 14 #[.slice A0 l0.length c0, .int .i64 a1] w fun e w' => e = .returned (.int .i64 r) /\ Below w.heap.size w w':=by
 have hu32:=Try.underlying32
 have HR0:=Zz.k hr0
 have HC0:=Zz.k hc0
 clear hr0 hc0
 have HB:=Zz.k (Below.refl w.heap.size w)
 unfold edit_Next.f at h; have H:=h
 clear h
 have H':=Zz.k H
 clear H
 go_enter Try.func14,Try.ntmps14
 go_wp2
 go_loopg [5,10] k (fun kq v5 v10 w' => ∃ (x5_1 : Int) (x10_1 : Int),v5 = .int .i64 x5_1 /\ v10 = .int .i64 x10_1 /\ Zz (edit_Next.l0 kq a1 x5_1 l0 (l0.length : Int) x10_1 = some r) /\ Zz (kq <= k) /\ Zz (Below w.heap.size w w'))
 case atStart => exact ⟨(1),(0),rf,rf,H',⟨Nat.le_refl _⟩,⟨bw HB⟩⟩
 case round =>
  clear H'
  obtain ⟨x5_1,x10_1,rfl,rfl,HA,HK1,HB⟩:=hrel
  cases gk with
  | zero => exact absurd HA.out (by simp [edit_Next.l0])
  | succ k1 =>
   have H:=HA.out
   clear HA
   simp only [edit_Next.l0] at H
   by_cases c3 : x10_1 < (l0.length : Int); rotate_left
   ·rw [if_neg c3] at H
    have c3b0:=Ze c3
    clear c3
    obtain rfl:=Zo H
    go_wp2
    go_ret
    exact ⟨re,bw HB⟩
   rw [if_pos c3] at H
   have c3b0:=Zd c3
   clear c3
   by_cases c4 : 0 <= x10_1; rotate_left
   ·rw [if_neg c4] at H
    exact absurd H (by simp)
   rw [if_pos c4] at H
   have c4b0:=Zd c4
   clear c4
   by_cases c5 : x10_1 < (l0.length : Int); rotate_left
   ·rw [if_neg c5] at H
    exact absurd H (by simp)
   rw [if_pos c5] at H
   have c5b0:=Zd c5
   clear c5
   by_cases c6 : ((Qar l0 x10_1).f0) = a1
   ·rw [if_pos c6] at H
    obtain ⟨c6b0,c6b1⟩:=bT c6
    clear c6
    have H':=Zz.k H
    clear H
    have p147 : 0 <= (x10_1 : Int):=od
    have q147 : x10_1 < (l0.length : Int):=od
    obtain ⟨ad147,A147_7,c147_7,e147,hx147_0,hx147_1,hx147_2,hx147_3,hx147_4,hx147_5,hx147_6,hx147_7,hx147_8,hx147_9,hx147_10,hl147_7,hi147_7⟩:=at_Op HR0.out x10_1 p147 q147
    cases e147
    replace hx147_0:=cl HB hx147_0
    replace hx147_1:=cl HB hx147_1
    replace hx147_2:=cl HB hx147_2
    replace hx147_3:=cl HB hx147_3
    replace hx147_4:=cl HB hx147_4
    replace hx147_5:=cl HB hx147_5
    replace hx147_6:=cl HB hx147_6
    replace hx147_7:=cl HB hx147_7
    replace hx147_8:=cl HB hx147_8
    replace hx147_9:=cl HB hx147_9
    replace hx147_10:=cl HB hx147_10
    have HR147_7:=Zz.k hi147_7
    have HC147_7:=Zz.k hl147_7
    clear hi147_7 hl147_7
    replace p147:=eq_true p147
    replace q147:=eq_true q147
    go_wp2_with (first | ((with_reducible refine Qaf (N:=7) rfl ?_); refine bx 7 #[.int .i64 0, .int .i64 0, .int .i64 0, .int .i64 0, .int .i64 0, .int .i64 0, .string (⟨#[]⟩ : ByteArray), .slice none 0 0, .int .i64 0, .int .i64 0, .int .i64 0] 32 (h := ?_); intro gb148 hg w7 hbox hb; have BK148:=Zz.k (hbox); have GW148:=bz HB hg; have GE148:=bz HB hg; replace HB:=bs HB hb; clear hb hbox hg; obtain ⟨_,_,_,_,_,_,_,_,_,_,_,_,_,_,_,_,_,_,_,_,_,_⟩:=kc11 BK148))
    go_roundg k1
    case measure => have:=HK1.out; omega
    case rel => exact ⟨(wrap64 (x5_1 + 1)),(wrap64 (x10_1 + 1)),rf,rf,H',⟨by have:=HK1.out; omega⟩,⟨bw HB⟩⟩
   rw [if_neg c6] at H
   obtain ⟨c6b0,c6b1⟩:=bF c6
   have H':=Zz.k H
   clear H
   have p147 : 0 <= (x10_1 : Int):=od
   have q147 : x10_1 < (l0.length : Int):=od
   obtain ⟨ad147,A147_7,c147_7,e147,hx147_0,hx147_1,hx147_2,hx147_3,hx147_4,hx147_5,hx147_6,hx147_7,hx147_8,hx147_9,hx147_10,hl147_7,hi147_7⟩:=at_Op HR0.out x10_1 p147 q147
   cases e147
   replace hx147_0:=cl HB hx147_0
   replace hx147_1:=cl HB hx147_1
   replace hx147_2:=cl HB hx147_2
   replace hx147_3:=cl HB hx147_3
   replace hx147_4:=cl HB hx147_4
   replace hx147_5:=cl HB hx147_5
   replace hx147_6:=cl HB hx147_6
   replace hx147_7:=cl HB hx147_7
   replace hx147_8:=cl HB hx147_8
   replace hx147_9:=cl HB hx147_9
   replace hx147_10:=cl HB hx147_10
   have HR147_7:=Zz.k hi147_7
   have HC147_7:=Zz.k hl147_7
   clear hi147_7 hl147_7
   replace p147:=eq_true p147
   replace q147:=eq_true q147
   go_wp2_with (first | ((with_reducible refine Qaf (N:=7) rfl ?_); refine bx 7 #[.int .i64 0, .int .i64 0, .int .i64 0, .int .i64 0, .int .i64 0, .int .i64 0, .string (⟨#[]⟩ : ByteArray), .slice none 0 0, .int .i64 0, .int .i64 0, .int .i64 0] 32 (h := ?_); intro gb148 hg w9 hbox hb; have BK148:=Zz.k (hbox); have GW148:=bz HB hg; have GE148:=bz HB hg; replace HB:=bs HB hb; clear hb hbox hg; obtain ⟨_,_,_,_,_,_,_,_,_,_,_,_,_,_,_,_,_,_,_,_,_,_⟩:=kc11 BK148))
   go_roundg k1
   case measure => have:=HK1.out; omega
   case rel => exact ⟨(x5_1),(wrap64 (x10_1 + 1)),rf,rf,H',⟨by have:=HK1.out; omega⟩,⟨bw HB⟩⟩
end
section
theorem enters_at {P : Program} {f : FuncId} {fn : Func} {c : Code} (hf : P.funcs[f]? = some fn) (hname : (fn.name == "runtime.NumGoroutine") = false) (hb : fn.body = some c) : ∀ (args : Array Value) (w : World), (callFunc f args).run P w = .ok (.enter f args) w := by
 intro args w
 have h1 : fn.name ≠ "runtime.NumGoroutine" := by simpa using hname
 simp [callFunc,hf,h1,hb,mark]
def opV (x : SOp) (A : Option Addr) (c : Nat) : Value:=.agg #[.int .i64 x.f0, .int .i64 x.f1, .int .i64 x.f2, .int .i64 x.f3.f0, .int .i64 x.f3.f1, .int .i64 x.f3.f2, .string x.f4, .slice A x.f5.length c, .int .i64 x.f6, .int .i64 x.f7, .int .i64 x.f8]
def elV (x : SElem) : Value:=.agg #[.int .i64 x.f0, .int .i64 x.f1, .int .i64 x.f2]
def Qav (p : Nat -> Bool) (n : Nat) : Nat -> Nat -> Int
 | 0,_ => -1
 | d + 1,k => if k < n then (if p k then (k : Int) else Qav p n d (k + 1)) else -1
theorem firstAt_end (p : Nat -> Bool) (n : Nat) : ∀ d k,n <= k -> Qav p n d k = -1
 | 0,_,_ => rfl
 | d + 1,k,h => by simp [Qav,Nat.not_lt.2 h]
def foundPost (p : Nat -> Bool) (n : Nat) (I J : Nat -> World -> Prop) (w : World) : Prop:=(∃ i,i < n /\ p i = true /\ (∀ j,j < i -> p j = false) /\ J i w) \/ ((∀ j,j < n -> p j = false) /\ I n w)
def stepPost (p : Nat -> Bool) (I J : Nat -> World -> Prop) (i : Nat) (w : World) : Prop:=(p i = true -> J i w) /\ (p i = false -> I (i + 1) w)
theorem IndexFuncOp (g : Nat) (lb : Array Value) (A : Option Addr) (c : Nat) (l : List SOp) (p : Nat -> Bool) (I J : Nat -> World -> Prop) (w : World) (eg : ∀ args w,(callFunc g args).run Try.prog w = .ok (.enter g args) w)
  (hm : l.length <= 9223372036854775807) (h0 : I 0 w) (hr : ∀ i W,I i W -> Kd.C kOp W A l.length l)
  (hs : ∀ (i : Nat) W (A7 : Option Addr) (c7 : Nat),i < l.length -> I i W -> (Qar l i).f5.length <= c7 -> Qaw.C W A7 (Qar l i).f5.length (Qar l i).f5 ->
   Calls Try.prog g (#[opV (Qar l i) A7 c7] ++ lb) W fun e w' => e = .returned (.bool (p i)) /\ stepPost p I J i w') :
  Calls Try.prog 37 #[.slice A l.length c, .func (.func g) #[] lb] w fun e w' => e = .returned (.int .i64 (Qav p l.length l.length 0)) /\ foundPost p l.length I J w':=by
 have HS:=Zz.k hs
 have HR:=Zz.k hr
 clear hs hr
 go_enter Try.func37,Try.ntmps37
 go_wp2
 go_loopg [5,8] l.length (fun gg _ s8 wr => ∃ kk : Nat,kk <= l.length /\ l.length - kk <= gg /\ s8 = .int .i64 kk /\ Zz (I kk wr) /\ Zz (∀ j,j < kk -> p j = false) /\ Zz (Qav p l.length gg kk = Qav p l.length l.length 0))
 case atStart => exact ⟨0,Nat.zero_le _,by omega,rfl,⟨h0⟩,⟨fun j hj => absurd hj (Nat.not_lt_zero _)⟩,⟨rfl⟩⟩
 case round =>
  obtain ⟨kk,hkk,hg,rfl,HI,HN,HF⟩:=hrel
  by_cases hlt : kk < l.length
  ·obtain ⟨g',rfl⟩ : ∃ g',gk = g' + 1:=⟨gk - 1,by omega⟩
   have hltz : (kk : Int) < (l.length : Int):=by omega
   have h0z : (0 : Int) <= (kk : Int):=by omega
   obtain ⟨ad,A7,c7,rfl,x0,x1,x2,x3,x4,x5,x6,x7,x8,x9,x10,l7,g7⟩:=at_Op (HR.out kk wr HI.out) (kk : Int) h0z hltz
   have hcall:=HS.out kk wr A7 c7 hlt HI.out l7 g7
   clear l7 g7
   simp only [Int.toNat_natCast] at x0 x1 x2 x3 x4 x5 x6 x7 x8 x9 x10
   simp only [opV] at hcall
   generalize Qar l (kk : Int) = o at x0 x1 x2 x3 x4 x5 x6 x7 x8 x9 x10 hcall
   have HF':=HF.out
   simp only [Qav,hlt,if_true] at HF'
   cases hq : p kk with
   | true =>
    rw [hq] at hcall
    have HQ:=Zz.k hq
    simp only [hq,if_true] at HF'
    have HF2:=Zz.k HF'
    clear hq HF' HF
    go_wp2_with fail
    refine hcall.mono ?_
    rintro e w' ⟨rfl,hb'⟩
    go_wp2
    go_ret
    exact ⟨by rw [<- HF2.out]; rfl, .inl ⟨kk,hlt,HQ.out,HN.out,hb'.1 HQ.out⟩⟩
   | false =>
    rw [hq] at hcall
    have HQ:=Zz.k hq
    simp only [hq,Bool.false_eq_true,if_false] at HF'
    have HF2:=Zz.k HF'
    clear hq HF' HF
    go_wp2_with fail
    refine hcall.mono ?_
    rintro e w' ⟨rfl,hb'⟩
    go_wp2
    go_roundg g'
    case measure => omega
    case rel =>
     refine ⟨kk + 1,by omega,by omega,by go_num,⟨hb'.2 HQ.out⟩,⟨fun j hj => ?_⟩,HF2⟩
     by_cases e : j = kk
     ·subst e; exact HQ.out
     ·exact HN.out j (by omega)
  ·have hltz : ¬ (kk : Int) < (l.length : Int):=by omega
   have HF2:=HF.out
   rw [firstAt_end p _ gk kk (by omega)] at HF2
   have HF3:=Zz.k HF2
   clear HF2 HF
   obtain rfl : kk = l.length:=by omega
   go_wp2
   go_ret
   exact ⟨by rw [<- HF3.out]; rfl, .inr ⟨HN.out,HI.out⟩⟩
theorem firstAt_pos (p : Nat -> Bool) (n : Nat) : ∀ d k,n <= k + d -> decide (0 <= Qav p n d k) = (List.range' k (n - k)).any p
 | 0,k,h => by simp [Qav,show n - k = 0 by omega]
 | d + 1,k,h => by
  by_cases hk : k < n
  ·have e : n - k = (n - (k + 1)) + 1:=by omega
   rw [e,List.range'_succ,List.any_cons,<- firstAt_pos p n d (k + 1) (by omega)]
   simp only [Qav,hk,if_true]
   cases p k <;> simp
  ·simp [Qav,hk,show n - k = 0 by omega]
def anyAt (p : Nat -> Bool) (n : Nat) : Bool:=(List.range' 0 n).any p
theorem ContainsFuncOp (g : Nat) (lb : Array Value) (A : Option Addr) (c : Nat) (l : List SOp) (p : Nat -> Bool) (I J : Nat -> World -> Prop) (w : World) (eg : ∀ args w,(callFunc g args).run Try.prog w = .ok (.enter g args) w)
  (hm : l.length <= 9223372036854775807) (h0 : I 0 w) (hr : ∀ i W,I i W -> Kd.C kOp W A l.length l)
  (hs : ∀ (i : Nat) W (A7 : Option Addr) (c7 : Nat),i < l.length -> I i W -> (Qar l i).f5.length <= c7 -> Qaw.C W A7 (Qar l i).f5.length (Qar l i).f5 ->
   Calls Try.prog g (#[opV (Qar l i) A7 c7] ++ lb) W fun e w' => e = .returned (.bool (p i)) /\ stepPost p I J i w') :
  Calls Try.prog 21 #[.slice A l.length c, .func (.func g) #[] lb] w fun e w' => e = .returned (.bool (anyAt p l.length)) /\ foundPost p l.length I J w':=by
 have cI:=IndexFuncOp g lb A c l p I J w eg hm h0 hr hs
 have hI:=firstAt_pos p l.length l.length 0 (by omega)
 generalize Qav p l.length l.length 0 = i at cI hI
 have hI2 : anyAt p l.length = decide (0 <= i):=hI.symm
 rw [hI2]
 clear hI hI2 hs hr h0
 go_enter Try.func21,Try.ntmps21
 go_wp2_with fail
 refine cI.mono ?_
 rintro e w' ⟨rfl,hb⟩
 go_wp2
 go_ret
 exact ⟨rfl,hb⟩
theorem IndexFuncElem (g : Nat) (lb : Array Value) (A : Option Addr) (c : Nat) (l : List SElem) (p : Nat -> Bool) (I J : Nat -> World -> Prop) (w : World) (eg : ∀ args w,(callFunc g args).run Try.prog w = .ok (.enter g args) w)
  (hm : l.length <= 9223372036854775807) (h0 : I 0 w) (hr : ∀ i W,I i W -> Kd.C Qaw W A l.length l)
  (hs : ∀ (i : Nat) W,i < l.length -> I i W ->
   Calls Try.prog g (#[elV (Qab l i)] ++ lb) W fun e w' => e = .returned (.bool (p i)) /\ stepPost p I J i w') :
  Calls Try.prog 47 #[.slice A l.length c, .func (.func g) #[] lb] w fun e w' => e = .returned (.int .i64 (Qav p l.length l.length 0)) /\ foundPost p l.length I J w':=by
 have HS:=Zz.k hs
 have HR:=Zz.k hr
 clear hs hr
 go_enter Try.func47,Try.ntmps47
 go_wp2
 go_loopg [5,8] l.length (fun gg _ s8 wr => ∃ kk : Nat,kk <= l.length /\ l.length - kk <= gg /\ s8 = .int .i64 kk /\ Zz (I kk wr) /\ Zz (∀ j,j < kk -> p j = false) /\ Zz (Qav p l.length gg kk = Qav p l.length l.length 0))
 case atStart => exact ⟨0,Nat.zero_le _,by omega,rfl,⟨h0⟩,⟨fun j hj => absurd hj (Nat.not_lt_zero _)⟩,⟨rfl⟩⟩
 case round =>
  obtain ⟨kk,hkk,hg,rfl,HI,HN,HF⟩:=hrel
  by_cases hlt : kk < l.length
  ·obtain ⟨g',rfl⟩ : ∃ g',gk = g' + 1:=⟨gk - 1,by omega⟩
   have hltz : (kk : Int) < (l.length : Int):=by omega
   have h0z : (0 : Int) <= (kk : Int):=by omega
   obtain ⟨ad,rfl,x0,x1,x2⟩:=Qck (HR.out kk wr HI.out) (kk : Int) h0z hltz
   have hcall:=HS.out kk wr hlt HI.out
   simp only [Int.toNat_natCast] at x0 x1 x2
   simp only [elV] at hcall
   generalize Qab l (kk : Int) = o at x0 x1 x2 hcall
   have HF':=HF.out
   simp only [Qav,hlt,if_true] at HF'
   cases hq : p kk with
   | true =>
    rw [hq] at hcall
    have HQ:=Zz.k hq
    simp only [hq,if_true] at HF'
    have HF2:=Zz.k HF'
    clear hq HF' HF
    go_wp2_with fail
    refine hcall.mono ?_
    rintro e w' ⟨rfl,hb'⟩
    go_wp2
    go_ret
    exact ⟨by rw [<- HF2.out]; rfl, .inl ⟨kk,hlt,HQ.out,HN.out,hb'.1 HQ.out⟩⟩
   | false =>
    rw [hq] at hcall
    have HQ:=Zz.k hq
    simp only [hq,Bool.false_eq_true,if_false] at HF'
    have HF2:=Zz.k HF'
    clear hq HF' HF
    go_wp2_with fail
    refine hcall.mono ?_
    rintro e w' ⟨rfl,hb'⟩
    go_wp2
    go_roundg g'
    case measure => omega
    case rel =>
     refine ⟨kk + 1,by omega,by omega,by go_num,⟨hb'.2 HQ.out⟩,⟨fun j hj => ?_⟩,HF2⟩
     by_cases e : j = kk
     ·subst e; exact HQ.out
     ·exact HN.out j (by omega)
  ·have hltz : ¬ (kk : Int) < (l.length : Int):=by omega
   have HF2:=HF.out
   rw [firstAt_end p _ gk kk (by omega)] at HF2
   have HF3:=Zz.k HF2
   clear HF2 HF
   obtain rfl : kk = l.length:=by omega
   go_wp2
   go_ret
   exact ⟨by rw [<- HF3.out]; rfl, .inr ⟨HN.out,HI.out⟩⟩
theorem ContainsFuncElem (g : Nat) (lb : Array Value) (A : Option Addr) (c : Nat) (l : List SElem) (p : Nat -> Bool) (I J : Nat -> World -> Prop) (w : World) (eg : ∀ args w,(callFunc g args).run Try.prog w = .ok (.enter g args) w)
  (hm : l.length <= 9223372036854775807) (h0 : I 0 w) (hr : ∀ i W,I i W -> Kd.C Qaw W A l.length l)
  (hs : ∀ (i : Nat) W,i < l.length -> I i W ->
   Calls Try.prog g (#[elV (Qab l i)] ++ lb) W fun e w' => e = .returned (.bool (p i)) /\ stepPost p I J i w') :
  Calls Try.prog 40 #[.slice A l.length c, .func (.func g) #[] lb] w fun e w' => e = .returned (.bool (anyAt p l.length)) /\ foundPost p l.length I J w':=by
 have cI:=IndexFuncElem g lb A c l p I J w eg hm h0 hr hs
 have hI:=firstAt_pos p l.length l.length 0 (by omega)
 generalize Qav p l.length l.length 0 = i at cI hI
 have hI2 : anyAt p l.length = decide (0 <= i):=hI.symm
 rw [hI2]
 clear hI hI2 hs hr h0
 go_enter Try.func40,Try.ntmps40
 go_wp2_with fail
 refine cI.mono ?_
 rintro e w' ⟨rfl,hb⟩
 go_wp2
 go_ret
 exact ⟨rfl,hb⟩
instance decElem : DecidableEq SElem:=fun a b => if h : a.f0 = b.f0 /\ a.f1 = b.f1 /\ a.f2 = b.f2 then isTrue (by obtain ⟨h0,h1,h2⟩:=h; cases a; cases b; simp_all) else isFalse (by rintro rfl; exact h ⟨rfl,rfl,rfl⟩)
theorem firstAt_none (p : Nat -> Bool) (n : Nat) : ∀ d k,n <= k + d -> (∀ j,k <= j -> j < n -> p j = false) -> Qav p n d k = -1
 | 0,k,_,_ => rfl
 | d + 1,k,h,hp => by
  unfold Qav
  by_cases hk : k < n
  ·rw [if_pos hk,hp k (Nat.le_refl _) hk]
   exact firstAt_none p n d (k + 1) (by omega) (fun j h1 h2 => hp j (by omega) h2)
  ·rw [if_neg hk]
theorem firstAt_some (p : Nat -> Bool) (n : Nat) : ∀ d k i,n <= k + d -> k <= i -> i < n -> p i = true -> (∀ j,k <= j -> j < i -> p j = false) -> Qav p n d k = (i : Int)
 | 0,k,i,h,hk,hi,_,_ => by omega
 | d + 1,k,i,h,hk,hi,hp,hb => by
  unfold Qav
  rw [if_pos (show k < n by omega)]
  by_cases e : k = i
  ·subst e; rw [hp]; rfl
  ·rw [hb k (Nat.le_refl _) (by omega)]
   exact firstAt_some p n d (k + 1) i (by omega) (by omega) hi hp (fun j h1 h2 => hb j (by omega) h2)
theorem firstAt_cases (p : Nat -> Bool) (n : Nat) : (∃ i,i < n /\ p i = true /\ (∀ j,j < i -> p j = false) /\ Qav p n n 0 = (i : Int)) \/ ((∀ j,j < n -> p j = false) /\ Qav p n n 0 = -1):=by
 by_cases h : ∃ i,i < n /\ p i = true
 ·have key : ∀ m,(∃ i,i < m /\ i < n /\ p i = true) -> ∃ i,i < n /\ p i = true /\ (∀ j,j < i -> p j = false):=by
   intro m
   induction m with
   | zero => rintro ⟨i,h,_⟩; omega
   | succ m ih =>
    rintro ⟨i,h1,h2,h3⟩
    by_cases hh : ∃ i,i < m /\ i < n /\ p i = true
    ·exact ih hh
    ·refine ⟨i,h2,h3,fun j hj => ?_⟩
     cases hp : p j
     ·rfl
     ·exact absurd ⟨j,by omega,by omega,hp⟩ hh
  obtain ⟨i,h1,h2⟩:=h
  obtain ⟨i,h1,h2,h3⟩:=key (i + 1) ⟨i,by omega,h1,h2⟩
  exact .inl ⟨i,h1,h2,h3,firstAt_some p n n 0 i (by omega) (by omega) h1 h2 (fun j _ h => h3 j h)⟩
 ·have h' : ∀ j,j < n -> p j = false:=fun j hj => by
   cases hp : p j
   ·rfl
   ·exact absurd ⟨j,hj,hp⟩ h
  exact .inr ⟨h',firstAt_none p n n 0 (by omega) (fun j _ h2 => h' j h2)⟩
end
section
open Go.Maps (Keyed IsMap has)
theorem i64wf {a : Int} (h : -9223372036854775808 <= a /\ a <= 9223372036854775807) : (Lit.int .i64 a).wf = true:=WalkArith.wf_i64 h
section
variable {κ : Type} [DecidableEq κ]
def MapK (enc : κ -> Value) (K E : TypeId) (w : World) (b n : Nat) (S : κ -> Option Int) : Prop :=
 ∃ D : DataW Unit,w.ownsMap Try.prog K (plainElem Try.prog E) b n D /\ IsMap D /\ ∀ x kl,keyOf Try.prog K (enc x) = some kl -> has D kl = (S x).isSome /\ D.atKey kl (.lit (.int .i64 0)) = .lit (.int .i64 ((S x).getD 0))
def MapB (enc : κ -> Value) (K E : TypeId) (w : World) (b n : Nat) (S : κ -> Bool) : Prop :=
 ∃ D : DataW Unit,w.ownsMap Try.prog K (plainElem Try.prog E) b n D /\ IsMap D /\ ∀ x kl,keyOf Try.prog K (enc x) = some kl -> D.atKey kl (.lit (.bool false)) = .lit (.bool (S x))
def upd (S : κ -> Option Int) (x : κ) (c : Int) : κ -> Option Int:=fun y => if y = x then some c else S y
def updB (S : κ -> Bool) (x : κ) : κ -> Bool:=fun y => if y = x then true else S y
variable {enc : κ -> Value} {T K E : TypeId} {w w' : World} {b n : Nat} {S : κ -> Option Int} {SB : κ -> Bool}
omit [DecidableEq κ] in
theorem MapK.made (enc : κ -> Value) (K E : TypeId) (w : World) : MapK enc K E (w.alloc (.map #[] 0)) w.heap.size 0 (fun _ => none) :=
 ⟨_,World.ownsMap_made _ _ _ _,Go.Maps.isMap_empty,fun x kl _ => ⟨rfl,rfl⟩⟩
omit [DecidableEq κ] in
theorem MapB.made (enc : κ -> Value) (K E : TypeId) (w : World) : MapB enc K E (w.alloc (.map #[] 0)) w.heap.size 0 (fun _ => false) :=
 ⟨_,World.ownsMap_made _ _ _ _,Go.Maps.isMap_empty,fun x kl _ => rfl⟩
omit [DecidableEq κ] in
theorem MapK.kept {row : Option Nat} (h : MapK enc K E w b n S) (hg : w.grownBy w' row) (hne : some b ≠ row) : MapK enc K E w' b n S:=by
 obtain ⟨D,ho,hi,hD⟩:=h
 exact ⟨D,ho.kept hg hne,hi,hD⟩
omit [DecidableEq κ] in
theorem MapB.kept {row : Option Nat} (h : MapB enc K E w b n SB) (hg : w.grownBy w' row) (hne : some b ≠ row) : MapB enc K E w' b n SB:=by
 obtain ⟨D,ho,hi,hD⟩:=h
 exact ⟨D,ho.kept hg hne,hi,hD⟩
omit [DecidableEq κ] in
theorem MapK.below {B : Nat} (h : MapK enc K E w b n S) (hb : Below B w w') (hB : b < B) : MapK enc K E w' b n S:=by
 obtain ⟨D,⟨es,clock,h1,h2⟩,hi,hD⟩:=h
 exact ⟨D,⟨es,clock,(hb.block b hB).trans h1,h2⟩,hi,hD⟩
omit [DecidableEq κ] in
theorem MapB.below {B : Nat} (h : MapB enc K E w b n SB) (hb : Below B w w') (hB : b < B) : MapB enc K E w' b n SB:=by
 obtain ⟨D,⟨es,clock,h1,h2⟩,hi,hD⟩:=h
 exact ⟨D,⟨es,clock,(hb.block b hB).trans h1,h2⟩,hi,hD⟩
omit [DecidableEq κ] in
theorem MapK.lt (h : MapK enc K E w b n S) : b < w.heap.size:=by obtain ⟨D,ho,_⟩:=h; exact ho.lt
omit [DecidableEq κ] in
theorem MapB.lt (h : MapB enc K E w b n SB) : b < w.heap.size:=by obtain ⟨D,ho,_⟩:=h; exact ho.lt
omit [DecidableEq κ] in
theorem MapK.setCell (h : MapK enc K E w b n S) {a : Addr} (ha : b ≠ a.block) (u : Value) : MapK enc K E (w.setCell a u) b n S:=by
 obtain ⟨D,ho,hi,hD⟩:=h
 exact ⟨D,ho.setCell ha u,hi,hD⟩
omit [DecidableEq κ] in
theorem MapK.more {m : Nat} (h : MapK enc K E w b n S) (hn : n <= m) : MapK enc K E w b m S:=by
 obtain ⟨D,ho,hi,hD⟩:=h
 exact ⟨D,ho.mono hn,hi,hD⟩
theorem lit_int_inj {a c : Int} (h : (DataW.lit (.int .i64 a) : DataW Unit) = .lit (.int .i64 c)) : a = c:=by
 injection h with h; injection h
theorem lit_bool_inj {a c : Bool} (h : (DataW.lit (.bool a) : DataW Unit) = .lit (.bool c)) : a = c:=by
 injection h with h; injection h
omit [DecidableEq κ] in
theorem MapK.look (h : MapK enc K E w b n S) (law : Keyed Try.prog K) (ht : Try.prog.underlying T = some (.map K E)) (he : Try.prog.underlying E = some (.int .i64)) (hz : ∀ w,(zeroValue E).run Try.prog w = .ok (.int .i64 0) w)
  (x : κ) {kl : Lit} (hk : keyOf Try.prog K (enc x) = some kl) : (Instr.lookup T (.map (some b)) (enc x) false).run Try.prog w = .ok (.int .i64 ((S x).getD 0)) w:=by
 obtain ⟨D,ho,hi,hD⟩:=h
 obtain ⟨c,hrun,hat,_⟩:=ho.lookup_int law ht he (hz w) hk
 rw [(hD x kl hk).2] at hat
 rw [hrun,lit_int_inj hat]
omit [DecidableEq κ] in
theorem MapK.lookOk (h : MapK enc K E w b n S) (law : Keyed Try.prog K) (ht : Try.prog.underlying T = some (.map K E)) (he : Try.prog.underlying E = some (.int .i64)) (hz : ∀ w,(zeroValue E).run Try.prog w = .ok (.int .i64 0) w)
  (x : κ) {kl : Lit} (hk : keyOf Try.prog K (enc x) = some kl) : (Instr.lookup T (.map (some b)) (enc x) true).run Try.prog w = .ok (.tuple #[.int .i64 ((S x).getD 0), .bool (S x).isSome]) w:=by
 obtain ⟨D,ho,hi,hD⟩:=h
 obtain ⟨v,ps,hrun,hv⟩:=ho.look_ok law ht (hz w) (plainElem_int he (by decide)) hk
 obtain ⟨c,rfl,hc,_⟩:=plainElem_int_inv he hv
 have hat:=congrArg Prod.fst hc
 simp only at hat
 rw [(hD x kl hk).2] at hat
 rw [hrun,(hD x kl hk).1,lit_int_inj hat]
omit [DecidableEq κ] in
theorem MapB.look (h : MapB enc K E w b n SB) (law : Keyed Try.prog K) (ht : Try.prog.underlying T = some (.map K E)) (he : Try.prog.underlying E = some .bool) (hz : ∀ w,(zeroValue E).run Try.prog w = .ok (.bool false) w)
  (x : κ) {kl : Lit} (hk : keyOf Try.prog K (enc x) = some kl) : (Instr.lookup T (.map (some b)) (enc x) false).run Try.prog w = .ok (.bool (SB x)) w:=by
 obtain ⟨D,ho,hi,hD⟩:=h
 obtain ⟨v,ps,hrun,hv⟩:=ho.lookup law ht (hz w) (plainElem_bool he false) hk
 rw [hD x kl hk] at hv
 rw [hrun]
 unfold plainElem at hv
 rw [he] at hv
 split at hv
 ·simp only [Option.some.injEq,Prod.mk.injEq] at hv; rw [lit_bool_inj hv.1]
 ·rename_i heq; injection heq with heq; cases heq
 ·rename_i heq; injection heq with heq; cases heq
 ·cases hv
theorem MapK.store (h : MapK enc K E w b n S) (law : Keyed Try.prog K) (ht : Try.prog.underlying T = some (.map K E)) (he : Try.prog.underlying E = some (.int .i64)) (hn : n < maxLen) (hinj : ∀ x y,enc x = enc y -> x = y)
  (x : κ) (c : Int) (hc : (Lit.int .i64 c).wf = true) {kl : Lit} (hk : keyOf Try.prog K (enc x) = some kl) :
  ∃ w',(Instr.mapUpdate T (.map (some b)) (enc x) (.int .i64 c)).run Try.prog w = .ok () w' /\ MapK enc K E w' b (n + 1) (upd S x c) /\ w.grownBy w' (some b):=by
 obtain ⟨D,ho,hi,hD⟩:=h
 obtain ⟨w',hrun,ho',hg⟩:=ho.update law ht hn hk (plainElem_int he hc)
 refine ⟨w',hrun,⟨_,ho',hi.put _ _,fun y kl' hk' => ?_⟩,hg⟩
 by_cases hy : y = x
 ·subst hy
  obtain rfl : kl = kl':=by rw [hk] at hk'; exact Zo hk'
  simp only [upd,if_true]
  exact ⟨Go.Maps.has_put_same hi (law.key hk) _,Go.Maps.atKey_put_same hi (law.key hk) _ _⟩
 ·have hne : kl' ≠ kl:=fun e => hy (hinj _ _ (law.inj hk' (by rw [e]; exact hk)))
  simp only [upd,hy,if_false]
  rw [Go.Maps.has_put_other hne,Go.Maps.atKey_put_other hne]
  exact hD y kl' hk'
theorem MapB.store (h : MapB enc K E w b n SB) (law : Keyed Try.prog K) (ht : Try.prog.underlying T = some (.map K E)) (he : Try.prog.underlying E = some .bool) (hn : n < maxLen) (hinj : ∀ x y,enc x = enc y -> x = y)
  (x : κ) {kl : Lit} (hk : keyOf Try.prog K (enc x) = some kl) :
  ∃ w',(Instr.mapUpdate T (.map (some b)) (enc x) (.bool true)).run Try.prog w = .ok () w' /\ MapB enc K E w' b (n + 1) (updB SB x) /\ w.grownBy w' (some b):=by
 obtain ⟨D,ho,hi,hD⟩:=h
 obtain ⟨w',hrun,ho',hg⟩:=ho.update law ht hn hk (plainElem_bool he true)
 refine ⟨w',hrun,⟨_,ho',hi.put _ _,fun y kl' hk' => ?_⟩,hg⟩
 by_cases hy : y = x
 ·subst hy
  obtain rfl : kl = kl':=by rw [hk] at hk'; exact Zo hk'
  simp only [updB,if_true]
  exact Go.Maps.atKey_put_same hi (law.key hk) _ _
 ·have hne : kl' ≠ kl:=fun e => hy (hinj _ _ (law.inj hk' (by rw [e]; exact hk)))
  simp only [updB,hy,if_false]
  rw [Go.Maps.atKey_put_other hne]
  exact hD y kl' hk'
end
theorem laidB : laidOutB Try.prog = true:=by kernel_rfl
def inI (a : Int) : Prop:=-9223372036854775808 <= a /\ a <= 9223372036854775807
def encI (a : Int) : Value:=.int .i64 a
def encE (x : Int × Int × Int) : Value:=.agg #[.int .i64 x.1, .int .i64 x.2.1, .int .i64 x.2.2]
theorem encI_inj (x y : Int) (h : encI x = encI y) : x = y:=by injection h
theorem encE_inj (x y : Int × Int × Int) (h : encE x = encE y) : x = y:=by
 simp [encE] at h; obtain ⟨a,b,c⟩:=x; obtain ⟨a',b',c'⟩:=y; simp_all
theorem lawI : Keyed Try.prog 3:=Go.Maps.int_keyed Try.underlying3
theorem keyI {a : Int} (h : inI a) : keyOf Try.prog 3 (encI a) = some (.int .i64 a):=Go.Maps.keyOf_int_mk Try.underlying3 (i64wf h)
theorem cellsI : Try.prog.cellsOf 3 = 1:=by kernel_rfl
theorem rowE : (30 : TypeId) < Try.prog.types.size:=of_decide_eq_true (by kernel_rfl)
theorem wideE : (match Try.prog.underlying 30 with | some (.array _ _) | some (.struct _) => true | _ => false) = true:=by rw [Try.underlying30]
theorem lawE : Keyed Try.prog 30:=Keyed.of_law (deep_law_laid laidB (m:=3) (by omega) rowE (by kernel_rfl) wideE)
theorem ktE : Try.prog.keyType 30 = true:=by kernel_rfl
theorem cellsE : Try.prog.cellsOf 30 = 3:=by kernel_rfl
theorem keyE {x : Int × Int × Int} (h0 : inI x.1) (h1 : inI x.2.1) (h2 : inI x.2.2) : ∃ kl,keyOf Try.prog 30 (encE x) = some kl:=by
 have e : (Try.prog.keyType 30 && (encE x).formed Try.prog 30) = true:=by
  rw [Bool.and_eq_true]; exact ⟨ktE,by simp [Value.formed,encE,Try.underlying30,cellsE]⟩
 have hs : ∃ n,Try.prog.types.size + 1 = n + 2:=⟨Try.prog.types.size - 1,by have h : (2 : Nat) < Try.prog.types.size:=of_decide_eq_true (by kernel_rfl); omega⟩
 obtain ⟨n,hn⟩:=hs
 unfold keyOf
 rw [Try.underlying30]
 simp only [e,if_true,hn]
 simp [Program.keyLits,encE,Value.cells,Try.underlying30,Try.underlying3,cellsE,cellsI,i64wf h0,i64wf h1,i64wf h2]
def encN (x : Int × Int) : Value:=.agg #[.int .i64 x.1, .int .i64 x.2]
theorem encN_inj (x y : Int × Int) (h : encN x = encN y) : x = y:=by
 simp [encN] at h; obtain ⟨a,b⟩:=x; obtain ⟨a',b'⟩:=y; simp_all
theorem rowN : (81 : TypeId) < Try.prog.types.size:=of_decide_eq_true (by kernel_rfl)
theorem wideN : (match Try.prog.underlying 81 with | some (.array _ _) | some (.struct _) => true | _ => false) = true:=by rw [Try.underlying81]
theorem lawN : Keyed Try.prog 81:=Keyed.of_law (deep_law_laid laidB (m:=3) (by omega) rowN (by kernel_rfl) wideN)
theorem ktN : Try.prog.keyType 81 = true:=by kernel_rfl
theorem cellsN : Try.prog.cellsOf 81 = 2:=by kernel_rfl
theorem keyN {x : Int × Int} (h0 : inI x.1) (h1 : inI x.2) : ∃ kl,keyOf Try.prog 81 (encN x) = some kl:=by
 have e : (Try.prog.keyType 81 && (encN x).formed Try.prog 81) = true:=by
  rw [Bool.and_eq_true]; exact ⟨ktN,by simp [Value.formed,encN,Try.underlying81,cellsN]⟩
 have hs : ∃ n,Try.prog.types.size + 1 = n + 2:=⟨Try.prog.types.size - 1,by have h : (2 : Nat) < Try.prog.types.size:=of_decide_eq_true (by kernel_rfl); omega⟩
 obtain ⟨n,hn⟩:=hs
 unfold keyOf
 rw [Try.underlying81]
 simp only [e,if_true,hn]
 simp [Program.keyLits,encN,Value.cells,Try.underlying81,Try.underlying3,cellsN,cellsI,i64wf h0,i64wf h1]
theorem zeroI (w : World) : (zeroValue 3).run Try.prog w = .ok (.int .i64 0) w:=by kernel_rfl
theorem zeroB (w : World) : (zeroValue 4).run Try.prog w = .ok (.bool false) w:=by kernel_rfl
end
section
def Qan (e : SElem) : Bool:=e.f0 == 0 && (e.f1 == 0 && (e.f2 == 0))
def nameOk (s q : Int) : Bool:=decide (1 <= s) && decide (s <= 8) && decide (1 <= q) && decide (q <= 268435456)
def Qbq (e : SElem) : Bool:=Qan e || (nameOk e.f0 e.f1 && decide (0 <= e.f2) && decide (e.f2 < 12))
def ownEl (o : SOp) (e : SElem) : Bool:=e.f0 == o.f0 && e.f1 == o.f1
def Qca (a b : SElem) : Bool:=decide (a.f0 < b.f0) || (a.f0 == b.f0 && (decide (a.f1 < b.f1) || (a.f1 == b.f1 && decide (a.f2 < b.f2))))
def Qbb (o : SOp) : Option SElem -> List SElem -> Bool
 | _,[] => true
 | p,e :: r => !Qan e && Qbq e && !ownEl o e && (match p with | none => true | some q => Qca q e) && Qbb o (some e) r
def goneOk (o : SOp) : Bool:=Qbb o none o.f5 && decide (o.f5.length <= 200)
def Qaj (o : SOp) : Nat:=(Qaq o.f4).length
def editOk (o : SOp) : Bool:=Qbq o.f3 && !ownEl o o.f3 && !(o.f4.toList.isEmpty && !Qan o.f3) && !(o.f4.toList.isEmpty && o.f5.isEmpty) && Qbz o.f4 && decide (Qaj o <= 12) && goneOk o && o.f6 == 0 && o.f7 == 0 && o.f8 == 0
def Qbj (o : SOp) : Bool:=nameOk o.f6 o.f7 && !(o.f6 == o.f0 && o.f7 == o.f1) && decide (0 <= o.f8) && decide (o.f8 <= 268435456) && Qan o.f3 && o.f4.toList.isEmpty && o.f5.isEmpty
def opOk (o : SOp) : Bool:=nameOk o.f0 o.f1 && (if o.f2 = 1 then editOk o else o.f2 == 2 && Qbj o)
def Sm (o : SOp) : Prop:=o.f4.size < 9223372036854775807 /\ o.f5.length <= 9223372036854775807
theorem op_IsSite_f (a : Int) : op_IsSite.f a = some (decide (1 <= a) && decide (a <= 8)):=by
 unfold op_IsSite.f
 by_cases h : 1 <= a <;> simp [h]
theorem op_Name_f (a b : Int) : op_Name.f a b = some (nameOk a b):=by
 unfold op_Name.f nameOk
 rw [op_IsSite_f]
 simp only [Option.bind_some]
 by_cases h1 : 1 <= a <;> by_cases h2 : a <= 8 <;> by_cases h3 : 1 <= b <;> simp [h1,h2,h3]
theorem op_IsElem_f (e : SElem) : op_IsElem.f e.f0 e.f1 e.f2 = some (Qbq e):=by
 unfold op_IsElem.f Qbq
 rw [op_Name_f]
 cases h : Qan e
 ·have h' : (e.f0 == 0 && (e.f1 == 0 && (e.f2 == 0))) = false:=h
  rw [if_neg (by rw [h']; simp)]
  simp only [Option.bind_some,Bool.false_or]
  cases nameOk e.f0 e.f1 <;> by_cases h2 : 0 <= e.f2 <;> simp [h2]
 ·have h' : (e.f0 == 0 && (e.f1 == 0 && (e.f2 == 0))) = true:=h
  rw [if_pos h']
  simp
theorem op_own_f (o : SOp) (e : SElem) : op_own.f o.f0 o.f1 o.f2 o.f3.f0 o.f3.f1 o.f3.f2 o.f4 o.f5 o.f6 o.f7 o.f8 e.f0 e.f1 e.f2 = some (ownEl o e):=by
 unfold op_own.f ownEl
 by_cases h : e.f0 = o.f0 <;> simp [h]
def cmpI (a b : Int) : Int:=if a < b then -1 else if a > b then 1 else 0
theorem Qby (a b : Int) : cmp_Compare_int.f a b = some (cmpI a b):=by
 unfold cmp_Compare_int.f cmp_isNaN_int.f cmpI
 simp only [Option.bind_some,bne_self_eq_false,Bool.false_eq_true,if_false]
 by_cases h : a < b
 ·simp [h]
 ·by_cases h2 : a > b <;> simp [h,h2]
def cmpE (a b : SElem) : Int:=if cmpI a.f0 b.f0 ≠ 0 then cmpI a.f0 b.f0 else if cmpI a.f1 b.f1 ≠ 0 then cmpI a.f1 b.f1 else cmpI a.f2 b.f2
theorem Qai {i : Int} (h0 : -9223372036854775808 <= i) (h : i <= 9223372036854775807) : wrap64 i = i:=by
 unfold wrap64; omega
theorem cmp_Or_three (x y z : Int) : cmp_Or_int.f 5 [x,y,z] = some (if x ≠ 0 then x else if y ≠ 0 then y else z):=by
 have w1 : wrap64 1 = 1:=Qai (by omega) (by omega)
 have w2 : wrap64 2 = 2:=Qai (by omega) (by omega)
 have w3 : wrap64 3 = 3:=Qai (by omega) (by omega)
 unfold cmp_Or_int.f
 by_cases hx : x = 0
 ·by_cases hy : y = 0
  ·by_cases hz : z = 0
   ·subst hx hy hz; simp [cmp_Or_int.l0,rd,w1,w2,w3]
   ·subst hx hy; simp [cmp_Or_int.l0,rd,w1,w2,w3,hz]
  ·subst hx; simp [cmp_Or_int.l0,rd,w1,w2,w3,hy]
 ·simp [cmp_Or_int.l0,rd,hx]
theorem op_Compare_f (a b : SElem) : op_Compare.f 5 a.f0 a.f1 a.f2 b.f0 b.f1 b.f2 = some (cmpE a b):=by
 unfold op_Compare.f cmpE
 rw [Qby,Qby,Qby]
 simp only [Option.bind_some]
 rw [cmp_Or_three]
 rfl
theorem cmpE_neg (a b : SElem) : decide (cmpE a b < 0) = Qca a b:=by
 unfold cmpE Qca cmpI
 by_cases h0 : a.f0 < b.f0
 ·simp [h0]
 ·by_cases h1 : a.f0 > b.f0
  ·have : ¬ a.f0 = b.f0:=by omega
   simp [h0,h1,this]
  ·have e0 : a.f0 = b.f0:=by omega
   by_cases h2 : a.f1 < b.f1
   ·simp [e0,h2]
   ·by_cases h3 : a.f1 > b.f1
    ·have : ¬ a.f1 = b.f1:=by omega
     simp [e0,h2,h3,this]
    ·have e1 : a.f1 = b.f1:=by omega
     by_cases h4 : a.f2 < b.f2
     ·simp [e0,e1,h4]
     ·by_cases h5 : a.f2 > b.f2 <;> simp [e0,e1,h4,h5]
theorem op_Less_f (a b : SElem) : op_Less.f 5 a.f0 a.f1 a.f2 b.f0 b.f1 b.f2 = some (Qca a b):=by
 unfold op_Less.f
 rw [op_Compare_f]
 simp only [Option.bind_some]
 rw [cmpE_neg]
theorem op_Less_ev (a b : SElem) : Ev (fun k => op_Less.f k a.f0 a.f1 a.f2 b.f0 b.f1 b.f2) (Qca a b) :=
 Ev.of (op_Less.mono _ _ _ _ _ _) (op_Less_f a b)
theorem op_Size_f (o : SOp) (h : Sm o) : op_Size.f o.f0 o.f1 o.f2 o.f3.f0 o.f3.f1 o.f3.f2 o.f4 o.f5 o.f6 o.f7 o.f8 = some (Qaj o : Int):=by
 unfold op_Size.f utf8_RuneCountInString.f
 rw [if_pos h.1]
 rfl
theorem Qat (l : List SElem) (i : Nat) (h : i < l.length) : Qab l (i : Int) = l[i]:=by
 unfold Qab; simp [List.getD_eq_getElem?_getD,h]
theorem op_gone_ev (o : SOp) (h : Sm o) : ∀ d i,i + d = o.f5.length ->
  Ev (fun k => op_gone.l0 k o.f5 (o.f5.length : Int) (i : Int) o.f0 o.f1 o.f2 o.f3.f0 o.f3.f1 o.f3.f2 o.f4 o.f5 o.f6 o.f7 o.f8)
   (Qbb o (if i = 0 then none else some (Qab o.f5 ((i : Int) - 1))) (o.f5.drop i) && decide (o.f5.length <= 200)):=by
 intro d
 induction d with
 | zero =>
  intro i hi
  refine Ev.step (f:=fun _ => some (Qbb o (if i = 0 then none else some (Qab o.f5 ((i : Int) - 1))) (o.f5.drop i) && decide (o.f5.length <= 200))) (fun k => ?_) (Ev.now _)
  have e : o.f5.drop i = []:=List.drop_eq_nil_of_le (by omega)
  simp only [op_gone.l0]
  rw [if_neg (by omega),e]
  simp [Qbb]
  omega
 | succ d ih =>
  intro i hi
  have hlt : i < o.f5.length:=by omega
  have hI : (i : Int) < (o.f5.length : Int):=by omega
  have hw : wrap64 ((i : Int) + 1) = ((i + 1 : Nat) : Int):=by rw [Qai (by omega) (by have:=h.2; omega)]; omega
  have hw1 : wrap64 ((i : Int) - 1) = (i : Int) - 1:=Qai (by omega) (by have:=h.2; omega)
  have ih':=ih (i + 1) (by omega)
  have hd : o.f5.drop i = Qab o.f5 (i : Int) :: o.f5.drop (i + 1):=by rw [Qat _ _ hlt]; exact List.drop_eq_getElem_cons hlt
  rw [hd]
  generalize hx : Qab o.f5 (i : Int) = x
  have hp1 : Qab o.f5 (((i + 1 : Nat) : Int) - 1) = x:=by rw [show (((i + 1 : Nat) : Int) - 1) = (i : Int) by omega]; exact hx
  rw [if_neg (show ¬ i + 1 = 0 by omega),hp1] at ih'
  have hb0 : (x.f0 == 0 && (x.f1 == 0 && (x.f2 == 0))) = Qan x:=rfl
  have unf : ∀ k,op_gone.l0 (k + 1) o.f5 (o.f5.length : Int) (i : Int) o.f0 o.f1 o.f2 o.f3.f0 o.f3.f1 o.f3.f2 o.f4 o.f5 o.f6 o.f7 o.f8 =
    (if Qan x = true then some false else if Qbq x = true then (if ownEl o x = true then some false else if (i : Int) > 0 then
     ((op_Less.f k (Qab o.f5 ((i : Int) - 1)).f0 (Qab o.f5 ((i : Int) - 1)).f1 (Qab o.f5 ((i : Int) - 1)).f2 x.f0 x.f1 x.f2).bind fun t => if t = true then op_gone.l0 k o.f5 (o.f5.length : Int) ((i + 1 : Nat) : Int) o.f0 o.f1 o.f2 o.f3.f0 o.f3.f1 o.f3.f2 o.f4 o.f5 o.f6 o.f7 o.f8 else some false)
     else op_gone.l0 k o.f5 (o.f5.length : Int) ((i + 1 : Nat) : Int) o.f0 o.f1 o.f2 o.f3.f0 o.f3.f1 o.f3.f2 o.f4 o.f5 o.f6 o.f7 o.f8) else some false):=by
   intro k
   simp only [op_gone.l0]
   rw [if_pos hI,if_pos (show (0 : Int) <= (i : Int) by omega),if_pos hI,hx,hb0,op_IsElem_f,op_own_f,hw,hw1]
   simp only [Option.bind_some]
   by_cases hi0 : (i : Int) > 0
   ·rw [if_pos (show (0 : Int) <= (i : Int) - 1 by omega),if_pos (show (i : Int) - 1 < (o.f5.length : Int) by omega)]
   ·simp only [hi0,if_false]
  refine Ev.step unf ?_
  cases hb : Qan x
  ·cases he : Qbq x
   ·simpa [Qbb,hb,he] using Ev.now false
   ·cases ho : ownEl o x
    ·by_cases hi0 : (i : Int) > 0
     ·have hne : ¬ i = 0:=by omega
      simp only [hi0,if_true,Bool.false_eq_true,if_false,hne]
      refine Ev.bind (op_Less_ev _ _) ?_
      cases hl : Qca (Qab o.f5 ((i : Int) - 1)) x
      ·simpa [Qbb,hb,he,ho,hl] using Ev.now false
      ·simpa [Qbb,hb,he,ho,hl] using ih'
     ·have hz : i = 0:=by omega
      subst hz
      simpa [Qbb,hb,he,ho] using ih'
    ·simpa [Qbb,hb,he,ho] using Ev.now false
  ·simpa [Qbb,hb] using Ev.now false
theorem op_gone_f (o : SOp) (h : Sm o) : Ev (fun k => op_gone.f k o.f0 o.f1 o.f2 o.f3.f0 o.f3.f1 o.f3.f2 o.f4 o.f5 o.f6 o.f7 o.f8) (goneOk o):=by
 have:=op_gone_ev o h o.f5.length 0 (by omega)
 simpa [goneOk,op_gone.f] using this
theorem toList_isEmpty (s : ByteArray) : (s.toList = ([] : List UInt8)) ↔ s.toList.isEmpty = true:=by
 cases s.toList <;> simp
theorem isEmpty_len {α : Type} (l : List α) : ((l.length : Int) == 0) = l.isEmpty:=by
 cases l with
 | nil => rfl
 | cons a r => simp; omega
theorem op_toggle_f (o : SOp) : op_toggle.f o.f0 o.f1 o.f2 o.f3.f0 o.f3.f1 o.f3.f2 o.f4 o.f5 o.f6 o.f7 o.f8 = some (Qbj o):=by
 unfold op_toggle.f Qbj
 rw [op_Name_f]
 simp only [Option.bind_some,isEmpty_len,toList_isEmpty]
 have hb0 : (o.f3.f0 == 0 && (o.f3.f1 == 0 && (o.f3.f2 == 0))) = Qan o.f3:=rfl
 rw [hb0]
 cases nameOk o.f6 o.f7
 ·simp
 ·by_cases h1 : o.f6 = o.f0
  ·by_cases h2 : o.f7 = o.f1
   ·simp [h1,h2]
   ·by_cases h3 : o.f8 < 0
    ·have : ¬ 0 <= o.f8:=by omega
     simp [h1,h2,h3,this]
    ·have h3' : 0 <= o.f8:=by omega
     by_cases h4 : o.f8 > 268435456
     ·have : ¬ o.f8 <= 268435456:=by omega
      simp [h1,h2,h3,h4,this]
     ·have h4' : o.f8 <= 268435456:=by omega
      cases Qan o.f3 <;> cases o.f4.toList.isEmpty <;> simp [h1,h2,h3,h4,h3',h4']
  ·by_cases h3 : o.f8 < 0
   ·have : ¬ 0 <= o.f8:=by omega
    simp [h1,h3,this]
   ·have h3' : 0 <= o.f8:=by omega
    by_cases h4 : o.f8 > 268435456
    ·have : ¬ o.f8 <= 268435456:=by omega
     simp [h1,h3,h4,this]
    ·have h4' : o.f8 <= 268435456:=by omega
     cases Qan o.f3 <;> cases o.f4.toList.isEmpty <;> simp [h1,h3,h4,h3',h4']
theorem not_begin (e : SElem) : (!(e.f0 == 0) || (!(e.f1 == 0) || (!(e.f2 == 0)))) = !Qan e:=by
 unfold Qan; cases (e.f0 == 0) <;> cases (e.f1 == 0) <;> cases (e.f2 == 0) <;> rfl
def editRest (o : SOp) : Bool:=Qbz o.f4 && decide (Qaj o <= 12) && goneOk o && o.f6 == 0 && o.f7 == 0 && o.f8 == 0
theorem op_edit_j (o : SOp) (h : Sm o) (b : Bool) : Ev (fun k => op_edit.j0 k b o.f0 o.f1 o.f2 o.f3.f0 o.f3.f1 o.f3.f2 o.f4 o.f5 o.f6 o.f7 o.f8) (!b && editRest o):=by
 refine Ev.step (f:=fun k => if b = true then some false else if Qbz o.f4 = true then (if (Qaj o : Int) <= 12 then (op_gone.f k o.f0 o.f1 o.f2 o.f3.f0 o.f3.f1 o.f3.f2 o.f4 o.f5 o.f6 o.f7 o.f8).bind fun t => if t = true then (if o.f6 = 0 then (if o.f7 = 0 then some (o.f8 == 0) else some false) else some false) else some false else some false) else some false) (fun k => ?_) ?_
 ·simp only [op_edit.j0,text_May.f,Option.bind_some]
  rw [op_Size_f o h]
  simp only [Option.bind_some]
 ·cases b
  ·simp only [Bool.false_eq_true,if_false,Bool.not_false,Bool.true_and]
   unfold editRest
   cases Qbz o.f4
   ·simpa using Ev.now false
   ·by_cases hs : (Qaj o : Int) <= 12
    ·have hs' : Qaj o <= 12:=by omega
     simp only [hs,hs',if_true,decide_true,Bool.true_and]
     refine Ev.bind (op_gone_f o h) ?_
     cases goneOk o
     ·simpa using Ev.now false
     ·by_cases h6 : o.f6 = 0
      ·by_cases h7 : o.f7 = 0
       ·simpa [h6,h7] using Ev.now (o.f8 == 0)
       ·have b7 : (o.f7 == 0) = false:=by simpa using h7
        simpa [h6,h7,b7] using Ev.now false
      ·have b6 : (o.f6 == 0) = false:=by simpa using h6
       simpa [h6,b6] using Ev.now false
    ·have hs' : ¬ Qaj o <= 12:=by omega
     simpa [hs,hs'] using Ev.now false
  ·simpa using Ev.now false
theorem op_edit_f (o : SOp) (h : Sm o) : Ev (fun k => op_edit.f k o.f0 o.f1 o.f2 o.f3.f0 o.f3.f1 o.f3.f2 o.f4 o.f5 o.f6 o.f7 o.f8) (editOk o):=by
 have e : editOk o = (!(!Qbq o.f3 || ownEl o o.f3 || (o.f4.toList.isEmpty && !Qan o.f3) || (o.f4.toList.isEmpty && o.f5.isEmpty)) && editRest o):=by
  unfold editOk editRest
  cases Qbq o.f3 <;> cases ownEl o o.f3 <;> cases o.f4.toList.isEmpty <;> cases Qan o.f3 <;> cases o.f5.isEmpty <;> simp
 rw [e]
 unfold op_edit.f
 simp only [op_IsElem_f,op_own_f,Option.bind_some,isEmpty_len,toList_isEmpty,not_begin]
 cases Qbq o.f3
 ·simpa using op_edit_j o h true
 ·cases ownEl o o.f3
  ·cases h4 : o.f4.toList.isEmpty
   ·simpa [h4] using op_edit_j o h false
   ·cases h5 : Qan o.f3
    ·simpa [h4,h5] using op_edit_j o h true
    ·simpa [h4,h5] using op_edit_j o h o.f5.isEmpty
  ·simpa using op_edit_j o h true
theorem op_May_f (o : SOp) (h : Sm o) : Ev (fun k => op_May.f k o.f0 o.f1 o.f2 o.f3.f0 o.f3.f1 o.f3.f2 o.f4 o.f5 o.f6 o.f7 o.f8) (opOk o):=by
 unfold op_May.f opOk
 simp only [op_Name_f,op_toggle_f,Option.bind_some]
 cases nameOk o.f0 o.f1
 ·simpa using Ev.now false
 ·by_cases h1 : o.f2 = 1
  ·simp only [h1,if_true,Bool.true_and]
   have:=op_edit_f o h
   rw [h1] at this
   exact Ev.bind this (Ev.now _)
  ·by_cases h2 : o.f2 = 2
   ·simpa [h1,h2] using Ev.now (Qbj o)
   ·have b2 : (o.f2 == 2) = false:=by simpa using h2
    simpa [h1,h2,b2] using Ev.now false
end
section
def t_tree_checker_goes.T1 : Bool × List (List Nat × List Nat):=(true,[([],[]),([0],[0]),([1],[1]),([2,1],[2]),([3],[3]),([4,3],[3,4]),([3],[3]),([6,3],[3,6]),([7,3],[3,7]),([8,3],[3,8]),([3],[3]),([10,3],[3,10]),([9,11,3],[3,9,11]),([12,3],[3,12]),([5,13,3],[3,5,13]),([3,14],[3,14]),([15,3],[15]),([16],[16]),([16],[16]),([18,16],[16,18]),([17,19,16,16],[16,17,19]),([20,16],[16,20]),([16,21],[16,21])])
def t_tree_checker_goes.B1 : List Nat:=[0,1,3,7,15,31,15,79,207,463,15,1039,4047,8143,16383,32767,65535,131071,131071,393215,1048575,2097151,4194303]
theorem t_tree_checker_goes.tab1 : rtab .any (opsOf Try.f23 1) = t_tree_checker_goes.T1:=by kernel_rfl
theorem t_tree_checker_goes.bits1 : Qau t_tree_checker_goes.T1.2 t_tree_checker_goes.B1 = true:=by kernel_rfl
def t_tree_checker_goes.T5 : Bool × List (List Nat × List Nat):=(true,[([],[]),([0],[0]),([1],[1]),([2],[2]),([],[]),([4],[4]),([3,5],[3,5]),([6],[6]),([3,5,7,0,1,2,3,4,5,6,7],[3,5,7])])
def t_tree_checker_goes.B5 : List Nat:=[0,1,3,7,0,16,63,127,255]
theorem t_tree_checker_goes.tab5 : rtab .any (opsOf Try.f23 5) = t_tree_checker_goes.T5:=by kernel_rfl
theorem t_tree_checker_goes.bits5 : Qau t_tree_checker_goes.T5.2 t_tree_checker_goes.B5 = true:=by kernel_rfl
def t_tree_checker_goes.T7 : Bool × List (List Nat × List Nat):=(true,[([],[]),([0],[0]),([1],[1]),([2],[2]),([],[]),([4],[4]),([],[]),([6],[6]),([5,7],[5,7]),([3,8],[3,8]),([9],[9]),([10],[10]),([10],[10]),([11,0,1,2,3,4,5,6,7,8,9,10,11],[11]),([12,13,0,1,2,3,4,5,6,7,8,9,10,11,12,13],[12])])
def t_tree_checker_goes.B7 : List Nat:=[0,1,3,7,0,16,0,64,240,511,1023,2047,2047,4095,16383]
theorem t_tree_checker_goes.tab7 : rtab .any (opsOf Try.f23 7) = t_tree_checker_goes.T7:=by kernel_rfl
theorem t_tree_checker_goes.bits7 : Qau t_tree_checker_goes.T7.2 t_tree_checker_goes.B7 = true:=by kernel_rfl
def t_tree_checker_goes.T10 : Bool × List (List Nat × List Nat):=(true,[([],[]),([0],[0]),([1],[1]),([2],[2]),([],[]),([4],[4]),([],[]),([6],[6]),([5,7],[5,7]),([],[]),([3,8,9,0,1,2,3,4,5,6,7,8,9],[3,8,9])])
def t_tree_checker_goes.B10 : List Nat:=[0,1,3,7,0,16,0,64,240,0,1023]
theorem t_tree_checker_goes.tab10 : rtab .any (opsOf Try.f23 10) = t_tree_checker_goes.T10:=by kernel_rfl
theorem t_tree_checker_goes.bits10 : Qau t_tree_checker_goes.T10.2 t_tree_checker_goes.B10 = true:=by kernel_rfl
def t_tree_grower_below.T1 : Bool × List (List Nat × List Nat):=(true,[([],[]),([0],[0]),([1],[1]),([2],[2]),([],[]),([3,4],[3,4]),([5,0,1,2,3,4,5],[5])])
def t_tree_grower_below.B1 : List Nat:=[0,1,3,7,0,31,63]
theorem t_tree_grower_below.tab1 : rtab .any (opsOf Try.f69 1) = t_tree_grower_below.T1:=by kernel_rfl
theorem t_tree_grower_below.bits1 : Qau t_tree_grower_below.T1.2 t_tree_grower_below.B1 = true:=by kernel_rfl
def t_tree_grower_below.T3 : Bool × List (List Nat × List Nat):=(true,[([],[]),([],[]),([1],[1]),([2],[2]),([3],[3]),([],[]),([5],[5]),([6],[6]),([7],[7]),([4,8],[4,8]),([9],[9]),([10,7],[10]),([11],[11]),([0,12,11],[0,12]),([13,13,0,1,2,3,4,5,6,7,8,9,10,11,12,13],[0,13])])
def t_tree_grower_below.B3 : List Nat:=[0,0,2,6,14,0,32,96,224,510,1022,2046,4094,8191,16383]
theorem t_tree_grower_below.tab3 : rtab .any (opsOf Try.f69 3) = t_tree_grower_below.T3:=by kernel_rfl
theorem t_tree_grower_below.bits3 : Qau t_tree_grower_below.T3.2 t_tree_grower_below.B3 = true:=by kernel_rfl
def t_tree_grower_below.T4 : Bool × List (List Nat × List Nat):=(true,[([],[]),([0],[0]),([1],[1]),([2],[2]),([],[]),([4],[4]),([],[]),([6],[6]),([3,5,7],[3,5,7]),([8,8,0,1,2,3,4,5,6,7,8],[8])])
def t_tree_grower_below.B4 : List Nat:=[0,1,3,7,0,16,0,64,255,511]
theorem t_tree_grower_below.tab4 : rtab .any (opsOf Try.f69 4) = t_tree_grower_below.T4:=by kernel_rfl
theorem t_tree_grower_below.bits4 : Qau t_tree_grower_below.T4.2 t_tree_grower_below.B4 = true:=by kernel_rfl
def t_tree_grower_below.T5 : Bool × List (List Nat × List Nat):=(true,[([],[]),([0],[0]),([1],[1]),([2],[2]),([3,2],[2,3]),([4,2],[2,4]),([2],[2]),([6,2],[2,6]),([7,2],[2,7]),([8,2],[2,8]),([2],[2]),([9,10,2],[2,9,10]),([11,2],[2,11]),([12,2,2],[2,12]),([5,13,2],[2,5,13]),([2,14],[2,14])])
def t_tree_grower_below.B5 : List Nat:=[0,1,3,7,15,31,7,71,199,455,7,1991,4039,8135,16383,32767]
theorem t_tree_grower_below.tab5 : rtab .any (opsOf Try.f69 5) = t_tree_grower_below.T5:=by kernel_rfl
theorem t_tree_grower_below.bits5 : Qau t_tree_grower_below.T5.2 t_tree_grower_below.B5 = true:=by kernel_rfl
def t_tree_grower_below.T6 : Bool × List (List Nat × List Nat):=(true,[([],[]),([],[]),([1],[1]),([2],[2]),([3],[3]),([],[]),([4,5],[4,5]),([6],[6]),([],[]),([8],[8]),([9],[9]),([7,10],[7,10]),([11],[11]),([0,12,11],[0,12]),([13,13,0,1,2,3,4,5,6,7,8,9,10,11,12,13],[0,13])])
def t_tree_grower_below.B6 : List Nat:=[0,0,2,6,14,0,62,126,0,256,768,2046,4094,8191,16383]
theorem t_tree_grower_below.tab6 : rtab .any (opsOf Try.f69 6) = t_tree_grower_below.T6:=by kernel_rfl
theorem t_tree_grower_below.bits6 : Qau t_tree_grower_below.T6.2 t_tree_grower_below.B6 = true:=by kernel_rfl
def t_tree_grower_walk.T4 : Bool × List (List Nat × List Nat):=(true,[([],[]),([],[]),([1],[1]),([2],[2]),([3],[3]),([],[]),([5],[5]),([4,6],[4,6]),([0,0,1,2,3,4,5,6,7],[0]),([8,0,1,2,3,4,5,6,7],[8]),([9,7,7,0,1,2,3,4,5,6,7],[7,9])])
def t_tree_grower_walk.B4 : List Nat:=[0,0,2,6,14,0,32,126,255,511,1023]
theorem t_tree_grower_walk.tab4 : rtab .any (opsOf Try.f49 4) = t_tree_grower_walk.T4:=by kernel_rfl
theorem t_tree_grower_walk.bits4 : Qau t_tree_grower_walk.T4.2 t_tree_grower_walk.B4 = true:=by kernel_rfl
def t_tree_grown.T6 : Bool × List (List Nat × List Nat):=(true,[([],[]),([0],[0]),([1],[1]),([2],[2]),([],[]),([4],[4]),([3,5],[3,5]),([6],[6])])
def t_tree_grown.B6 : List Nat:=[0,1,3,7,0,16,63,127]
theorem t_tree_grown.tab6 : rtab .any (opsOf Try.f48 6) = t_tree_grown.T6:=by kernel_rfl
theorem t_tree_grown.bits6 : Qau t_tree_grown.T6.2 t_tree_grown.B6 = true:=by kernel_rfl
def t_tree_grown.T7 : Bool × List (List Nat × List Nat):=(true,[([],[]),([0],[0]),([1],[1]),([2],[2]),([],[]),([4],[4]),([],[]),([6],[6]),([3,5,7,0,1,2,3,4,5,6,7],[3,5,7])])
def t_tree_grown.B7 : List Nat:=[0,1,3,7,0,16,0,64,255]
theorem t_tree_grown.tab7 : rtab .any (opsOf Try.f48 7) = t_tree_grown.T7:=by kernel_rfl
theorem t_tree_grown.bits7 : Qau t_tree_grown.T7.2 t_tree_grown.B7 = true:=by kernel_rfl
def t_tree_grown.T8 : Bool × List (List Nat × List Nat):=(true,[([],[]),([0],[0]),([1],[1]),([2],[2]),([],[]),([4],[4]),([3,5],[3,5]),([6],[6]),([],[]),([8],[8]),([7,9],[7,9])])
def t_tree_grown.B8 : List Nat:=[0,1,3,7,0,16,63,127,0,256,1023]
theorem t_tree_grown.tab8 : rtab .any (opsOf Try.f48 8) = t_tree_grown.T8:=by kernel_rfl
theorem t_tree_grown.bits8 : Qau t_tree_grown.T8.2 t_tree_grown.B8 = true:=by kernel_rfl
def t_tree_hung_Less.T1 : Bool × List (List Nat × List Nat):=(true,[([],[]),([],[]),([0,1],[0,1]),([2],[2]),([],[]),([],[]),([4,5],[4,5]),([6],[6]),([3,7],[3,7]),([8,0,1,2,3,4,5,6,7,8],[8])])
def t_tree_hung_Less.B1 : List Nat:=[0,0,3,7,0,0,48,112,255,511]
theorem t_tree_hung_Less.tab1 : rtab .any (opsOf Try.f101 1) = t_tree_hung_Less.T1:=by kernel_rfl
theorem t_tree_hung_Less.bits1 : Qau t_tree_hung_Less.T1.2 t_tree_hung_Less.B1 = true:=by kernel_rfl
def t_tree_hung_Push.T0 : Bool × List (List Nat × List Nat):=(true,[([],[]),([],[]),([1],[1]),([2],[2]),([],[]),([4],[4]),([5],[5]),([3,6],[3,6]),([0,0,1,2,3,4,5,6,7],[0]),([8,7,7,0,1,2,3,4,5,6,7],[7,8])])
def t_tree_hung_Push.B0 : List Nat:=[0,0,2,6,0,16,48,126,255,511]
theorem t_tree_hung_Push.tab0 : rtab .any (opsOf Try.f103 0) = t_tree_hung_Push.T0:=by kernel_rfl
theorem t_tree_hung_Push.bits0 : Qau t_tree_hung_Push.T0.2 t_tree_hung_Push.B0 = true:=by kernel_rfl
def t_tree_hung_Swap.T0 : Bool × List (List Nat × List Nat):=(true,[([],[]),([],[]),([],[]),([],[]),([],[]),([],[]),([4,5],[4,5]),([6],[6]),([],[]),([],[]),([8,9],[8,9]),([10],[10]),([0,1,0,1,4,5,6,7,11],[0,1]),([12,7,0,1,4,5,6,7,11],[7,12]),([2,3,0,1,2,3,4,5,6,7,8,9,10,11,12,13],[2,3]),([14,11,13,0,1,2,3,4,5,6,7,8,9,10,11,12,13],[11,14])])
def t_tree_hung_Swap.B0 : List Nat:=[0,0,0,0,0,0,48,112,0,0,768,1792,4083,8179,16383,32767]
theorem t_tree_hung_Swap.tab0 : rtab .any (opsOf Try.f104 0) = t_tree_hung_Swap.T0:=by kernel_rfl
theorem t_tree_hung_Swap.bits0 : Qau t_tree_hung_Swap.T0.2 t_tree_hung_Swap.B0 = true:=by kernel_rfl
end
section
attribute [local go_sem high] eqAElem
def wrote (Sz : Int × Int -> Option Int) (e : SElem) : Bool:=Qan e || decide (e.f2 < (Sz (e.f0,e.f1)).getD 0)
abbrev MapN (w : World) (b n : Nat) (Sz : Int × Int -> Option Int) : Prop:=MapK encN 81 3 w b n Sz
abbrev MapS (w : World) (b n : Nat) (Ah : Int -> Option Int) : Prop:=MapK encI 3 3 w b n Ah
theorem tree_of_f (a b c : Int) : tree_of.f a b c = some (a,b):=rfl
theorem written_calls (C bS n : Nat) (e : SElem) (Sz : Int × Int -> Option Int) (W : World) (hC0 : W.cell? ⟨C,0,none⟩ = some (.map (some bS))) (hM : MapN W bS n Sz) (hi : Qan e = false -> inI e.f0 /\ inI e.f1) :
    Calls Try.prog 39 #[.pointer (some ⟨C,0,none⟩),elV e] W fun r w' => r = .returned (.bool (wrote Sz e)) /\ Below W.heap.size W w':=by
  have lC:=World.block_lt_of_cell? W _ hC0
  simp only at lC
  unfold elV
  cases hz : Qan e with
  | true =>
    have hw : wrote Sz e = true:=by simp [wrote,hz]
    rw [hw]
    have hz' : (e.f0 == 0 && (e.f1 == 0 && (e.f2 == 0))) = true:=hz
    clear hz hw hi hM
    go_enter Try.func39,Try.ntmps39
    go_wp2
    go_quiet (fail)
    go_wp2
    go_ret
    exact ⟨rfl,Qbd ((Below.refl _ _).alloc (Nat.le_refl _) _) _⟩
  | false =>
    have hw : wrote Sz e = decide (e.f2 < (Sz (e.f0,e.f1)).getD 0):=by simp [wrote,hz]
    rw [hw]
    obtain ⟨i0,i1⟩:=hi hz
    obtain ⟨kl,hkl⟩:=keyN (x:=(e.f0,e.f1)) i0 i1
    have hz' : (e.f0 == 0 && (e.f1 == 0 && (e.f2 == 0))) = false:=hz
    have lM:=hM.lt
    have HLk:=Zz.k (fun (W' : World) (hb : Below W.heap.size W W') => (hM.below hb lM).look lawN Try.underlying55 Try.underlying3 zeroI (e.f0,e.f1) hkl)
    simp only [encN] at HLk
    generalize (Sz (e.f0,e.f1)).getD 0 = z at HLk ⊢
    clear hz hw hi hM hkl i0 i1
    go_enter Try.func39,Try.ntmps39
    go_wp2_with fail
    go_region_held3 (fun w' => w'.cell? ⟨W.heap.size,0,none⟩ = some (.int .i64 e.f0) /\ w'.cell? ⟨W.heap.size,1,none⟩ = some (.int .i64 e.f1) /\ w'.cell? ⟨W.heap.size,2,none⟩ = some (.int .i64 e.f2) /\
        w'.cell? ⟨C,0,none⟩ = some (.map (some bS)) /\ (Instr.lookup 55 (.map (some bS)) (.agg #[.int .i64 e.f0, .int .i64 e.f1]) false).run Try.prog w' = .ok (.int .i64 z) w' /\ Below W.heap.size W w')
      (first
        | (refine ⟨by go_keep,by go_keep,by go_keep,by go_keep,HLk.out _ (Qae ((Below.refl _ _).alloc (Nat.le_refl _) _)),Qae ((Below.refl _ _).alloc (Nat.le_refl _) _)⟩)
        | (have hbb : Below W.heap.size W _:=Qal (Qae ((Below.refl _ _).alloc (Nat.le_refl _) _)) hb
           exact ⟨Qaa hb (by go_keep),Qaa hb (by go_keep),Qaa hb (by go_keep),Qaa hb (by go_keep),HLk.out _ hbb,hbb⟩))
      (first | (go_at_call 66; refine (tree_of.calls e.f0 e.f1 e.f2 e.f0 e.f1 _ (tree_of_f _ _ _)).mono ?_; rintro e' w' ⟨rfl,hb⟩))
    rename_i hHeld
    have HH:=Zz.k hHeld.2.2.2.2.2
    clear hHeld hb
    go_wp2
    go_ret
    exact ⟨rfl,HH.out⟩
theorem goes1_calls (cb C bS n : Nat) (e : SElem) (Sz : Int × Int -> Option Int) (W : World) (hcb : W.cell? ⟨cb,0,none⟩ = some (.pointer (some ⟨C,0,none⟩))) (hC0 : W.cell? ⟨C,0,none⟩ = some (.map (some bS))) (hM : MapN W bS n Sz) (hi : Qan e = false -> inI e.f0 /\ inI e.f1) :
  Calls Try.prog 41 #[elV e, .pointer (some ⟨cb,0,none⟩)] W fun r w' => r = .returned (.bool (!wrote Sz e)) /\ Below W.heap.size W w':=by
 have lb:=World.block_lt_of_cell? W _ hcb
 have lC:=World.block_lt_of_cell? W _ hC0
 simp only at lb lC
 have HW:=Zz.k (fun (W' : World) (hb : Below W.heap.size W W') => written_calls C bS n e Sz W' (Qaa hb hC0) (hM.below hb hM.lt) hi)
 unfold elV at HW ⊢
 generalize wrote Sz e = z at HW ⊢
 clear hM hi hC0
 go_enter Try.func41,Try.ntmps41
 go_wp2_with fail
 refine (HW.out _ ((Below.refl _ _).alloc (Nat.le_refl _) _)).mono ?_
 rintro r w' ⟨rfl,hb⟩
 have HB:=Zz.k (Qal ((Below.refl _ _).alloc (Nat.le_refl _) _) hb)
 clear hb
 go_wp2
 go_ret
 exact ⟨rfl,HB.out⟩
structure CS where
 Sz : Int × Int -> Option Int
 Ah : Int -> Option Int
 all : Int
def preB (s : CS) (o : SOp) : Bool:=opOk o && (o.f1 == wrap64 ((s.Ah o.f0).getD 0 + 1) && (wrote s.Sz o.f3 && !anyAt (fun i => !wrote s.Sz (Qab o.f5 i)) o.f5.length))
def ahead1 (s : CS) (o : SOp) : CS:={ s with Ah:=upd s.Ah o.f0 (wrap64 ((s.Ah o.f0).getD 0 + 1)) }
def noted (s : CS) (o : SOp) : CS:={ ahead1 s o with Sz:=upd s.Sz (o.f0,o.f1) (Qaj o),all:=wrap64 (s.all + (Qaj o : Int)) }
def goesB (s : CS) (o : SOp) : Bool × CS :=
 if preB s o = true then (if o.f2 = 2 then ((s.Sz (o.f6,o.f7)).isSome,ahead1 s o) else (decide ((noted s o).all <= 200),noted s o)) else (false,s)
theorem nameOk_in {s q : Int} (h : nameOk s q = true) : inI s /\ inI q:=by
 unfold nameOk at h; simp at h; unfold inI; omega
theorem elemOk_in {e : SElem} (h : Qbq e = true) (hb : Qan e = false) : inI e.f0 /\ inI e.f1:=by
 unfold Qbq at h; rw [hb] at h; simp at h; exact nameOk_in h.1.1
theorem opOk_name {o : SOp} (h : opOk o = true) : inI o.f0 /\ inI o.f1:=by
 unfold opOk at h; simp only [Bool.and_eq_true] at h; exact nameOk_in h.1
theorem opOk_kind {o : SOp} (h : opOk o = true) : (o.f2 = 1 /\ editOk o = true) \/ (o.f2 = 2 /\ Qbj o = true):=by
 unfold opOk at h; simp only [Bool.and_eq_true] at h
 by_cases h1 : o.f2 = 1
 ·rw [if_pos h1] at h; exact .inl ⟨h1,h.2⟩
 ·rw [if_neg h1] at h; simp at h; exact .inr h.2
theorem opOk_after {o : SOp} (h : opOk o = true) (hb : Qan o.f3 = false) : inI o.f3.f0 /\ inI o.f3.f1:=by
 rcases opOk_kind h with ⟨_,h⟩ | ⟨_,h⟩
 ·unfold editOk at h; simp only [Bool.and_eq_true] at h; exact elemOk_in h.1.1.1.1.1.1.1.1.1 hb
 ·unfold Qbj at h; simp only [Bool.and_eq_true] at h; rw [hb] at h; simp at h
theorem goneFrom_ok {o : SOp} : ∀ (l : List SElem) (p : Option SElem),Qbb o p l = true -> ∀ e ∈ l,Qbq e = true
 | [],_,_,e,he => by cases he
 | x :: r,p,h,e,he => by
  unfold Qbb at h; simp only [Bool.and_eq_true] at h
  rcases List.mem_cons.1 he with rfl | he
  ·exact h.1.1.1.2
  ·exact goneFrom_ok r _ h.2 e he
theorem opOk_gone {o : SOp} (h : opOk o = true) (i : Nat) (hi : i < o.f5.length) (hb : Qan (Qab o.f5 i) = false) : inI (Qab o.f5 i).f0 /\ inI (Qab o.f5 i).f1:=by
 rcases opOk_kind h with ⟨_,h⟩ | ⟨_,h⟩
 ·unfold editOk goneOk at h; simp only [Bool.and_eq_true] at h
  refine elemOk_in (goneFrom_ok o.f5 _ h.1.1.1.2.1 _ ?_) hb
  rw [Qat _ _ hi]; exact List.getElem_mem hi
 ·unfold Qbj at h; simp only [Bool.and_eq_true] at h
  have : o.f5 = []:=List.isEmpty_iff.1 h.2
  rw [this] at hi; cases hi
theorem opOk_of {o : SOp} (h : opOk o = true) (h2 : o.f2 = 2) : inI o.f6 /\ inI o.f7:=by
 rcases opOk_kind h with ⟨h1,_⟩ | ⟨_,h⟩
 ·omega
 ·unfold Qbj at h; simp only [Bool.and_eq_true] at h; exact nameOk_in h.1.1.1.1.1.1
def Chk (W : World) (C bS bA n : Nat) (s : CS) : Prop :=
 W.cell? ⟨C,0,none⟩ = some (.map (some bS)) /\ W.cell? ⟨C,1,none⟩ = some (.map (some bA)) /\ W.cell? ⟨C,2,none⟩ = some (.int .i64 s.all) /\ W.frozen? ⟨C,2,none⟩ = false /\ MapN W bS n s.Sz /\ MapS W bA n s.Ah
theorem frozen_below {w w' : World} {B : Nat} {a : Addr} (hb : Below B w w') (h : a.block < B) : w'.frozen? a = w.frozen? a:=hb.frozen h
theorem Chk.below {W W' : World} {C bS bA n : Nat} {s : CS} (h : Chk W C bS bA n s) (hb : Below W.heap.size W W') : Chk W' C bS bA n s:=by
 obtain ⟨h1,h2,h3,h4,h5,h6⟩:=h
 refine ⟨Qaa hb h1,Qaa hb h2,Qaa hb h3, ?_,h5.below hb h5.lt,h6.below hb h6.lt⟩
 rw [frozen_below hb (World.block_lt_of_cell? W _ h3)]; exact h4
def Three (C bS bA : Nat) : Nat -> Prop:=fun k => k = C \/ k = bS \/ k = bA
def Qbf (W : World) (C bS bA n : Nat) (r : Bool × CS) (w' : World) : Prop :=
 (r.1 = true -> Chk w' C bS bA (n + 1) r.2) /\ Kept W w' (Three C bS bA) /\ ∀ B,B <= C -> B <= bS -> B <= bA -> B <= W.heap.size -> Below B W w'
theorem Qbf.stays {W w' : World} {C bS bA n : Nat} {s : CS} (hb : Below W.heap.size W w') : Qbf W C bS bA n (false,s) w' :=
 ⟨fun h => (by cases h),Kept.of_below hb _,fun B _ _ _ h => hb.mono h⟩
theorem two_boxes {Q : World -> Prop} (W : World) (cs1 : Array Value) (t1 : TypeId) (cs2 : Array Value) (t2 : TypeId)
  (h : ∀ w2,(∀ j,w2.cell? ⟨W.heap.size,j,none⟩ = cs1[j]?) -> (∀ j,w2.cell? ⟨W.heap.size + 1,j,none⟩ = cs2[j]?) -> Below W.heap.size W w2 -> w2.heap.size = W.heap.size + 2 -> Q w2) : Q ((W.alloc (.cells cs1 t1)).alloc (.cells cs2 t2)) :=
 h _ (fun j => by simp) (fun j => by simp) (Qad ((Below.refl _ _).alloc (Nat.le_refl _) _) _) (by simp)
theorem goes_no (C bS bA n : Nat) (s : CS) (o : SOp) (A7 : Option Addr) (c7 : Nat) (W : World) (hck : Chk W C bS bA n s) (hl : o.f5.length <= c7) (hr : Qaw.C W A7 o.f5.length o.f5) (hsm : Sm o) (ho : opOk o = false) :
  Calls Try.prog 23 #[.pointer (some ⟨C,0,none⟩),opV o A7 c7] W fun r w' => r = .returned (.bool false) /\ Below W.heap.size W w':=by
 obtain ⟨K,hK⟩:=(op_May_f o hsm).rounds
 obtain ⟨h1,h2,h3,h4,h5,h6⟩:=hck
 have lC:=World.block_lt_of_cell? W _ h1
 simp only at lC
 have HR:=Zz.k hr
 rw [ho] at hK
 have HK:=Zz.k hK
 have HL:=Zz.k hl
 clear hr hK h5 h6 hl ho
 unfold opV
 go_enter Try.func23,Try.ntmps23
 go_wp2_with fail
 refine two_boxes (Q:=Code.wp _ _ _ _) W _ _ _ _ (fun w2 g1 g2 gB gS => ?_)
 have b0:=g1 0
 have o0:=g2 0; have o1:=g2 1; have o2:=g2 2; have o3:=g2 3; have o4:=g2 4; have o5:=g2 5; have o6:=g2 6; have o7:=g2 7; have o8:=g2 8; have o9:=g2 9; have o10:=g2 10
 simp only [List.getElem?_toArray,List.getElem?_cons_zero,List.getElem?_cons_succ] at b0 o0 o1 o2 o3 o4 o5 o6 o7 o8 o9 o10
 clear g1 g2
 have hmc:=fun (X : World) (hb : Below W.heap.size W X) => op_May.calls K o.f0 o.f1 o.f2 o.f3.f0 o.f3.f1 o.f3.f2 o.f4 A7 c7 o.f5 o.f6 o.f7 o.f8 false X (Kd.C_below HR.out hb) HL.out HK.out
 have HMC:=Zz.k hmc
 have GB:=Zz.k gB
 clear hmc gB gS
 refine stR (S:=fun w' => w'.cell? ⟨W.heap.size + 1,0,none⟩ = some (.int .i64 o.f0) /\ w'.cell? ⟨W.heap.size + 1,1,none⟩ = some (.int .i64 o.f1) /\ w'.cell? ⟨W.heap.size + 1,2,none⟩ = some (.int .i64 o.f2) /\ w'.cell? ⟨W.heap.size + 1,3,none⟩ = some (.int .i64 o.f3.f0) /\ w'.cell? ⟨W.heap.size + 1,4,none⟩ = some (.int .i64 o.f3.f1) /\ w'.cell? ⟨W.heap.size + 1,5,none⟩ = some (.int .i64 o.f3.f2) /\ w'.cell? ⟨W.heap.size + 1,6,none⟩ = some (.string o.f4) /\ w'.cell? ⟨W.heap.size + 1,7,none⟩ = some (.slice A7 o.f5.length c7) /\ w'.cell? ⟨W.heap.size + 1,8,none⟩ = some (.int .i64 o.f6) /\ w'.cell? ⟨W.heap.size + 1,9,none⟩ = some (.int .i64 o.f7) /\ w'.cell? ⟨W.heap.size + 1,10,none⟩ = some (.int .i64 o.f8))
  23 t_tree_checker_goes.bits1 t_tree_checker_goes.tab1 (hS:=⟨o0,o1,o2,o3,o4,o5,o6,o7,o8,o9,o10⟩) (h:=fun hS HT HW => ?_)
 refine tk HT HW hS 0 8 1 (h := ?_)
 refine ca HT 1 (some 9) 3 #[.agg #[.int .i64 o.f0, .int .i64 o.f1, .int .i64 o.f2, .int .i64 o.f3.f0, .int .i64 o.f3.f1, .int .i64 o.f3.f2, .string o.f4, .slice A7 o.f5.length c7, .int .i64 o.f6, .int .i64 o.f7, .int .i64 o.f8]] Try.func38 (h:=fun K hK => ?_)
 refine (HMC.out _ (Qae GB.out)).mono ?_
 rintro r w' ⟨rfl,hb⟩
 have HH:=Zz.k (Qal (Qae GB.out) hb)
 refine ⟨_,rfl, ?_⟩
 refine hK.out _ _ ⟨Qaa hb o0,Qaa hb o1,Qaa hb o2,Qaa hb o3,Qaa hb o4,Qaa hb o5,Qaa hb o6,Qaa hb o7,Qaa hb o8,Qaa hb o9,Qaa hb o10⟩ (fun hS => ?_)
 clear hb hK hS o0 o1 o2 o3 o4 o5 o6 o7 o8 o9 o10 b0
 refine nm (h := ?_)
 refine pu HT 2 10 7 (h := ?_)
 refine pu HT 3 11 15 (h := ?_)
 refine off HT 4 12 31 (h := ?_)
 refine off HT 5 13 63 (h := ?_)
 refine off HT 6 14 127 (h := ?_)
 refine off HT 7 15 255 (h := ?_)
 refine off HT 8 16 511 (h := ?_)
 refine off HT 9 17 1023 (h := ?_)
 refine off HT 10 18 2047 (h := ?_)
 refine off HT 11 19 4095 (h := ?_)
 refine off HT 12 20 8191 (h := ?_)
 refine off HT 13 21 16383 (h := ?_)
 refine off HT 14 22 32767 (h := ?_)
 refine pu HT 15 23 65535 (h := ?_)
 refine pu HT 16 24 131071 (h := ?_)
 refine off HT 17 25 262143 (h := ?_)
 refine off HT 18 26 524287 (h := ?_)
 refine off HT 19 27 1048575 (h := ?_)
 refine off HT 20 28 2097151 (h := ?_)
 refine off HT 21 29 4194303 (h := ?_)
 refine pu HT 22 30 8388607 (h := ?_)
 refine dn HT (h := ?_)
 go_wp2
 go_ret
 exact ⟨rfl,HH.out⟩
end
section
attribute [local go_sem high] eqAElem
theorem goesB_pre {s : CS} {o : SOp} (h : preB s o = false) : goesB s o = (false,s):=by unfold goesB; rw [h]; rfl
theorem preB_seq {s : CS} {o : SOp} {z : Int} (hz : (s.Ah o.f0).getD 0 = z) (h : (o.f1 != wrap64 (z + 1)) = true) : preB s o = false:=by
 unfold preB; subst hz
 have : (o.f1 == wrap64 ((s.Ah o.f0).getD 0 + 1)) = false:=by simpa [bne] using h
 rw [this]; simp
theorem preB_after {s : CS} {o : SOp} (h : wrote s.Sz o.f3 = false) : preB s o = false:=by unfold preB; rw [h]; simp
theorem preB_gone {s : CS} {o : SOp} (h : anyAt (fun i => !wrote s.Sz (Qab o.f5 i)) o.f5.length = true) : preB s o = false:=by unfold preB; rw [h]; simp
theorem preB_yes {s : CS} {o : SOp} {z : Int} (ho : opOk o = true) (hz : (s.Ah o.f0).getD 0 = z) (h : (o.f1 != wrap64 (z + 1)) = false) (h2 : wrote s.Sz o.f3 = true) (h3 : anyAt (fun i => !wrote s.Sz (Qab o.f5 i)) o.f5.length = false) : preB s o = true:=by
 unfold preB; subst hz
 have : (o.f1 == wrap64 ((s.Ah o.f0).getD 0 + 1)) = true:=by simpa [bne] using h
 rw [ho,this,h2,h3]; rfl
theorem goesB_toggle {s : CS} {o : SOp} (h : preB s o = true) (hk : o.f2 = 2) : goesB s o = ((s.Sz (o.f6,o.f7)).isSome,ahead1 s o):=by unfold goesB; rw [if_pos h,if_pos hk]
theorem goesB_edit {s : CS} {o : SOp} (h : preB s o = true) (hk : ¬ o.f2 = 2) : goesB s o = (decide ((noted s o).all <= 200),noted s o):=by unfold goesB; rw [if_pos h,if_neg hk]
theorem frozen_grown {w w' : World} {row : Option Nat} {a : Addr} (hg : w.grownBy w' row) (hlt : a.block < w.heap.size) (hne : some a.block ≠ row) : w'.frozen? a = w.frozen? a:=World.frozen?_of_block (hg.block _ hlt hne)
theorem Qas {w w' : World} {row : Option Nat} {a : Addr} {v : Value} (hg : w.grownBy w' row) (hne : some a.block ≠ row) (hc : w.cell? a = some v) : w'.cell? a = some v:=(World.cell?_of_block (hg.block _ (World.block_lt_of_cell? w a hc) hne)).trans hc
theorem Chk.ahead {w5 w6 : World} {C bS bA n : Nat} {s : CS} {o : SOp} (h : Chk w5 C bS bA n s) (hne : bS ≠ bA) (hCA : C ≠ bA) (hm : MapS w6 bA (n + 1) (upd s.Ah o.f0 (wrap64 ((s.Ah o.f0).getD 0 + 1)))) (hg : w5.grownBy w6 (some bA)) : Chk w6 C bS bA (n + 1) (ahead1 s o):=by
 obtain ⟨h1,h2,h3,h4,h5,h6⟩:=h
 have hc : some C ≠ some bA:=fun e => hCA (Zo e)
 exact ⟨Qas hg hc h1,Qas hg hc h2,Qas hg hc h3,(frozen_grown hg (World.block_lt_of_cell? _ _ h3) hc).trans h4,(h5.kept hg (fun e => hne (Zo e))).more (Nat.le_succ n),hm⟩
theorem goes_grown {W w5 w6 : World} {C bS bA n : Nat} {s' : CS} (hb : Below W.heap.size W w5) (hg : w5.grownBy w6 (some bA)) (b : Bool) (hc : Chk w6 C bS bA (n + 1) s') : Qbf W C bS bA n (b,s') w6 :=
 ⟨fun _ => hc,Kept.of_grown hg (Kept.of_below hb _) (fun k hk => .inl (.inr (.inr (Zo hk).symm))),fun B h1 h2 h3 h4 => (hb.mono h4).grown hg (Nat.le_trans h4 hb.size) (fun k hk => by cases hk; exact h3)⟩
theorem Qbf.below {W w6 w7 : World} {C bS bA n : Nat} {r : Bool × CS} (h : Qbf W C bS bA n r w6) (hb : Below w6.heap.size w6 w7) (hCS : ∀ B,B <= C -> B <= bS -> B <= bA -> B <= W.heap.size -> B <= w6.heap.size) : Qbf W C bS bA n r w7 :=
 ⟨fun e => (h.1 e).below hb,h.2.1.below hb,fun B h1 h2 h3 h4 => (h.2.2 B h1 h2 h3 h4).trans (hb.mono (hCS B h1 h2 h3 h4))⟩
theorem block_ne_map {κ : Type} {enc : κ -> Value} {K E : TypeId} {w : World} {b n : Nat} {S : κ -> Option Int} (h : MapK enc K E w b n S) {ad : Addr} (hc : w.cell? ad ≠ none) : ad.block ≠ b:=by
 obtain ⟨D,⟨es,clock,h1,_⟩,_⟩:=h
 rintro rfl
 exact hc (by simp [World.cell?,h1])
theorem C_grown {w w' : World} {b n m : Nat} {κ : Type} {enc : κ -> Value} {K E : TypeId} {S : κ -> Option Int} {A : Option Addr} {xs : List SElem} (hM : MapK enc K E w b n S) (hg : w.grownBy w' (some b)) (h : Qaw.C w A m xs) : Qaw.C w' A m xs :=
 Kd.C_foot_neS (S:=fun k => k = b) (fun h => h) h (fun ad hA hm => by subst hA; exact block_ne_map hM (Kd.C_not_empty h hm (by decide))) w' (Kept.of_grown hg (Kept.refl _ _) (fun k hk => .inl (Zo hk).symm))
theorem opOk_size {o : SOp} (h : opOk o = true) : Qaj o <= 12:=by
 rcases opOk_kind h with ⟨_,h⟩ | ⟨_,h⟩
 ·unfold editOk at h; simp only [Bool.and_eq_true,decide_eq_true_eq] at h; omega
 ·unfold Qbj at h; simp only [Bool.and_eq_true] at h
  have e:=List.isEmpty_iff.1 h.1.2
  have e2 : o.f4.size = 0:=by rw [<- data_length,<- ByteArray.toList_eq,e]; rfl
  unfold Qaj Qaq
  rw [e2]
  simp [decFrom]
theorem goes_noted {W w7 w8 : World} {C bS bA n : Nat} {s : CS} {o : SOp} (h1 : w8.cell? ⟨C,0,none⟩ = some (.map (some bS))) (h2 : w8.cell? ⟨C,1,none⟩ = some (.map (some bA))) (h3 : w8.cell? ⟨C,2,none⟩ = some (.int .i64 s.all)) (h4 : w8.frozen? ⟨C,2,none⟩ = false)
  (hm : MapN w8 bS (n + 1) (upd s.Sz (o.f0,o.f1) (Qaj o))) (ha : MapS w8 bA (n + 1) (ahead1 s o).Ah) (hCS : C ≠ bS) (hCA : C ≠ bA) (hk : Kept W w7 (Three C bS bA)) (hb : ∀ B,B <= C -> B <= bS -> B <= bA -> B <= W.heap.size -> Below B W w7 /\ B <= w7.heap.size) (hg : w7.grownBy w8 (some bS)) (b : Bool) :
  Qbf W C bS bA n (b,noted s o) (w8.setCell ⟨C,2,none⟩ (.int .i64 (wrap64 (s.all + (Qaj o : Int))))):=by
 refine ⟨fun _ => ⟨?_, ?_, ?_, ?_, ?_, ?_⟩, ?_, ?_⟩
 ·exact (World.cell?_setCell_other w8 ⟨C,2,none⟩ ⟨C,0,none⟩ _ (fun e => by injection e with _ e2; cases e2)).trans h1
 ·exact (World.cell?_setCell_other w8 ⟨C,2,none⟩ ⟨C,1,none⟩ _ (fun e => by injection e with _ e2; cases e2)).trans h2
 ·exact World.cell?_setCell_same w8 ⟨C,2,none⟩ _ h3
 ·rw [World.frozen?_setCell]; exact h4
 ·exact MapK.setCell hm hCS.symm _
 ·exact MapK.setCell ha hCA.symm _
 ·exact (Kept.of_grown hg hk (fun k hk => .inl (.inr (.inl (Zo hk).symm)))).setCell (.inl (.inl rfl)) _
 ·intro B h1 h2 h3 h4
  obtain ⟨hx,hy⟩:=hb B h1 h2 h3 h4
  exact (hx.grown hg hy (fun k hk => by cases hk; exact h2)).setCell h1 _
theorem goes_yes (C bS bA n : Nat) (s : CS) (o : SOp) (A7 : Option Addr) (c7 : Nat) (W : World) (hne : bS ≠ bA) (hCS : C ≠ bS) (hCA : C ≠ bA) (hn : n < maxLen) (hck : Chk W C bS bA n s) (hl : o.f5.length <= c7) (hr : Qaw.C W A7 o.f5.length o.f5) (hsm : Sm o) (ho : opOk o = true) :
  Calls Try.prog 23 #[.pointer (some ⟨C,0,none⟩),opV o A7 c7] W fun r w' => r = .returned (.bool (goesB s o).1) /\ Qbf W C bS bA n (goesB s o) w':=by
 obtain ⟨K,hK⟩:=(op_May_f o hsm).rounds
 rw [ho] at hK
 have HK:=Zz.k hK
 have HCK:=Zz.k hck
 have HR:=Zz.k hr
 have HL:=Zz.k hl
 have HO:=Zz.k ho
 obtain ⟨h1,h2,h3,h4,h5,h6⟩:=hck
 have lC:=World.block_lt_of_cell? W _ h1
 have lS:=h5.lt
 have lA:=h6.lt
 simp only at lC
 have hLk:=h6.look lawI Try.underlying56 Try.underlying3 zeroI o.f0 (keyI (opOk_name ho).1)
 have HLk:=Zz.k (fun (X : World) (hb : Below W.heap.size W X) => (h6.below hb lA).look lawI Try.underlying56 Try.underlying3 zeroI o.f0 (keyI (opOk_name ho).1))
 have HWr:=Zz.k (fun (X : World) (hb : Below W.heap.size W X) => written_calls C bS n o.f3 s.Sz X (Qaa hb h1) (h5.below hb lS) (fun hz => opOk_after ho hz))
 simp only [elV] at HWr
 simp only [encI] at HLk
 generalize hz : (s.Ah o.f0).getD 0 = z at HLk
 generalize hwa : wrote s.Sz o.f3 = wa at HWr
 have HZ:=Zz.k hz
 have HWA:=Zz.k hwa
 clear hr hK hl ho h5 h6 hLk hz hwa h3 h4
 unfold opV
 go_enter Try.func23,Try.ntmps23
 go_wp2_with fail
 refine two_boxes (Q:=Code.wp _ _ _ _) W _ _ _ _ (fun w2 g1 g2 gB gS => ?_)
 have b0:=g1 0
 have o0:=g2 0; have o1:=g2 1; have o2:=g2 2; have o3:=g2 3; have o4:=g2 4; have o5:=g2 5; have o6:=g2 6; have o7:=g2 7; have o8:=g2 8; have o9:=g2 9; have o10:=g2 10
 simp only [List.getElem?_toArray,List.getElem?_cons_zero,List.getElem?_cons_succ] at b0 o0 o1 o2 o3 o4 o5 o6 o7 o8 o9 o10
 clear g1 g2
 have hmc:=fun (X : World) (hb : Below W.heap.size W X) => op_May.calls K o.f0 o.f1 o.f2 o.f3.f0 o.f3.f1 o.f3.f2 o.f4 A7 c7 o.f5 o.f6 o.f7 o.f8 true X (Kd.C_below HR.out hb) HL.out HK.out
 have HMC:=Zz.k hmc
 clear hmc gS
 have k1:=Qaa gB h1
 have k2:=Qaa gB h2
 have gS:=HLk.out _ (Qae gB)
 clear h1 h2
 refine stR (S:=fun w' => w'.cell? ⟨W.heap.size + 1,0,none⟩ = some (.int .i64 o.f0) /\ w'.cell? ⟨W.heap.size + 1,1,none⟩ = some (.int .i64 o.f1) /\ w'.cell? ⟨W.heap.size + 1,2,none⟩ = some (.int .i64 o.f2) /\ w'.cell? ⟨W.heap.size + 1,3,none⟩ = some (.int .i64 o.f3.f0) /\ w'.cell? ⟨W.heap.size + 1,4,none⟩ = some (.int .i64 o.f3.f1) /\ w'.cell? ⟨W.heap.size + 1,5,none⟩ = some (.int .i64 o.f3.f2) /\ w'.cell? ⟨W.heap.size + 1,6,none⟩ = some (.string o.f4) /\ w'.cell? ⟨W.heap.size + 1,7,none⟩ = some (.slice A7 o.f5.length c7) /\ w'.cell? ⟨W.heap.size + 1,8,none⟩ = some (.int .i64 o.f6) /\ w'.cell? ⟨W.heap.size + 1,9,none⟩ = some (.int .i64 o.f7) /\ w'.cell? ⟨W.heap.size + 1,10,none⟩ = some (.int .i64 o.f8) /\
   w'.cell? ⟨W.heap.size,0,none⟩ = some (.pointer (some ⟨C,0,none⟩)) /\ w'.cell? ⟨C,0,none⟩ = some (.map (some bS)) /\ w'.cell? ⟨C,1,none⟩ = some (.map (some bA)) /\ (Instr.lookup 56 (.map (some bA)) (.int .i64 o.f0) false).run Try.prog w' = .ok (.int .i64 z) w' /\ Below W.heap.size W w')
  23 t_tree_checker_goes.bits1 t_tree_checker_goes.tab1 (hS:=⟨o0,o1,o2,o3,o4,o5,o6,o7,o8,o9,o10,b0,k1,k2,gS,Qae gB⟩) (h:=fun hS HT HW => ?_)
 clear gS gB o0 o1 o2 o3 o4 o5 o6 o7 o8 o9 o10 b0 k1 k2
 refine tk HT HW hS 0 8 1 (h := ?_)
 refine ca HT 1 (some 9) 3 #[.agg #[.int .i64 o.f0, .int .i64 o.f1, .int .i64 o.f2, .int .i64 o.f3.f0, .int .i64 o.f3.f1, .int .i64 o.f3.f2, .string o.f4, .slice A7 o.f5.length c7, .int .i64 o.f6, .int .i64 o.f7, .int .i64 o.f8]] Try.func38 (h:=fun K hK => ?_)
 obtain ⟨o0,o1,o2,o3,o4,o5,o6,o7,o8,o9,o10,b0,k1,k2,gS,gB⟩:=hS
 refine (HMC.out _ gB).mono ?_
 rintro r w' ⟨rfl,hb⟩
 refine ⟨_,rfl, ?_⟩
 refine hK.out _ _ ⟨Qaa hb o0,Qaa hb o1,Qaa hb o2,Qaa hb o3,Qaa hb o4,Qaa hb o5,Qaa hb o6,Qaa hb o7,Qaa hb o8,Qaa hb o9,Qaa hb o10,Qaa hb b0,Qaa hb k1,Qaa hb k2,HLk.out _ (Qal gB hb),Qal gB hb⟩ (fun hS => ?_)
 clear hb hK gS gB o0 o1 o2 o3 o4 o5 o6 o7 o8 o9 o10 b0 k1 k2
 refine nm (h := ?_)
 refine pu HT 2 10 7 (h := ?_)
 refine pu HT 3 11 15 (h := ?_)
 refine pu HT 4 12 31 (h := ?_)
 refine tk HT HW hS 5 13 63 (h := ?_)
 refine tk HT HW hS 6 14 127 (h := ?_)
 refine pu HT 7 15 255 (h := ?_)
 refine pu HT 8 16 511 (h := ?_)
 refine tk HT HW hS 9 17 1023 (h := ?_)
 refine pu HT 10 18 2047 (h := ?_)
 refine tk HT HW hS 11 19 4095 (h := ?_)
 refine tk HT HW hS 12 20 8191 (h := ?_)
 refine pu HT 13 21 16383 (h := ?_)
 refine pu HT 14 22 32767 (h := ?_)
 refine pu HT 15 23 65535 (h := ?_)
 refine pu HT 16 24 131071 (h := ?_)
 cases hq : (o.f1 != wrap64 (z + 1)) with
 | true =>
  refine off HT 17 25 262143 (h := ?_)
  refine off HT 18 26 524287 (h := ?_)
  refine off HT 19 27 1048575 (h := ?_)
  refine off HT 20 28 2097151 (h := ?_)
  refine off HT 21 29 4194303 (h := ?_)
  refine pu HT 22 30 8388607 (h := ?_)
  refine dn HT (h := ?_)
  have HX:=Zz.k hS.2.2.2.2.2.2.2.2.2.2.2.2.2.2.2
  have HQ:=Zz.k (goesB_pre (preB_seq HZ.out hq))
  clear hS hq
  go_wp2
  go_ret
  rw [HQ.out]
  exact ⟨rfl,Qbf.stays HX.out⟩
 | false =>
  refine tk HT HW hS 17 25 262143 (h := ?_)
  refine pu HT 18 26 524287 (h := ?_)
  refine tk HT HW hS 19 27 1048575 (h := ?_)
  refine ca HT 20 (some 28) 2097151 #[.pointer (some ⟨C,0,none⟩), .agg #[.int .i64 o.f3.f0, .int .i64 o.f3.f1, .int .i64 o.f3.f2]] Try.func39 (h:=fun K hK => ?_)
  obtain ⟨o0,o1,o2,o3,o4,o5,o6,o7,o8,o9,o10,b0,k1,k2,gS,gB⟩:=hS
  refine (HWr.out _ gB).mono ?_
  rintro r w'' ⟨rfl,hb⟩
  refine ⟨_,rfl, ?_⟩
  refine hK.out _ _ ⟨Qaa hb o0,Qaa hb o1,Qaa hb o2,Qaa hb o3,Qaa hb o4,Qaa hb o5,Qaa hb o6,Qaa hb o7,Qaa hb o8,Qaa hb o9,Qaa hb o10,Qaa hb b0,Qaa hb k1,Qaa hb k2,HLk.out _ (Qal gB hb),Qal gB hb⟩ (fun hS => ?_)
  clear hb hK gS gB o0 o1 o2 o3 o4 o5 o6 o7 o8 o9 o10 b0 k1 k2 w'
  refine nm (h := ?_)
  refine pu HT 21 29 4194303 (h := ?_)
  refine pu HT 22 30 8388607 (h := ?_)
  refine dn HT (h := ?_)
  obtain ⟨o0,o1,o2,o3,o4,o5,o6,o7,o8,o9,o10,b0,k1,k2,gS,gB⟩:=hS
  have GB:=Zz.k gB
  clear HT HW gS gB
  have HSQ:=Zz.k hq
  clear hq
  cases wa with
  | false =>
   have HQ:=Zz.k (goesB_pre (preB_after HWA.out))
   go_wp2
   go_ret
   rw [HQ.out]
   exact ⟨rfl,Qbf.stays GB.out⟩
  | true =>
   have hcf:=ContainsFuncElem 41 #[.pointer (some ⟨W.heap.size,0,none⟩)] A7 c7 o.f5 (fun i => !wrote s.Sz (Qab o.f5 i)) (fun _ X => Below w''.heap.size w'' X) (fun _ X => Below w''.heap.size w'' X) w''
    (enters_at Try.func41 (by kernel_rfl) (by rfl)) hsm.2 (Below.refl _ _) (fun i X hX => Kd.C_below HR.out (Qal GB.out hX))
    (fun i X hi hX => (goes1_calls W.heap.size C bS n (Qab o.f5 i) s.Sz X (Qaa hX b0) (Qaa (Qal GB.out hX) HCK.out.1) (HCK.out.2.2.2.2.1.below (Qal GB.out hX) lS) (fun hz => opOk_gone HO.out i hi hz)).mono
     (fun e w' h => ⟨h.1,fun _ => Qal hX h.2,fun _ => Qal hX h.2⟩))
   go_wp2_with fail
   refine hcf.mono ?_
   rintro r w5 ⟨rfl,hf⟩
   have hb5 : Below w''.heap.size w'' w5:=by rcases hf with ⟨_,_,_,_,h⟩ | ⟨_,h⟩ <;> exact h
   have HB5:=Zz.k (Qal GB.out hb5)
   have c0:=Qaa hb5 o0; have c1:=Qaa hb5 o1; have c2:=Qaa hb5 o2; have c3:=Qaa hb5 o3; have c4:=Qaa hb5 o4; have c5:=Qaa hb5 o5; have c6:=Qaa hb5 o6; have c7':=Qaa hb5 o7; have c10:=Qaa hb5 o10; have c8:=Qaa hb5 o8; have c9:=Qaa hb5 o9; have d0:=Qaa hb5 b0; have e1:=Qaa hb5 k1; have e2:=Qaa hb5 k2
   clear hf hb5 o0 o1 o2 o3 o4 o5 o6 o7 o8 o9 o10 b0 k1 k2 hcf HWr HMC
   generalize hga : anyAt (fun i => !wrote s.Sz (Qab o.f5 i)) o.f5.length = ga
   have HGA:=Zz.k hga
   clear hga
   cases ga with
   | true =>
    have HQ:=Zz.k (goesB_pre (preB_gone HGA.out))
    go_wp2
    go_ret
    rw [HQ.out]
    exact ⟨rfl,Qbf.stays HB5.out⟩
   | false =>
    have HPR:=Zz.k (preB_yes HO.out HZ.out HSQ.out HWA.out HGA.out)
    have hck5:=HCK.out.below (Qae HB5.out)
    obtain ⟨w6,hrun,hm6,hg6⟩:=hck5.2.2.2.2.2.store lawI Try.underlying56 Try.underlying3 hn encI_inj o.f0 (wrap64 ((s.Ah o.f0).getD 0 + 1)) (wrap64_wf _) (keyI (opOk_name HO.out).1)
    have hck6:=hck5.ahead (o:=o) hne hCA hm6 hg6
    rw [HZ.out] at hrun
    simp only [encI] at hrun
    have HLq:=HLk.out _ (Qae HB5.out)
    have lB : W.heap.size + 1 ≠ bA:=by omega
    have lB0 : W.heap.size ≠ bA:=by omega
    have f0:=Qas hg6 (fun e => lB (Zo e)) c0; have f1:=Qas hg6 (fun e => lB (Zo e)) c1; have f2:=Qas hg6 (fun e => lB (Zo e)) c2; have f6:=Qas hg6 (fun e => lB (Zo e)) c6
    have HCK6:=Zz.k hck6
    have HG6:=Zz.k hg6
    clear hck5 hck6 hg6 hm6 HSQ HWA HGA
    go_wp2
    refine stL (S:=fun w' => w'.cell? ⟨W.heap.size,0,none⟩ = some (.pointer (some ⟨C,0,none⟩)) /\ w'.cell? ⟨C,1,none⟩ = some (.map (some bA)) /\ w'.cell? ⟨W.heap.size + 1,0,none⟩ = some (.int .i64 o.f0) /\ (Instr.lookup 56 (.map (some bA)) (.int .i64 o.f0) false).run Try.prog w' = .ok (.int .i64 z) w')
     [8] 9 t_tree_checker_goes.bits5 t_tree_checker_goes.tab5 (hS:=⟨d0,e2,c0,HLq⟩) (h:=fun hS HT HW => ?_)
    refine tk HT HW hS 0 35 1 (h := ?_)
    refine pu HT 1 36 3 (h := ?_)
    refine pu HT 2 37 7 (h := ?_)
    refine tk HT HW hS 3 38 15 (h := ?_)
    refine pu HT 4 39 31 (h := ?_)
    refine tk HT HW hS 5 40 63 (h := ?_)
    refine tk HT HW hS 6 41 127 (h := ?_)
    refine pu HT 7 42 255 (h := ?_)
    refine mu HT 8 511 w6 (hrun:=hrun) (h := ?_)
    refine dn HT (h := ?_)
    clear HT HW hS HLq
    by_cases hk : o.f2 = 2
    ·have HQ:=Zz.k (goesB_toggle HPR.out hk)
     obtain ⟨i6,i7⟩:=opOk_of HO.out hk
     obtain ⟨kl,hkl⟩:=keyN (x:=(o.f6,o.f7)) i6 i7
     have HLN:=HCK6.out.2.2.2.2.1.lookOk lawN Try.underlying55 Try.underlying3 zeroI (o.f6,o.f7) hkl
     simp only [encN] at HLN
     have HLM : (Instr.lookup 55 (.map (some bS)) (.agg #[.int .i64 o.f6, .int .i64 o.f7]) true).run Try.prog w6.drew = .ok (.tuple #[.int .i64 (((ahead1 s o).Sz (o.f6,o.f7)).getD 0), .bool ((ahead1 s o).Sz (o.f6,o.f7)).isSome]) w6.drew:=by
      have:=(HCK6.out.below (Qae (Below.refl _ w6))).2.2.2.2.1.lookOk lawN Try.underlying55 Try.underlying3 zeroI (o.f6,o.f7) hkl
      simpa only [encN] using this
     have p0:=Qas HG6.out (fun e => lB0 (Zo e)) (show (w5.drew).cell? ⟨W.heap.size,0,none⟩ = _ from d0)
     have p1:=HCK6.out.1
     have p8:=Qas HG6.out (fun e => lB (Zo e)) (show (w5.drew).cell? ⟨W.heap.size + 1,8,none⟩ = _ from c8)
     have p9:=Qas HG6.out (fun e => lB (Zo e)) (show (w5.drew).cell? ⟨W.heap.size + 1,9,none⟩ = _ from c9)
     have hkd : (o.f2 == 2) = true:=by simp [hk]
     have hkd' : decide (o.f2 = 2) = true:=by simp [hk]
     clear hk i6 i7 hkl HLN c0 c1 c2 c3 c4 c5 c6 c7' c8 c9 c10 d0 e1 e2 f0 f1 f6
     generalize hzz : ((ahead1 s o).Sz (o.f6,o.f7)).getD 0 = zz at HLM
     have hyy : (s.Sz (o.f6,o.f7)).isSome = ((ahead1 s o).Sz (o.f6,o.f7)).isSome:=rfl
     generalize ((ahead1 s o).Sz (o.f6,o.f7)).isSome = yy at HLM hyy
     have HYY:=Zz.k hyy
     clear hzz hyy
     go_wp2
     refine stR (S:=fun w' => w'.cell? ⟨W.heap.size,0,none⟩ = some (.pointer (some ⟨C,0,none⟩)) /\ w'.cell? ⟨C,0,none⟩ = some (.map (some bS)) /\ w'.cell? ⟨W.heap.size + 1,8,none⟩ = some (.int .i64 o.f6) /\ w'.cell? ⟨W.heap.size + 1,9,none⟩ = some (.int .i64 o.f7) /\ (Instr.lookup 55 (.map (some bS)) (.agg #[.int .i64 o.f6, .int .i64 o.f7]) true).run Try.prog w' = .ok (.tuple #[.int .i64 zz, .bool yy]) w')
      15 t_tree_checker_goes.bits7 t_tree_checker_goes.tab7 (hS:=⟨p0,p1,p8,p9,HLM⟩) (h:=fun hS HT HW => ?_)
     refine tk HT HW hS 0 47 1 (h := ?_)
     refine pu HT 1 48 3 (h := ?_)
     refine pu HT 2 49 7 (h := ?_)
     refine tk HT HW hS 3 50 15 (h := ?_)
     refine pu HT 4 51 31 (h := ?_)
     refine tk HT HW hS 5 52 63 (h := ?_)
     refine pu HT 6 53 127 (h := ?_)
     refine tk HT HW hS 7 54 255 (h := ?_)
     refine pu HT 8 55 511 (h := ?_)
     refine tk HT HW hS 9 56 1023 (h := ?_)
     refine pu HT 10 46 2047 (h := ?_)
     refine pu HT 11 57 4095 (h := ?_)
     refine pu HT 12 58 8191 (h := ?_)
     refine pu HT 13 5 16383 (h := ?_)
     refine pu HT 14 6 32767 (h := ?_)
     refine dn HT (h := ?_)
     clear HT HW hS
     go_wp2
     go_ret
     rw [HQ.out,HYY.out]
     exact ⟨rfl,(goes_grown (Qae HB5.out) HG6.out _ HCK6.out).below (Qae (Below.refl _ w6)) (fun B _ _ _ h => Nat.le_trans h (Nat.le_trans HB5.out.size HG6.out.size))⟩
    ·have HQ:=Zz.k (goesB_edit HPR.out hk)
     have hkd : (o.f2 == 2) = false:=by simp [hk]
     have hkd' : decide (o.f2 = 2) = false:=by simp [hk]
     have hr6 : Qaw.C w6 A7 o.f5.length o.f5:=C_grown ((HCK.out.below (Qae HB5.out)).2.2.2.2.2) HG6.out (Kd.C_below HR.out (Qae HB5.out))
     have hsz:=op_Size.calls o.f0 o.f1 o.f2 o.f3.f0 o.f3.f1 o.f3.f2 o.f4 A7 c7 o.f5 o.f6 o.f7 o.f8 (Qaj o : Int) w6 hr6 HL.out (op_Size_f o hsm)
     have f3:=Qas HG6.out (fun e => lB (Zo e)) (show (w5.drew).cell? ⟨W.heap.size + 1,3,none⟩ = _ from c3)
     have f4:=Qas HG6.out (fun e => lB (Zo e)) (show (w5.drew).cell? ⟨W.heap.size + 1,4,none⟩ = _ from c4)
     have f5:=Qas HG6.out (fun e => lB (Zo e)) (show (w5.drew).cell? ⟨W.heap.size + 1,5,none⟩ = _ from c5)
     have f7:=Qas HG6.out (fun e => lB (Zo e)) (show (w5.drew).cell? ⟨W.heap.size + 1,7,none⟩ = _ from c7')
     have f8:=Qas HG6.out (fun e => lB (Zo e)) (show (w5.drew).cell? ⟨W.heap.size + 1,8,none⟩ = _ from c8)
     have f9:=Qas HG6.out (fun e => lB (Zo e)) (show (w5.drew).cell? ⟨W.heap.size + 1,9,none⟩ = _ from c9)
     have f10:=Qas HG6.out (fun e => lB (Zo e)) (show (w5.drew).cell? ⟨W.heap.size + 1,10,none⟩ = _ from c10)
     have p0:=Qas HG6.out (fun e => lB0 (Zo e)) (show (w5.drew).cell? ⟨W.heap.size,0,none⟩ = _ from d0)
     clear c0 c1 c2 c3 c4 c5 c6 c7' c8 c9 c10 d0 e1 e2 hk hr6
     have HX6:=Zz.k (Qae HB5.out)
     go_wp2_with fail
     refine hsz.mono ?_
     rintro r w7 ⟨rfl,hb7⟩
     have hM7 : MapN w7.drew bS n s.Sz:=MapK.below (MapK.kept (HCK.out.below (Qae HB5.out)).2.2.2.2.1 HG6.out (fun e => hne (Zo e))) (Qae hb7) (Nat.lt_of_lt_of_le lS (Nat.le_trans HB5.out.size HG6.out.size))
     have hck7:=HCK6.out.below (Qae hb7)
     have hwf : (Lit.int .i64 (Qaj o : Int)).wf = true:=WalkArith.wf_i64 (by have:=opOk_size HO.out; constructor <;> omega)
     obtain ⟨i0,i1⟩:=opOk_name HO.out
     obtain ⟨kl,hkl⟩:=keyN (x:=(o.f0,o.f1)) i0 i1
     obtain ⟨w8,hrun8,hm8,hg8⟩:=hM7.store lawN Try.underlying55 Try.underlying3 hn encN_inj (o.f0,o.f1) (Qaj o : Int) hwf hkl
     simp only [encN] at hrun8
     have lS0 : W.heap.size ≠ bS:=by omega
     have hCS' : some C ≠ some bS:=fun e => hCS (Zo e)
     have p0':=Qaa (Qae hb7) p0
     have t0:=Qaa (Qae hb7) f0
     have t1:=Qaa (Qae hb7) f1
     have p1:=hck7.1
     have q0:=Qas hg8 (fun e => lS0 (Zo e)) p0'
     have q2:=Qas hg8 hCS' hck7.2.2.1
     have q3:=(frozen_grown hg8 (World.block_lt_of_cell? _ _ hck7.2.2.1) hCS').trans hck7.2.2.2.1
     have q1:=Qas hg8 hCS' hck7.1
     have q1':=Qas hg8 hCS' hck7.2.1
     have hm8a : MapS w8 bA (n + 1) (ahead1 s o).Ah:=hck7.2.2.2.2.2.kept hg8 (fun e => hne (Zo e).symm)
     have HM8:=Zz.k hm8
     have HM8a:=Zz.k hm8a
     have HG8:=Zz.k hg8
     have HB7:=Zz.k hb7
     clear hm8 hm8a hg8 hb7 hck7 hM7 hwf i0 i1 hkl f0 f1 f2 f3 f4 f5 f6 f7 f8 f9 f10 p0 hsz hkd hkd'
     have hall : ((ahead1 s o).all) = s.all:=rfl
     rw [hall] at q2
     go_wp2
     refine stL (S:=fun w' => w'.cell? ⟨W.heap.size,0,none⟩ = some (.pointer (some ⟨C,0,none⟩)) /\ w'.cell? ⟨C,0,none⟩ = some (.map (some bS)) /\ w'.cell? ⟨W.heap.size + 1,0,none⟩ = some (.int .i64 o.f0) /\ w'.cell? ⟨W.heap.size + 1,1,none⟩ = some (.int .i64 o.f1))
      [10] 11 t_tree_checker_goes.bits10 t_tree_checker_goes.tab10 (hS:=⟨p0',p1,t0,t1⟩) (h:=fun hS HT HW => ?_)
     refine tk HT HW hS 0 62 1 (h := ?_)
     refine pu HT 1 63 3 (h := ?_)
     refine pu HT 2 64 7 (h := ?_)
     refine tk HT HW hS 3 65 15 (h := ?_)
     refine pu HT 4 66 31 (h := ?_)
     refine tk HT HW hS 5 67 63 (h := ?_)
     refine pu HT 6 68 127 (h := ?_)
     refine tk HT HW hS 7 69 255 (h := ?_)
     refine pu HT 8 70 511 (h := ?_)
     refine pu HT 9 71 1023 (h := ?_)
     refine mu HT 10 2047 w8 (hrun:=hrun8) (h := ?_)
     refine dn HT (h := ?_)
     clear HT HW hS p0' p1 t0 t1 hrun8 hrun
     go_wp2
     go_ret
     rw [HQ.out]
     have hK7 : Kept W w7.drew (Three C bS bA):=((goes_grown (n:=n) HX6.out HG6.out true HCK6.out).2.1.below HB7.out).drew
     have hB7 : ∀ B,B <= C -> B <= bS -> B <= bA -> B <= W.heap.size -> Below B W w7.drew /\ B <= w7.drew.heap.size:=fun B h1 h2 h3 h4 => by
      have hs : B <= w6.heap.size:=Nat.le_trans h4 (Nat.le_trans HX6.out.size HG6.out.size)
      exact ⟨(((goes_grown (n:=n) HX6.out HG6.out true HCK6.out).2.2 B h1 h2 h3 h4).trans (HB7.out.mono hs)).drew,Nat.le_trans hs HB7.out.size⟩
     exact ⟨rfl,goes_noted q1 q1' q2 q3 HM8.out HM8a.out hCS hCA hK7 hB7 HG8.out _⟩
end
section
attribute [local go_sem high] eqAElem
theorem goes_calls (C bS bA n : Nat) (s : CS) (o : SOp) (A7 : Option Addr) (c7 : Nat) (W : World) (hne : bS ≠ bA) (hCS : C ≠ bS) (hCA : C ≠ bA) (hn : n < maxLen) (hck : Chk W C bS bA n s) (hl : o.f5.length <= c7) (hr : Qaw.C W A7 o.f5.length o.f5) (hsm : Sm o) :
  Calls Try.prog 23 #[.pointer (some ⟨C,0,none⟩),opV o A7 c7] W fun r w' => r = .returned (.bool (goesB s o).1) /\ Qbf W C bS bA n (goesB s o) w':=by
 cases ho : opOk o with
 | true => exact goes_yes C bS bA n s o A7 c7 W hne hCS hCA hn hck hl hr hsm ho
 | false =>
  rw [goesB_pre (by unfold preB; rw [ho]; rfl)]
  exact (goes_no C bS bA n s o A7 c7 W hck hl hr hsm ho).mono (fun r w' h => ⟨h.1,Qbf.stays h.2⟩)
def cs0 : CS:=⟨fun _ => none,fun _ => none,0⟩
def st (l : List SOp) : Nat -> CS
 | 0 => cs0
 | i + 1 => (goesB (st l i) (Qar l i)).2
def badAt (l : List SOp) (i : Nat) : Bool:=!(goesB (st l i) (Qar l i)).1
def mayB (l : List SOp) : Bool:=decide (l.length <= 40) && !anyAt (badAt l) l.length
def SmB (o : SOp) : Bool:=decide (o.f4.size < 9223372036854775807) && decide (o.f5.length <= 9223372036854775807)
theorem SmB_Sm {o : SOp} (h : SmB o = true) : Sm o:=by
 unfold SmB at h; simp only [Bool.and_eq_true,decide_eq_true_eq] at h; exact h
def smalls (l : List SOp) : Bool:=decide (l.length <= 9223372036854775807) && l.all SmB
theorem Qax (l : List SOp) (i : Nat) (h : i < l.length) : Qar l (i : Int) = l[i]:=by
 unfold Qar; simp [h]
theorem smalls_at {l : List SOp} (h : smalls l = true) {i : Nat} (hi : i < l.length) : Sm (Qar l i):=by
 unfold smalls at h; simp only [Bool.and_eq_true] at h
 rw [Qax _ _ hi]
 exact SmB_Sm (List.all_eq_true.1 h.2 _ (List.getElem_mem hi))
def tree_May.f (l : List SOp) : Option Bool:=if smalls l = true then some (mayB l) else none
theorem may1_calls (cb C bS bA n : Nat) (s : CS) (o : SOp) (A7 : Option Addr) (c7 : Nat) (W : World) (hcb : W.cell? ⟨cb,0,none⟩ = some (.pointer (some ⟨C,0,none⟩))) (hne : bS ≠ bA) (hCS : C ≠ bS) (hCA : C ≠ bA) (hn : n < maxLen) (hck : Chk W C bS bA n s) (hl : o.f5.length <= c7) (hr : Qaw.C W A7 o.f5.length o.f5) (hsm : Sm o) :
  Calls Try.prog 22 #[opV o A7 c7, .pointer (some ⟨cb,0,none⟩)] W fun r w' => r = .returned (.bool (!(goesB s o).1)) /\ Qbf W C bS bA n (goesB s o) w':=by
 have lb:=World.block_lt_of_cell? W _ hcb
 simp only at lb
 have HW:=Zz.k (fun (W' : World) (hb : Below W.heap.size W W') => goes_calls C bS bA n s o A7 c7 W' hne hCS hCA hn (hck.below hb) hl (Kd.C_below hr hb) hsm)
 unfold opV at HW ⊢
 generalize hg : goesB s o = g at HW ⊢
 have lC:=World.block_lt_of_cell? W _ hck.1
 have HP:=Zz.k (fun (w' w2 : World) (hb : Below W.heap.size W w') (h : Qbf w' C bS bA n g w2) => (⟨h.1,(Kept.of_below hb _).then_ h.2.1 (fun k hk => .inl hk),fun B h1 h2 h3 h4 => (hb.mono h4).trans (h.2.2 B h1 h2 h3 (Nat.le_trans h4 hb.size))⟩ : Qbf W C bS bA n g w2))
 clear hck hr hl hsm hg hne hCS hCA hn
 go_enter Try.func22,Try.ntmps22
 go_wp2_with fail
 refine (HW.out _ ((Below.refl _ _).alloc (Nat.le_refl _) _)).mono ?_
 rintro r w' ⟨rfl,hb⟩
 have HB:=Zz.k (HP.out _ _ ((Below.refl _ _).alloc (Nat.le_refl _) _) hb)
 clear hb
 go_wp2
 go_ret
 exact ⟨rfl,HB.out⟩
theorem mk_run (t : TypeId) (w : World) : (Instr.makeMap t none).run Try.prog w = .ok (.map (some w.heap.size)) (w.alloc (.map #[] 0)):=rfl
attribute [local go_sem] mk_run
def MayI (W : World) (A : Option Addr) (l : List SOp) (cb C bS bA : Nat) (i : Nat) (X : World) : Prop :=
 Chk X C bS bA i (st l i) /\ X.cell? ⟨cb,0,none⟩ = some (.pointer (some ⟨C,0,none⟩)) /\ Below W.heap.size W X
theorem top_cell (w : World) (cs : Array Value) (t : TypeId) (g j : Nat) (hg : w.heap.size = g) : (w.alloc (.cells cs t)).cell? ⟨g,j,none⟩ = cs[j]?:=by subst hg; simp
theorem top_frozen (w : World) (cs : Array Value) (t : TypeId) (g j : Nat) (hg : w.heap.size = g) : (w.alloc (.cells cs t)).frozen? ⟨g,j,none⟩ = false:=by subst hg; simp
theorem MayI.start (w : World) (A : Option Addr) (l : List SOp) : MayI w A l (w.heap.size + 1 + 1 + 1) (w.heap.size + 1 + 1) w.heap.size (w.heap.size + 1) 0
  ((((w.alloc (.map #[] 0)).alloc (.map #[] 0)).alloc (.cells #[.map (some w.heap.size), .map (some (w.heap.size + 1)), .int .i64 0] 58)).alloc (.cells #[.pointer (some ⟨w.heap.size + 1 + 1,0,none⟩)] 54)):=by
 have m1 : MapN (w.alloc (.map #[] 0)) w.heap.size 0 (fun _ => none):=MapK.made _ _ _ _
 have m2 : MapS ((w.alloc (.map #[] 0)).alloc (.map #[] 0)) (w.heap.size + 1) 0 (fun _ => none):=by
  have:=MapK.made encI 3 3 (w.alloc (.map #[] 0)); simpa using this
 have m1':=m1.kept (World.grownBy_alloc _ (.map #[] 0) none) (by simp)
 have hs : ((w.alloc (.map #[] 0)).alloc (.map #[] 0)).heap.size = w.heap.size + 1 + 1:=by simp
 have hb : Below w.heap.size w ((w.alloc (.map #[] 0)).alloc (.map #[] 0)):=Qad (Qad (Below.refl _ _) _) _
 generalize (w.alloc (.map #[] 0)).alloc (.map #[] 0) = w2 at m1' m2 hs hb ⊢
 have m1'':=m1'.kept (World.grownBy_alloc _ (.cells #[.map (some w.heap.size), .map (some (w.heap.size + 1)), .int .i64 0] 58) none) (by simp)
 have m2'':=m2.kept (World.grownBy_alloc _ (.cells #[.map (some w.heap.size), .map (some (w.heap.size + 1)), .int .i64 0] 58) none) (by simp)
 have hc:=fun j => top_cell w2 #[.map (some w.heap.size), .map (some (w.heap.size + 1)), .int .i64 0] 58 _ j hs
 have hf:=fun j => top_frozen w2 #[.map (some w.heap.size), .map (some (w.heap.size + 1)), .int .i64 0] 58 _ j hs
 have hs3 : (w2.alloc (.cells #[.map (some w.heap.size), .map (some (w.heap.size + 1)), .int .i64 0] 58)).heap.size = w.heap.size + 1 + 1 + 1:=by simp [hs]
 have hb3:=Qad hb (.cells #[.map (some w.heap.size), .map (some (w.heap.size + 1)), .int .i64 0] 58)
 generalize w2.alloc (.cells #[.map (some w.heap.size), .map (some (w.heap.size + 1)), .int .i64 0] 58) = w3 at *
 have old : ∀ j,(w3.alloc (.cells #[.pointer (some ⟨w.heap.size + 1 + 1,0,none⟩)] 54)).cell? ⟨w.heap.size + 1 + 1,j,none⟩ = w3.cell? ⟨w.heap.size + 1 + 1,j,none⟩:=fun j => World.cell?_alloc_old _ _ _ (by simp; omega)
 refine ⟨⟨(old 0).trans (hc 0),(old 1).trans (hc 1),(old 2).trans (hc 2), ?_, ?_, ?_⟩, ?_, ?_⟩
 ·exact (frozen_grown (World.grownBy_alloc _ _ none) (by simp; omega) (by simp)).trans (hf 2)
 ·exact m1''.kept (World.grownBy_alloc _ _ none) (by simp)
 ·exact m2''.kept (World.grownBy_alloc _ _ none) (by simp)
 ·exact top_cell w3 _ _ _ 0 hs3
 ·exact Qad hb3 _
theorem tree_May.calls (A0 : Option Addr) (c0 : Nat) (l0 : List (SOp)) (r : Bool) (w : World) (hr0 : Kd.C kOp w A0 l0.length l0) (hc0 : l0.length <= c0) (h : tree_May.f l0 = some r) :
  Calls Try.prog 9 #[.slice A0 l0.length c0] w fun e w' => e = .returned (.bool r) /\ Below w.heap.size w w':=by
 unfold tree_May.f at h
 split at h
 case isFalse => cases h
 rename_i hs
 obtain rfl:=Zo h
 clear h
 by_cases hl : l0.length <= 40
 ·have hcf:=fun (X : World) (cb C bS bA : Nat) (hX : MayI w A0 l0 cb C bS bA 0 X) (h1 : w.heap.size <= cb) (h2 : w.heap.size <= C) (h3 : w.heap.size <= bS) (h4 : w.heap.size <= bA) (hcC : cb ≠ C) (hcS : cb ≠ bS) (hcA : cb ≠ bA) (hne : bS ≠ bA) (hCS : C ≠ bS) (hCA : C ≠ bA) =>
   ContainsFuncOp 22 #[.pointer (some ⟨cb,0,none⟩)] A0 c0 l0 (badAt l0) (MayI w A0 l0 cb C bS bA) (fun _ Y => Below w.heap.size w Y) X
    (enters_at Try.func22 (by kernel_rfl) (by rfl)) (by omega) hX (fun i Y hY => Kd.C_below hr0 hY.2.2)
    (fun i Y A7 c7 hi hY hl7 hr7 => (may1_calls cb C bS bA i (st l0 i) (Qar l0 i) A7 c7 Y hY.2.1 hne hCS hCA (Nat.lt_of_lt_of_le hi (Nat.le_trans hl (by decide))) hY.1 hl7 hr7 (smalls_at hs hi)).mono
     (fun e w' hh => ⟨hh.1,fun hb => hY.2.2.trans (hh.2.2.2 w.heap.size h2 h3 h4 (hY.2.2.size)),fun hb => ⟨hh.2.1 (by simpa [badAt] using hb),cell_kept hY.2.1 hh.2.2.1 (by rintro (e | e | e) <;> simp only at e <;> omega),hY.2.2.trans (hh.2.2.2 w.heap.size h2 h3 h4 (hY.2.2.size))⟩⟩))
  have HCF:=Zz.k hcf
  have hm : mayB l0 = !anyAt (badAt l0) l0.length:=by unfold mayB; simp [hl]
  rw [hm]
  generalize anyAt (badAt l0) l0.length = q at HCF ⊢
  have hlz : (l0.length : Int) <= 40:=by omega
  have hld : decide ((l0.length : Int) <= 40) = true:=Zd hlz
  clear hcf hr0 hm hs
  go_enter Try.func9,Try.ntmps9
  go_wp2_with fail
  refine (HCF.out _ _ _ _ _ (MayI.start w A0 l0) (by omega) (by omega) (by omega) (by omega) (by omega) (by omega) (by omega) (by omega) (by omega) (by omega)).mono ?_
  rintro e w' ⟨rfl,hb⟩
  have hB : Below w.heap.size w w':=by
   rcases hb with ⟨_,_,_,_,h⟩ | ⟨_,_,_,h⟩ <;> exact h
  have HB:=Zz.k hB
  clear hb hB HCF
  go_wp2
  go_ret
  exact ⟨rfl,HB.out⟩
 ·have hm : mayB l0 = false:=by unfold mayB; simp [hl]
  rw [hm]
  have hld : decide ((l0.length : Int) <= 40) = false:=Ze (by omega)
  clear hr0 hm hs
  go_enter Try.func9,Try.ntmps9
  go_wp2_with fail
  go_ret
  exact ⟨rfl,Qad (Qad (Qad (Qad (Below.refl _ _) _) _) _) _⟩
end
section
def at0 (l : List Int) (i : Nat) : Int:=l.getD i 0
def Qbs (l : List Int) (i j : Nat) : List Int:=(l.set i (at0 l j)).set j (at0 l i)
theorem Qam (l : List Int) (i j : Nat) : (Qbs l i j).length = l.length:=by simp [Qbs]
theorem Qbr (l : List Int) (i j k : Nat) (hi : i < l.length) (hj : j < l.length) : at0 (Qbs l i j) k = if k = j then at0 l i else if k = i then at0 l j else at0 l k:=by
 unfold Qbs at0
 simp only [List.getD_eq_getElem?_getD,List.getElem?_set,List.length_set]
 by_cases h1 : j = k
 ·subst h1; simp [hj]
 ·have h1' : ¬ k = j:=fun e => h1 e.symm
  by_cases h2 : i = k
  ·subst h2; simp [h1,h1',hi]
  ·have h2' : ¬ k = i:=fun e => h2 e.symm
   simp [h1,h1',h2,h2']
theorem swapAt_perm (l : List Int) (i j : Nat) (hi : i < l.length) (hj : j < l.length) : (Qbs l i j).Perm l:=by
 have h:=Array.swap_perm (xs:=l.toArray) (i:=i) (j:=j) (by simpa using hi) (by simpa using hj)
 rw [Array.perm_iff_toList_perm] at h
 have e : (l.toArray.swap i j (by simpa using hi) (by simpa using hj)).toList = Qbs l i j:=by
  simp [Array.swap,Qbs,at0,List.getD_eq_getElem?_getD,List.getElem?_eq_getElem hi,List.getElem?_eq_getElem hj]
 rw [e] at h
 simpa using h
def Qcj (l : List Int) (n : Nat) : Prop:=∀ k,0 < k -> k < n -> at0 l k <= at0 l ((k - 1) / 2)
def HeapUp (l : List Int) (n j : Nat) : Prop:=(∀ k,0 < k -> k < n -> k ≠ j -> at0 l k <= at0 l ((k - 1) / 2)) /\ (∀ k,0 < k -> k < n -> (k - 1) / 2 = j -> 0 < j -> at0 l k <= at0 l ((j - 1) / 2))
def HeapDn (l : List Int) (n i : Nat) : Prop:=(∀ k,0 < k -> k < n -> (k - 1) / 2 ≠ i -> at0 l k <= at0 l ((k - 1) / 2)) /\ (∀ k,0 < k -> k < n -> (k - 1) / 2 = i -> 0 < i -> at0 l k <= at0 l ((i - 1) / 2))
theorem Qcj.root {l : List Int} {n : Nat} (h : Qcj l n) : ∀ k,k < n -> at0 l k <= at0 l 0:=by
 intro k
 induction k using Nat.strongRecOn with
 | _ k ih =>
  intro hk
  by_cases h0 : k = 0
  ·subst h0; exact Int.le_refl _
  ·have h1:=h k (by omega) hk
   have h2:=ih ((k - 1) / 2) (by omega) (by omega)
   omega
theorem HeapUp.stop {l : List Int} {n j : Nat} (h : HeapUp l n j) (hj : j = 0 \/ at0 l j <= at0 l ((j - 1) / 2)) : Qcj l n:=by
 intro k h0 hk
 by_cases e : k = j
 ·subst e
  rcases hj with rfl | hj
  ·omega
  ·exact hj
 ·exact h.1 k h0 hk e
theorem HeapUp.step {l : List Int} {n j : Nat} (h : HeapUp l n j) (hn : n <= l.length) (h0 : 0 < j) (hj : j < n) (hlt : at0 l ((j - 1) / 2) < at0 l j) : HeapUp (Qbs l ((j - 1) / 2) j) n ((j - 1) / 2):=by
 have hi : (j - 1) / 2 < l.length:=by omega
 have hjl : j < l.length:=by omega
 have hij : (j - 1) / 2 ≠ j:=by omega
 constructor
 ·intro k hk0 hk hne
  rw [Qbr _ _ _ _ hi hjl,Qbr _ _ _ _ hi hjl]
  by_cases e : k = j
  ·subst e
   simp only [if_true,hij,if_false]
   omega
  ·simp only [e,hne,if_false]
   by_cases e2 : (k - 1) / 2 = j
   ·simp only [e2,if_true]
    exact h.2 k hk0 hk e2 h0
   ·simp only [e2,if_false]
    by_cases e3 : (k - 1) / 2 = (j - 1) / 2
    ·simp only [e3,if_true]
     have:=h.1 k hk0 hk e
     rw [e3] at this
     omega
    ·simp only [e3,if_false]
     exact h.1 k hk0 hk e
 ·intro k hk0 hk hp hpos
  rw [Qbr _ _ _ _ hi hjl,Qbr _ _ _ _ hi hjl]
  have hq : ((j - 1) / 2 - 1) / 2 ≠ j:=by omega
  have hq2 : ((j - 1) / 2 - 1) / 2 ≠ (j - 1) / 2:=by omega
  simp only [hq,hq2,if_false]
  have hpar:=h.1 ((j - 1) / 2) hpos (by omega) hij
  by_cases e : k = j
  ·subst e
   simp only [if_true]
   exact hpar
  ·have e2 : k ≠ (j - 1) / 2:=by omega
   simp only [e,e2,if_false]
   have:=h.1 k hk0 hk e
   rw [hp] at this
   omega
theorem HeapDn.stop {l : List Int} {n i : Nat} (h : HeapDn l n i) (hc : ∀ k,0 < k -> k < n -> (k - 1) / 2 = i -> at0 l k <= at0 l i) : Qcj l n:=by
 intro k h0 hk
 by_cases e : (k - 1) / 2 = i
 ·rw [e]; exact hc k h0 hk e
 ·exact h.1 k h0 hk e
theorem HeapDn.step {l : List Int} {n i j : Nat} (h : HeapDn l n i) (hn : n <= l.length) (hj0 : 0 < j) (hj : j < n) (hp : (j - 1) / 2 = i) (hc : ∀ k,0 < k -> k < n -> (k - 1) / 2 = i -> at0 l k <= at0 l j) (hlt : at0 l i < at0 l j) : HeapDn (Qbs l i j) n j:=by
 have hi : i < l.length:=by omega
 have hjl : j < l.length:=by omega
 have hij : i ≠ j:=by omega
 constructor
 ·intro k hk0 hk hne
  rw [Qbr _ _ _ _ hi hjl,Qbr _ _ _ _ hi hjl]
  simp only [hne,if_false]
  by_cases e3 : (k - 1) / 2 = i
  ·simp only [e3,if_true]
   by_cases e : k = j
   ·subst e; simp only [if_true]; omega
   ·have e2 : k ≠ i:=by omega
    simp only [e,e2,if_false]
    exact hc k hk0 hk e3
  ·simp only [e3,if_false]
   have e : k ≠ j:=by rintro rfl; exact e3 hp
   simp only [e,if_false]
   by_cases e2 : k = i
   ·subst e2
    simp only [if_true]
    exact h.2 j hj0 hj hp hk0
   ·simp only [e2,if_false]
    exact h.1 k hk0 hk e3
 ·intro k hk0 hk hpk hpos
  rw [Qbr _ _ _ _ hi hjl,Qbr _ _ _ _ hi hjl]
  rw [hp]
  have e1 : k ≠ j:=by omega
  have e2 : k ≠ i:=by omega
  simp only [e1,e2,hij,if_false,if_true]
  have:=h.1 k hk0 hk (by omega)
  rw [hpk] at this
  exact this
theorem HeapUp.start {l : List Int} {n : Nat} (h : Qcj l n) (hn : n = l.length) (x : Int) : HeapUp (l ++ [x]) (n + 1) n:=by
 have hat : ∀ k,k < n -> at0 (l ++ [x]) k = at0 l k:=by
  intro k hk; unfold at0; rw [List.getD_eq_getElem?_getD,List.getD_eq_getElem?_getD,List.getElem?_append_left (by omega)]
 constructor
 ·intro k h0 hk hne
  rw [hat k (by omega),hat _ (by omega)]
  exact h k h0 (by omega)
 ·intro k h0 hk hp hpos
  omega
theorem HeapDn.start {l : List Int} {n : Nat} (h : Qcj l (n + 1)) (hn : n + 1 = l.length) : HeapDn (Qbs l 0 n) n 0:=by
 constructor
 ·intro k h0 hk hp
  rw [Qbr _ _ _ _ (by omega) (by omega),Qbr _ _ _ _ (by omega) (by omega)]
  have e1 : k ≠ n:=by omega
  have e2 : k ≠ 0:=by omega
  have e3 : (k - 1) / 2 ≠ n:=by omega
  simp only [e1,e2,e3,hp,if_false]
  exact h k h0 (by omega)
 ·intro k h0 hk hp hpos
  omega
theorem Qcj.take {l : List Int} {n : Nat} (h : Qcj l n) : Qcj (l.take n) n:=by
 have hat : ∀ k,k < n -> at0 (l.take n) k = at0 l k:=by
  intro k hk; unfold at0; simp only [List.getD_eq_getElem?_getD,List.getElem?_take,hk,if_true]
 intro k h0 hk
 rw [hat k hk,hat _ (by omega)]
 exact h k h0 hk
end
end Go.Proofs.Ytlllghajjamdpaa.L
end
