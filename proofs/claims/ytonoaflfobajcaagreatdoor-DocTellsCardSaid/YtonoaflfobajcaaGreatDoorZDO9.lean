/- Part 9 of the proof that for every argument the law DocTells answers true: which elements of any row are visible, its text, how many toggles of any edit count, whether it is effective, any element's rune, and whether any op would be idle, are the page's, or the error is. -/
import Derived.Test.YtonoaflfobajcaaGreatDoorZDO8
import Derived.Laws.IdiomStrings
import Derived.Laws.Cover4
import Derived.ArgAppend
section
namespace Go.Proofs.YtonoaflfobajcaaGreatDoor.L
open Go.RowKit Go.Proofs.YtonoaflfobajcaaGreatDoorW.PrintWords Go.Proofs.YtonoaflfobajcaaGreatDoorW.PrintLast Go.Proofs.YtonoaflfobajcaaGreatDoorW.PrintMore
set_option linter.unusedVariables false
set_option linter.unusedSimpArgs false
set_option maxHeartbeats 40000000
set_option maxRecDepth 1000000
section
def idxE (l : List SElem) (e : SElem) : Int:=Qbd (fun i => decide (Qaa l (i : Int) = e)) l.length l.length 0
theorem eqE_iff (x : SElem) (a b c : Int) : (x.f0 == a && (x.f1 == b && (x.f2 == c))) = decide (x = ⟨a,b,c⟩):=by
 rw [Bool.eq_iff_iff]
 simp only [Bool.and_eq_true,beq_iff_eq,decide_eq_true_eq]
 exact ⟨fun h => SElem.ext3 h.1 h.2.1 h.2.2,fun h => by subst h; exact ⟨rfl,rfl,rfl⟩⟩
theorem At_loop (l : List SElem) (hl : l.length <= 1000000000) (a b c : Int) : ∀ d i,i + d = l.length -> Ev (fun k => r0_At.l0 k l (i : Int) a b c) (Qbd (fun i => decide (Qaa l (i : Int) = ⟨a,b,c⟩)) l.length d i)
 | 0,i,h => Ev.step (f:=fun _ => some (-1)) (fun k => by simp only [r0_At.l0]; rw [if_neg (by omega)]) (Ev.now _)
 | d + 1,i,h => by
  have ih:=At_loop l hl a b c d (i + 1) (by omega)
  unfold Qbd
  rw [if_pos (show i < l.length by omega)]
  by_cases he : Qaa l (i : Int) = ⟨a,b,c⟩
  ·rw [if_pos (by simp [he])]
   refine Ev.step (f:=fun _ => some (i : Int)) (fun k => ?_) (Ev.now _)
   simp only [r0_At.l0,eqE_iff]
   rw [if_pos (by omega),if_pos (by omega),if_pos (by simp [he])]
  ·rw [if_neg (by simp [he])]
   refine Ev.step (fun k => ?_) ih
   simp only [r0_At.l0,eqE_iff]
   rw [if_pos (by omega),if_pos (by omega),if_neg (by simp [he]),Qdc (show i < l.length by omega) (by omega)]
theorem At_ev (l : List SElem) (hl : l.length <= 1000000000) (e : SElem) : Ev (fun k => r0_At.f k l e.f0 e.f1 e.f2) (idxE l e) :=
 At_loop l hl e.f0 e.f1 e.f2 l.length 0 (Nat.zero_add _)
theorem idxE_cases (l : List SElem) (e : SElem) : (∃ i,∃ h : i < l.length,l[i] = e /\ (∀ j (hj : j < i),l[j]'(by omega) ≠ e) /\ idxE l e = (i : Int)) \/ (e ∉ l /\ idxE l e = -1):=by
 unfold idxE
 rcases firstAt_cases (fun i => decide (Qaa l (i : Int) = e)) l.length with ⟨i,h1,h2,h3,h4⟩ | ⟨h1,h2⟩
 ·refine .inl ⟨i,h1, ?_,fun j hj => ?_,h4⟩
  ·rw [Qaq _ _ h1] at h2; simpa using h2
  ·have:=h3 j hj
   rw [Qaq _ _ (by omega)] at this; simpa using this
 ·refine .inr ⟨fun hm => ?_,h2⟩
  obtain ⟨i,hi,rfl⟩:=List.getElem_of_mem hm
  have:=h1 i hi
  rw [Qaq _ _ hi] at this; simp at this
theorem idxE_nonneg (l : List SElem) (e : SElem) : 0 <= idxE l e ↔ e ∈ l:=by
 rcases idxE_cases l e with ⟨i,h,rfl,_,e'⟩ | ⟨hn,e'⟩
 ·rw [e']; exact ⟨fun _ => List.getElem_mem h,fun _ => by omega⟩
 ·rw [e']; exact ⟨fun h => by omega,fun h => absurd h hn⟩
end
section
def uptoR (l : List SOp) (e : SElem) : List SElem:=(Qbz l).filter fun x => decide (x ∈ (ordL l).take (idxE (ordL l) e + 1).toNat)
end
section
def caret_Upto.f (l0 : List (SOp)) (a1_0 : Int) (a1_1 : Int) (a1_2 : Int) : Option (List SElem):=if smalls l0 = true /\ mayB l0 = true then some (uptoR l0 ⟨a1_0,a1_1,a1_2⟩) else none
end
section
attribute [local go_sem] Qbl Qbj Qbp Qbo Qba Qaz Qbk Qbi
attribute [local go_sem high] Qdi
def r4_Written.f (k : Nat) (l0 : List (SOp)) (a1_0 : Int) (a1_1 : Int) (a1_2 : Int) : Option (Bool):=(r4_Begin.f a1_0 a1_1 a1_2).bind fun t395 => (if t395 = true then (some false) else ((r4_written.f k l0 a1_0 a1_1 a1_2).bind fun t396 => (some t396)))
theorem r4_Written.calls (k : Nat) (A0 : Option Addr) (c0 : Nat) (l0 : List (SOp)) (a1_0 : Int) (a1_1 : Int) (a1_2 : Int) (r : Bool) (w : World) (hr0 : Kd.C kOp w A0 l0.length l0) (hc0 : l0.length <= c0) (hT : GT w) (h : r4_Written.f k l0 a1_0 a1_1 a1_2 = some r) :
  Calls Tryz.prog 14 #[.slice A0 l0.length c0, .agg #[.int .i64 a1_0, .int .i64 a1_1, .int .i64 a1_2]] w fun e w' => e = .returned (.bool r) /\ Below w.heap.size w w':=by
 have hu32:=Tryz.underlying32
 have HR0:=Zz.k hr0
 have HC0:=Zz.k hc0
 clear hr0 hc0
 have HB:=Zz.k (Below.refl w.heap.size w)
 unfold r4_Written.f at h; have H:=h
 clear h
 obtain ⟨t395,A3,H⟩:=bE H
 by_cases c4 : t395 = true
 ·subst c4
  rw [if_pos rfl] at H
  obtain rfl:=Zo H
  go_enter Tryz.func14,Tryz.ntmps14
  go_wp2_with (first | ((with_reducible refine Qaf (N:=3) rfl ?_); refine bx 3 #[.int .i64 a1_0, .int .i64 a1_1, .int .i64 a1_2] 32 (h := ?_); intro gb394 hg w5 hbox hb; have BK394:=Zz.k (hbox); have GW394:=bz HB hg; have GE394:=bz HB hg; replace HB:=bs HB hb; clear hb hbox hg; obtain ⟨_,_,_,_,_,_⟩:=kc3 BK394) | ((with_reducible refine Qac (f:=47) rfl ?_); refine gl (some 6) Tryz.func47 #[.agg #[.int .i64 a1_0, .int .i64 a1_1, .int .i64 a1_2]] (h := ?_); (with_reducible refine (r4_Begin.calls a1_0 a1_1 a1_2 true _ A3.out).mono ?_); rintro e w7 ⟨rfl,hb⟩; refine ⟨_,rfl, ?_⟩; replace BK394:=bl BK394 hb; replace HB:=bs HB hb; clear hb))
  go_ret
  exact ⟨re,bw HB⟩
 replace c4:=Zf c4
 subst c4
 rw [if_neg nft] at H
 obtain ⟨t396,A8,H⟩:=bE H
 obtain rfl:=Zo H
 go_enter Tryz.func14,Tryz.ntmps14
 go_wp2_with (first | ((with_reducible refine Qaf (N:=3) rfl ?_); refine bx 3 #[.int .i64 a1_0, .int .i64 a1_1, .int .i64 a1_2] 32 (h := ?_); intro gb394 hg w9 hbox hb; have BK394:=Zz.k (hbox); have GW394:=bz HB hg; have GE394:=bz HB hg; replace HB:=bs HB hb; clear hb hbox hg; obtain ⟨_,_,_,_,_,_⟩:=kc3 BK394) | ((with_reducible refine Qac (f:=47) rfl ?_); refine gl (some 6) Tryz.func47 #[.agg #[.int .i64 a1_0, .int .i64 a1_1, .int .i64 a1_2]] (h := ?_); (with_reducible refine (r4_Begin.calls a1_0 a1_1 a1_2 false _ A3.out).mono ?_); rintro e w11 ⟨rfl,hb⟩; refine ⟨_,rfl, ?_⟩; replace BK394:=bl BK394 hb; replace HB:=bs HB hb; clear hb; obtain ⟨_,_,_,_,_,_⟩:=kc3 BK394) | (go_at_call 48; (with_reducible refine (r4_written.calls k _ _ l0 a1_0 a1_1 a1_2 t396 _ ?side1 ?side2 ?side3 A8.out).mono ?_); (case side1 => exact cb HR0 HB); (case side2 => exact HC0.out); (case side3 => exact (hT.below (bw HB))); rintro e w13 ⟨rfl,hb⟩; replace BK394:=bl BK394 hb; replace HB:=bs HB hb; clear hb))
 go_ret
 exact ⟨re,bw HB⟩
def r9_Place.l0 : Nat -> List (SElem) -> List (SElem) -> Int -> Int -> Int -> Int -> Int -> Option (Int)
 | 0,_,_,_,_,_,_,_ => none
 | k + 1,x5,x6,x7,x8,x398000,x398001,x398002 => (r0_At.f k x6 x398000 x398001 x398002).bind fun t405 => (if x8 <= t405 then (if 0 <= x8 then (if x8 < (x6.length : Int) then ((r0_At.f k x5 ((Qaa x6 x8).f0) ((Qaa x6 x8).f1) ((Qaa x6 x8).f2)).bind fun t407 => (if t407 >= 0 then (r9_Place.l0 k x5 x6 (wrap64 (x7 + 1)) (wrap64 (x8 + 1)) x398000 x398001 x398002) else (r9_Place.l0 k x5 x6 x7 (wrap64 (x8 + 1)) x398000 x398001 x398002))) else (none)) else (none)) else (some x7))
def r9_Place.f (k : Nat) (l0 : List (SOp)) (a1_0 : Int) (a1_1 : Int) (a1_2 : Int) : Option (Int):=(r4_Begin.f a1_0 a1_1 a1_2).bind fun t398 => (if t398 = true then (some 0) else ((r4_Visible.f k l0).bind fun t399 => ((r4_Order.f k l0).bind fun t402 => (r9_Place.l0 k t399 t402 0 0 a1_0 a1_1 a1_2))))
theorem r9_Place.calls (k : Nat) (A0 : Option Addr) (c0 : Nat) (l0 : List (SOp)) (a1_0 : Int) (a1_1 : Int) (a1_2 : Int) (r : Int) (w : World) (hr0 : Kd.C kOp w A0 l0.length l0) (hc0 : l0.length <= c0) (hT : GT w) (h : r9_Place.f k l0 a1_0 a1_1 a1_2 = some r) :
  Calls Tryz.prog 15 #[.slice A0 l0.length c0, .agg #[.int .i64 a1_0, .int .i64 a1_1, .int .i64 a1_2]] w fun e w' => e = .returned (.int .i64 r) /\ Below w.heap.size w w':=by
 have hu32:=Tryz.underlying32
 have HR0:=Zz.k hr0
 have HC0:=Zz.k hc0
 clear hr0 hc0
 have HB:=Zz.k (Below.refl w.heap.size w)
 unfold r9_Place.f at h; have H:=h
 clear h
 obtain ⟨t398,A3,H⟩:=bE H
 by_cases c4 : t398 = true
 ·subst c4
  rw [if_pos rfl] at H
  obtain rfl:=Zo H
  go_enter Tryz.func15,Tryz.ntmps15
  go_wp2_with (first | ((with_reducible refine Qaf (N:=3) rfl ?_); refine bx 3 #[.int .i64 a1_0, .int .i64 a1_1, .int .i64 a1_2] 32 (h := ?_); intro gb397 hg w5 hbox hb; have BK397:=Zz.k (hbox); have GW397:=bz HB hg; have GE397:=bz HB hg; replace HB:=bs HB hb; clear hb hbox hg; obtain ⟨_,_,_,_,_,_⟩:=kc3 BK397) | ((with_reducible refine Qac (f:=47) rfl ?_); refine gl (some 10) Tryz.func47 #[.agg #[.int .i64 a1_0, .int .i64 a1_1, .int .i64 a1_2]] (h := ?_); (with_reducible refine (r4_Begin.calls a1_0 a1_1 a1_2 true _ A3.out).mono ?_); rintro e w7 ⟨rfl,hb⟩; refine ⟨_,rfl, ?_⟩; replace BK397:=bl BK397 hb; replace HB:=bs HB hb; clear hb))
  go_ret
  exact ⟨re,bw HB⟩
 replace c4:=Zf c4
 subst c4
 rw [if_neg nft] at H
 obtain ⟨t399,A8,H⟩:=bE H
 obtain ⟨t402,A9,H⟩:=bE H
 have H':=Zz.k H
 clear H
 go_enter Tryz.func15,Tryz.ntmps15
 go_wp2_with (first | ((with_reducible refine Qaf (N:=3) rfl ?_); refine bx 3 #[.int .i64 a1_0, .int .i64 a1_1, .int .i64 a1_2] 32 (h := ?_); intro gb397 hg w10 hbox hb; have BK397:=Zz.k (hbox); have GW397:=bz HB hg; have GE397:=bz HB hg; replace HB:=bs HB hb; clear hb hbox hg; obtain ⟨_,_,_,_,_,_⟩:=kc3 BK397) | ((with_reducible refine Qac (f:=47) rfl ?_); refine gl (some 10) Tryz.func47 #[.agg #[.int .i64 a1_0, .int .i64 a1_1, .int .i64 a1_2]] (h := ?_); (with_reducible refine (r4_Begin.calls a1_0 a1_1 a1_2 false _ A3.out).mono ?_); rintro e w12 ⟨rfl,hb⟩; refine ⟨_,rfl, ?_⟩; replace BK397:=bl BK397 hb; replace HB:=bs HB hb; clear hb) | ((with_reducible refine Qac (f:=21) rfl ?_); refine gl (some 12) Tryz.func21 #[.slice A0 l0.length c0] (h := ?_); (with_reducible refine (r4_Visible.calls k _ _ l0 t399 _ ?side1 ?side2 ?side3 A8.out).mono ?_); (case side1 => exact cb HR0 HB); (case side2 => exact HC0.out); (case side3 => exact (hT.below (bw HB))); rintro e w13 ⟨v400,rfl,ho0,hb⟩; refine ⟨_,rfl, ?_⟩; have HO401:=Zz.k (Kd.R_lower (Kd.R_newB ho0 (kk BK397)) (Qaj (bw HB))); replace BK397:=bl BK397 hb; replace HB:=bs HB hb; clear hb; clear ho0) | ((with_reducible refine Qac (f:=49) rfl ?_); refine gl (some 14) Tryz.func49 #[.slice A0 l0.length c0] (h := ?_); (with_reducible refine (r4_Order.calls k _ _ l0 t402 _ ?side1 ?side2 ?side3 A9.out).mono ?_); (case side1 => exact cb HR0 HB); (case side2 => exact HC0.out); (case side3 => exact (hT.below (bw HB))); rintro e w14 ⟨v403,rfl,ho0,hb⟩; refine ⟨_,rfl, ?_⟩; have HO404:=Zz.k (Kd.R_lower (Kd.R_newB (Kd.R_new' ho0 (Kd.R_lt (rk HO401))) (kk BK397)) (Qaj (bw HB))); replace HO401:=Zz.k (Kd.R_elder' (rk HO401) (Kd.R_base ho0) hb); replace BK397:=bl BK397 hb; replace HB:=bs HB hb; clear hb; clear ho0))
 go_loopg [7,8] k (fun kq v7 v8 w' => ∃ (x7_1 : Int) (x8_1 : Int),v7 = .int .i64 x7_1 /\ v8 = .int .i64 x8_1 /\ Zz (r9_Place.l0 kq t399 t402 x7_1 x8_1 a1_0 a1_1 a1_2 = some r) /\ Zz (kq <= k) /\ Zz (Kd.R Qao 32 w' w.heap.size (fun k_ => some k_ ≠ (v403 : Value).ownBlock /\ k_ ≠ gb397) v400 t399) /\ Zz (Kd.R Qao 32 w' w.heap.size (fun k_ => some k_ ≠ (v400 : Value).ownBlock /\ k_ ≠ gb397) v403 t402) /\ Zz (w'.heap[gb397]? = some (.cells #[.int .i64 a1_0, .int .i64 a1_1, .int .i64 a1_2] 32 (0,0))) /\ Zz (Below w.heap.size w w'))
 case atStart => exact ⟨(0),(0),rf,rf,H',⟨Nat.le_refl _⟩,⟨by (with_reducible repeat (first | apply Kd.R_alloc | apply Kd.R_drewN | apply Kd.R_drew)); exact Kd.R_mono HO401.out (fun _ hk => ⟨hk.2,hk.1.2⟩)⟩,⟨by (with_reducible repeat (first | apply Kd.R_alloc | apply Kd.R_drewN | apply Kd.R_drew)); exact Kd.R_mono HO404.out (fun _ hk => ⟨hk.1.2,hk.2⟩)⟩,⟨kk BK397⟩,⟨bw HB⟩⟩
 case round =>
  clear H'
  try clear c4
  obtain ⟨x7_1,x8_1,rfl,rfl,HA,HK1,HO_5,HO_6,BK397,HB⟩:=hrel
  cases gk with
  | zero => exact absurd HA.out (by simp [r9_Place.l0])
  | succ k1 =>
   have H:=HA.out
   clear HA
   simp only [r9_Place.l0] at H
   obtain ⟨t405,A15,H⟩:=bE H
   by_cases c16 : x8_1 <= t405; rotate_left
   ·rw [if_neg c16] at H
    have c16b0:=Ze c16
    clear c16
    obtain rfl:=Zo H
    obtain ⟨_,_,_,_,_,_⟩:=kc3 BK397
    obtain ⟨Ao32,co32,eo32⟩:=Kd.R_slice HO_6.out
    subst eo32
    go_wp2_with (first | ((with_reducible refine Qac (f:=50) rfl ?_); refine gl (some 18) Tryz.func50 #[.slice Ao32 t402.length co32, .agg #[.int .i64 a1_0, .int .i64 a1_1, .int .i64 a1_2]] (h := ?_); (with_reducible refine (r0_At.calls k1 _ _ t402 a1_0 a1_1 a1_2 t405 _ ?side1 ?side2 A15.out).mono ?_); (case side1 => exact cr HO_6); (case side2 => exact (Kd.R_reads' HO_6.out).2.1); rintro e w33 ⟨rfl,hb⟩; refine ⟨_,rfl, ?_⟩; replace HO_5:=rb HO_5 hb; replace HO_6:=rb HO_6 hb; replace BK397:=bl BK397 hb; replace HB:=bs HB hb; clear hb))
    go_ret
    exact ⟨re,bw HB⟩
   rw [if_pos c16] at H
   have c16b0:=Zd c16
   clear c16
   by_cases c17 : 0 <= x8_1; rotate_left
   ·rw [if_neg c17] at H
    exact absurd H (by simp)
   rw [if_pos c17] at H
   have c17b0:=Zd c17
   clear c17
   by_cases c18 : x8_1 < (t402.length : Int); rotate_left
   ·rw [if_neg c18] at H
    exact absurd H (by simp)
   rw [if_pos c18] at H
   have c18b0:=Zd c18
   clear c18
   obtain ⟨t407,A19,H⟩:=bE H
   by_cases c20 : t407 >= 0
   ·rw [if_pos c20] at H
    have c20b0:=Zd c20
    clear c20
    have H':=Zz.k H
    clear H
    obtain ⟨_,_,_,_,_,_⟩:=kc3 BK397
    obtain ⟨Ao22,co22,eo22⟩:=Kd.R_slice HO_6.out
    subst eo22
    go_wp2_with (first | ((with_reducible refine Qac (f:=50) rfl ?_); refine gl (some 18) Tryz.func50 #[.slice Ao22 t402.length co22, .agg #[.int .i64 a1_0, .int .i64 a1_1, .int .i64 a1_2]] (h := ?_); (with_reducible refine (r0_At.calls k1 _ _ t402 a1_0 a1_1 a1_2 t405 _ ?side1 ?side2 A15.out).mono ?_); (case side1 => exact cr HO_6); (case side2 => exact (Kd.R_reads' HO_6.out).2.1); rintro e w23 ⟨rfl,hb⟩; refine ⟨_,rfl, ?_⟩; replace HO_5:=rb HO_5 hb; replace HO_6:=rb HO_6 hb; replace BK397:=bl BK397 hb; replace HB:=bs HB hb; clear hb; have p406 : 0 <= (x8_1 : Int):=od; have q406 : x8_1 < (t402.length : Int):=od; obtain ⟨ad406,e406,hx406_0,hx406_1,hx406_2⟩:=Qat (Kd.R_reads' HO_6.out).2.2 x8_1 p406 q406; cases e406; replace p406:=eq_true p406; replace q406:=eq_true q406; obtain ⟨Ao24,co24,eo24⟩:=Kd.R_slice HO_5.out; subst eo24) | ((with_reducible refine Qac (f:=50) rfl ?_); refine gl (some 27) Tryz.func50 #[.slice Ao24 t399.length co24, .agg #[.int .i64 ((Qaa t402 x8_1).f0), .int .i64 ((Qaa t402 x8_1).f1), .int .i64 ((Qaa t402 x8_1).f2)]] (h := ?_); (with_reducible refine (r0_At.calls k1 _ _ t399 ((Qaa t402 x8_1).f0) ((Qaa t402 x8_1).f1) ((Qaa t402 x8_1).f2) t407 _ ?side1 ?side2 A19.out).mono ?_); (case side1 => exact cr HO_5); (case side2 => exact (Kd.R_reads' HO_5.out).2.1); rintro e w25 ⟨rfl,hb⟩; refine ⟨_,rfl, ?_⟩; replace HO_5:=rb HO_5 hb; replace HO_6:=rb HO_6 hb; replace BK397:=bl BK397 hb; replace HB:=bs HB hb; clear hb))
    go_roundg k1
    case measure => have:=HK1.out; omega
    case rel => exact ⟨(wrap64 (x7_1 + 1)),(wrap64 (x8_1 + 1)),rf,rf,H',⟨by have:=HK1.out; omega⟩,⟨rk HO_5⟩,⟨rk HO_6⟩,⟨kk BK397⟩,⟨bw HB⟩⟩
   rw [if_neg c20] at H
   have c20b0:=Ze c20
   clear c20
   have H':=Zz.k H
   clear H
   obtain ⟨_,_,_,_,_,_⟩:=kc3 BK397
   obtain ⟨Ao27,co27,eo27⟩:=Kd.R_slice HO_6.out
   subst eo27
   go_wp2_with (first | ((with_reducible refine Qac (f:=50) rfl ?_); refine gl (some 18) Tryz.func50 #[.slice Ao27 t402.length co27, .agg #[.int .i64 a1_0, .int .i64 a1_1, .int .i64 a1_2]] (h := ?_); (with_reducible refine (r0_At.calls k1 _ _ t402 a1_0 a1_1 a1_2 t405 _ ?side1 ?side2 A15.out).mono ?_); (case side1 => exact cr HO_6); (case side2 => exact (Kd.R_reads' HO_6.out).2.1); rintro e w28 ⟨rfl,hb⟩; refine ⟨_,rfl, ?_⟩; replace HO_5:=rb HO_5 hb; replace HO_6:=rb HO_6 hb; replace BK397:=bl BK397 hb; replace HB:=bs HB hb; clear hb; have p406 : 0 <= (x8_1 : Int):=od; have q406 : x8_1 < (t402.length : Int):=od; obtain ⟨ad406,e406,hx406_0,hx406_1,hx406_2⟩:=Qat (Kd.R_reads' HO_6.out).2.2 x8_1 p406 q406; cases e406; replace p406:=eq_true p406; replace q406:=eq_true q406; obtain ⟨Ao29,co29,eo29⟩:=Kd.R_slice HO_5.out; subst eo29) | ((with_reducible refine Qac (f:=50) rfl ?_); refine gl (some 27) Tryz.func50 #[.slice Ao29 t399.length co29, .agg #[.int .i64 ((Qaa t402 x8_1).f0), .int .i64 ((Qaa t402 x8_1).f1), .int .i64 ((Qaa t402 x8_1).f2)]] (h := ?_); (with_reducible refine (r0_At.calls k1 _ _ t399 ((Qaa t402 x8_1).f0) ((Qaa t402 x8_1).f1) ((Qaa t402 x8_1).f2) t407 _ ?side1 ?side2 A19.out).mono ?_); (case side1 => exact cr HO_5); (case side2 => exact (Kd.R_reads' HO_5.out).2.1); rintro e w30 ⟨rfl,hb⟩; refine ⟨_,rfl, ?_⟩; replace HO_5:=rb HO_5 hb; replace HO_6:=rb HO_6 hb; replace BK397:=bl BK397 hb; replace HB:=bs HB hb; clear hb))
   go_roundg k1
   case measure => have:=HK1.out; omega
   case rel => exact ⟨(x7_1),(wrap64 (x8_1 + 1)),rf,rf,H',⟨by have:=HK1.out; omega⟩,⟨rk HO_5⟩,⟨rk HO_6⟩,⟨kk BK397⟩,⟨bw HB⟩⟩
def r0_EqElems.l0 : Nat -> List (SElem) -> List (SElem) -> Int -> Option (Bool)
 | 0,_,_,_ => none
 | k + 1,x0,x1,x5 => if x5 < (x0.length : Int) then (if 0 <= x5 then (if x5 < (x1.length : Int) then (if (!(((Qaa x0 x5).f0) == ((Qaa x1 x5).f0)) || (!(((Qaa x0 x5).f1) == ((Qaa x1 x5).f1)) || (!(((Qaa x0 x5).f2) == ((Qaa x1 x5).f2))))) = true then (some false) else (r0_EqElems.l0 k x0 x1 (wrap64 (x5 + 1)))) else (none)) else (none)) else (some true)
def r0_EqElems.f (k : Nat) (l0 : List (SElem)) (l1 : List (SElem)) : Option (Bool):=if (l0.length : Int) = (l1.length : Int) then (r0_EqElems.l0 k l0 l1 0) else (some false)
theorem r0_EqElems.calls (k : Nat) (A0 : Option Addr) (c0 : Nat) (l0 : List (SElem)) (A1 : Option Addr) (c1 : Nat) (l1 : List (SElem)) (r : Bool) (w : World) (hr0 : Kd.C Qao w A0 l0.length l0) (hc0 : l0.length <= c0) (hr1 : Kd.C Qao w A1 l1.length l1) (hc1 : l1.length <= c1) (h : r0_EqElems.f k l0 l1 = some r) :
  Calls Tryz.prog 24 #[.slice A0 l0.length c0, .slice A1 l1.length c1] w fun e w' => e = .returned (.bool r) /\ Drawn0 w w':=by
 have hu32:=Tryz.underlying32
 have HR0:=Zz.k hr0
 have HC0:=Zz.k hc0
 clear hr0 hc0
 have HR1:=Zz.k hr1
 have HC1:=Zz.k hc1
 clear hr1 hc1
 unfold r0_EqElems.f at h; have H:=h
 clear h
 by_cases c3 : (l0.length : Int) = (l1.length : Int); rotate_left
 ·rw [if_neg c3] at H
  obtain ⟨c3b0,c3b1⟩:=bF c3
  have c3b2 : (l0.length == l1.length) = false:=by first | simpa using c3 | (simp at c3 ⊢; omega)
  obtain rfl:=Zo H
  go_enter Tryz.func24,Tryz.ntmps24
  go_wp2
  repeat (go_quiet (fail); try go_wp2)
  go_ret
  exact ⟨rf,by repeat (first | exact Drawn0.refl _ | apply Drawn0.step)⟩
 rw [if_pos c3] at H
 obtain ⟨c3b0,c3b1⟩:=bT c3
 have c3b2 : (l0.length == l1.length) = true:=by first | simpa using c3 | (simp at c3 ⊢; omega)
 clear c3
 have H':=Zz.k H
 clear H
 go_enter Tryz.func24,Tryz.ntmps24
 go_wp2
 repeat (go_quiet (fail); try go_wp2)
 go_loopg [5] k (fun kq v5 w' => ∃ (x5_1 : Int),v5 = .int .i64 x5_1 /\ Zz (r0_EqElems.l0 kq l0 l1 x5_1 = some r) /\ Zz (kq <= k) /\ Drawn0 w w')
 case atStart => exact ⟨(0),rf,H',⟨Nat.le_refl _⟩,by repeat (first | exact Drawn0.refl _ | apply Drawn0.step)⟩
 case round =>
  clear H'
  try clear c1; try clear c3b0; try clear c3b1; try clear c3b2
  obtain ⟨x5_1,rfl,HA,HK1,⟨m1,rfl⟩⟩:=hrel
  cases gk with
  | zero => exact absurd HA.out (by simp [r0_EqElems.l0])
  | succ k1 =>
   have H:=HA.out
   clear HA
   simp only [r0_EqElems.l0] at H
   by_cases c4 : x5_1 < (l0.length : Int); rotate_left
   ·rw [if_neg c4] at H
    have c4b0:=Ze c4
    clear c4
    obtain rfl:=Zo H
    go_wp2
    repeat (go_quiet (fail); try go_wp2)
    go_ret
    exact ⟨rf,by repeat (first | exact Drawn0.refl _ | apply Drawn0.step)⟩
   rw [if_pos c4] at H
   have c4b0:=Zd c4
   clear c4
   by_cases c5 : 0 <= x5_1; rotate_left
   ·rw [if_neg c5] at H
    exact absurd H (by simp)
   rw [if_pos c5] at H
   have c5b0:=Zd c5
   clear c5
   by_cases c6 : x5_1 < (l1.length : Int); rotate_left
   ·rw [if_neg c6] at H
    exact absurd H (by simp)
   rw [if_pos c6] at H
   have c6b0:=Zd c6
   clear c6
   by_cases c7 : (!(((Qaa l0 x5_1).f0) == ((Qaa l1 x5_1).f0)) || (!(((Qaa l0 x5_1).f1) == ((Qaa l1 x5_1).f1)) || (!(((Qaa l0 x5_1).f2) == ((Qaa l1 x5_1).f2))))) = true
   ·rw [if_pos c7] at H
    have c7b0 : (!(((Qaa l0 x5_1).f0) == ((Qaa l1 x5_1).f0)) || (!(((Qaa l0 x5_1).f1) == ((Qaa l1 x5_1).f1)) || (!(((Qaa l0 x5_1).f2) == ((Qaa l1 x5_1).f2))))) = true:=c7
    clear c7
    obtain rfl:=Zo H
    have p415 : 0 <= (x5_1 : Int):=od
    have q415 : x5_1 < (l0.length : Int):=od
    obtain ⟨ad415,e415,hx415_0,hx415_1,hx415_2⟩:=Qat HR0.out x5_1 p415 q415
    cases e415
    replace p415:=eq_true p415
    replace q415:=eq_true q415
    have p416 : 0 <= (x5_1 : Int):=od
    have q416 : x5_1 < (l1.length : Int):=od
    obtain ⟨ad416,e416,hx416_0,hx416_1,hx416_2⟩:=Qat HR1.out x5_1 p416 q416
    cases e416
    replace p416:=eq_true p416
    replace q416:=eq_true q416
    go_wp2
    repeat (go_quiet (fail); try go_wp2)
    go_ret
    exact ⟨rf,by repeat (first | exact Drawn0.refl _ | apply Drawn0.step)⟩
   rw [if_neg c7] at H
   have c7b0 : (!(((Qaa l0 x5_1).f0) == ((Qaa l1 x5_1).f0)) || (!(((Qaa l0 x5_1).f1) == ((Qaa l1 x5_1).f1)) || (!(((Qaa l0 x5_1).f2) == ((Qaa l1 x5_1).f2))))) = false:=by simpa using c7
   clear c7
   have H':=Zz.k H
   clear H
   have p415 : 0 <= (x5_1 : Int):=od
   have q415 : x5_1 < (l0.length : Int):=od
   obtain ⟨ad415,e415,hx415_0,hx415_1,hx415_2⟩:=Qat HR0.out x5_1 p415 q415
   cases e415
   replace p415:=eq_true p415
   replace q415:=eq_true q415
   have p416 : 0 <= (x5_1 : Int):=od
   have q416 : x5_1 < (l1.length : Int):=od
   obtain ⟨ad416,e416,hx416_0,hx416_1,hx416_2⟩:=Qat HR1.out x5_1 p416 q416
   cases e416
   replace p416:=eq_true p416
   replace q416:=eq_true q416
   go_wp2
   repeat (go_quiet (fail); try go_wp2)
   go_roundg k1
   case measure => have:=HK1.out; omega
   case rel => exact ⟨(wrap64 (x5_1 + 1)),rf,H',⟨by have:=HK1.out; omega⟩,by repeat (first | exact Drawn0.refl _ | apply Drawn0.step)⟩
def r0_EqOp.f (k : Nat) (a0_0 : Int) (a0_1 : Int) (a0_2 : Int) (a0_3 : Int) (a0_4 : Int) (a0_5 : Int) (a0_6 : ByteArray) (l0_7 : List (SElem)) (a0_8 : Int) (a0_9 : Int) (a0_10 : Int) (a1_0 : Int) (a1_1 : Int) (a1_2 : Int) (a1_3 : Int) (a1_4 : Int) (a1_5 : Int) (a1_6 : ByteArray) (l1_7 : List (SElem)) (a1_8 : Int) (a1_9 : Int) (a1_10 : Int) : Option (Bool):=if a0_0 = a1_0 then (if a0_1 = a1_1 then (if a0_2 = a1_2 then (if (a0_3 == a1_3 && (a0_4 == a1_4 && (a0_5 == a1_5))) = true then (if a0_6.toList = a1_6.toList then ((r0_EqElems.f k l0_7 l1_7).bind fun t419 => (if t419 = true then (if a0_8 = a1_8 then (if a0_9 = a1_9 then (some (a0_10 == a1_10)) else (some false)) else (some false)) else (some false))) else (some false)) else (some false)) else (some false)) else (some false)) else (some false)
theorem r0_EqOp.calls (k : Nat) (a0_0 : Int) (a0_1 : Int) (a0_2 : Int) (a0_3 : Int) (a0_4 : Int) (a0_5 : Int) (a0_6 : ByteArray) (A0_7 : Option Addr) (c0_7 : Nat) (l0_7 : List (SElem)) (a0_8 : Int) (a0_9 : Int) (a0_10 : Int) (a1_0 : Int) (a1_1 : Int) (a1_2 : Int) (a1_3 : Int) (a1_4 : Int) (a1_5 : Int) (a1_6 : ByteArray) (A1_7 : Option Addr) (c1_7 : Nat) (l1_7 : List (SElem)) (a1_8 : Int) (a1_9 : Int) (a1_10 : Int) (r : Bool) (w : World) (hr0_7 : Kd.C Qao w A0_7 l0_7.length l0_7) (hc0_7 : l0_7.length <= c0_7) (hr1_7 : Kd.C Qao w A1_7 l1_7.length l1_7) (hc1_7 : l1_7.length <= c1_7) (h : r0_EqOp.f k a0_0 a0_1 a0_2 a0_3 a0_4 a0_5 a0_6 l0_7 a0_8 a0_9 a0_10 a1_0 a1_1 a1_2 a1_3 a1_4 a1_5 a1_6 l1_7 a1_8 a1_9 a1_10 = some r) :
  Calls Tryz.prog 51 #[.agg #[.int .i64 a0_0, .int .i64 a0_1, .int .i64 a0_2, .int .i64 a0_3, .int .i64 a0_4, .int .i64 a0_5, .string a0_6, .slice A0_7 l0_7.length c0_7, .int .i64 a0_8, .int .i64 a0_9, .int .i64 a0_10], .agg #[.int .i64 a1_0, .int .i64 a1_1, .int .i64 a1_2, .int .i64 a1_3, .int .i64 a1_4, .int .i64 a1_5, .string a1_6, .slice A1_7 l1_7.length c1_7, .int .i64 a1_8, .int .i64 a1_9, .int .i64 a1_10]] w fun e w' => e = .returned (.bool r) /\ Below w.heap.size w w':=by
 have hu64:=Tryz.underlying64
 have hu32:=Tryz.underlying32
 have HR0_7:=Zz.k hr0_7
 have HC0_7:=Zz.k hc0_7
 clear hr0_7 hc0_7
 have HR1_7:=Zz.k hr1_7
 have HC1_7:=Zz.k hc1_7
 clear hr1_7 hc1_7
 have HB:=Zz.k (Below.refl w.heap.size w)
 unfold r0_EqOp.f at h; have H:=h
 clear h
 by_cases c3 : a0_0 = a1_0; rotate_left
 ·rw [if_neg c3] at H
  obtain ⟨c3b0,c3b1⟩:=bF c3
  obtain rfl:=Zo H
  go_enter Tryz.func51,Tryz.ntmps51
  go_wp2_with (first | ((with_reducible refine Qaf (N:=2) rfl ?_); refine bx 2 #[.int .i64 a0_0, .int .i64 a0_1, .int .i64 a0_2, .int .i64 a0_3, .int .i64 a0_4, .int .i64 a0_5, .string a0_6, .slice A0_7 l0_7.length c0_7, .int .i64 a0_8, .int .i64 a0_9, .int .i64 a0_10] 64 (h := ?_); intro gb417 hg w52 hbox hb; have BK417:=Zz.k (hbox); have GW417:=bz HB hg; have GE417:=bz HB hg; replace HB:=bs HB hb; clear hb hbox hg) | ((with_reducible refine Qaf (N:=3) rfl ?_); refine bx 3 #[.int .i64 a1_0, .int .i64 a1_1, .int .i64 a1_2, .int .i64 a1_3, .int .i64 a1_4, .int .i64 a1_5, .string a1_6, .slice A1_7 l1_7.length c1_7, .int .i64 a1_8, .int .i64 a1_9, .int .i64 a1_10] 64 (h := ?_); intro gb418 hg w53 hbox hb; have BK418:=Zz.k (hbox); have GW418:=bz HB hg; have GE418:=bz HB hg; have NB417_418:=bn BK417 hg; have NB418_417:=bm BK417 hg; replace BK417:=bl BK417 hb; replace HB:=bs HB hb; clear hb hbox hg; have hnb54:=NB417_418.out; have hnc54:=NB418_417.out; obtain ⟨_,_,_,_,_,_,_,_,_,_,_,_,_,_,_,_,_,_,_,_,_,_⟩:=kc11 BK417; obtain ⟨_,_,_,_,_,_,_,_,_,_,_,_,_,_,_,_,_,_,_,_,_,_⟩:=kc11 BK418))
  go_ret
  exact ⟨re,bw HB⟩
 rw [if_pos c3] at H
 obtain ⟨c3b0,c3b1⟩:=bT c3
 clear c3
 by_cases c4 : a0_1 = a1_1; rotate_left
 ·rw [if_neg c4] at H
  obtain ⟨c4b0,c4b1⟩:=bF c4
  obtain rfl:=Zo H
  go_enter Tryz.func51,Tryz.ntmps51
  go_wp2_with (first | ((with_reducible refine Qaf (N:=2) rfl ?_); refine bx 2 #[.int .i64 a0_0, .int .i64 a0_1, .int .i64 a0_2, .int .i64 a0_3, .int .i64 a0_4, .int .i64 a0_5, .string a0_6, .slice A0_7 l0_7.length c0_7, .int .i64 a0_8, .int .i64 a0_9, .int .i64 a0_10] 64 (h := ?_); intro gb417 hg w47 hbox hb; have BK417:=Zz.k (hbox); have GW417:=bz HB hg; have GE417:=bz HB hg; replace HB:=bs HB hb; clear hb hbox hg) | ((with_reducible refine Qaf (N:=3) rfl ?_); refine bx 3 #[.int .i64 a1_0, .int .i64 a1_1, .int .i64 a1_2, .int .i64 a1_3, .int .i64 a1_4, .int .i64 a1_5, .string a1_6, .slice A1_7 l1_7.length c1_7, .int .i64 a1_8, .int .i64 a1_9, .int .i64 a1_10] 64 (h := ?_); intro gb418 hg w48 hbox hb; have BK418:=Zz.k (hbox); have GW418:=bz HB hg; have GE418:=bz HB hg; have NB417_418:=bn BK417 hg; have NB418_417:=bm BK417 hg; replace BK417:=bl BK417 hb; replace HB:=bs HB hb; clear hb hbox hg; have hnb49:=NB417_418.out; have hnc49:=NB418_417.out; obtain ⟨_,_,_,_,_,_,_,_,_,_,_,_,_,_,_,_,_,_,_,_,_,_⟩:=kc11 BK417; obtain ⟨_,_,_,_,_,_,_,_,_,_,_,_,_,_,_,_,_,_,_,_,_,_⟩:=kc11 BK418))
  go_ret
  exact ⟨re,bw HB⟩
 rw [if_pos c4] at H
 obtain ⟨c4b0,c4b1⟩:=bT c4
 clear c4
 by_cases c5 : a0_2 = a1_2; rotate_left
 ·rw [if_neg c5] at H
  obtain ⟨c5b0,c5b1⟩:=bF c5
  obtain rfl:=Zo H
  go_enter Tryz.func51,Tryz.ntmps51
  go_wp2_with (first | ((with_reducible refine Qaf (N:=2) rfl ?_); refine bx 2 #[.int .i64 a0_0, .int .i64 a0_1, .int .i64 a0_2, .int .i64 a0_3, .int .i64 a0_4, .int .i64 a0_5, .string a0_6, .slice A0_7 l0_7.length c0_7, .int .i64 a0_8, .int .i64 a0_9, .int .i64 a0_10] 64 (h := ?_); intro gb417 hg w42 hbox hb; have BK417:=Zz.k (hbox); have GW417:=bz HB hg; have GE417:=bz HB hg; replace HB:=bs HB hb; clear hb hbox hg) | ((with_reducible refine Qaf (N:=3) rfl ?_); refine bx 3 #[.int .i64 a1_0, .int .i64 a1_1, .int .i64 a1_2, .int .i64 a1_3, .int .i64 a1_4, .int .i64 a1_5, .string a1_6, .slice A1_7 l1_7.length c1_7, .int .i64 a1_8, .int .i64 a1_9, .int .i64 a1_10] 64 (h := ?_); intro gb418 hg w43 hbox hb; have BK418:=Zz.k (hbox); have GW418:=bz HB hg; have GE418:=bz HB hg; have NB417_418:=bn BK417 hg; have NB418_417:=bm BK417 hg; replace BK417:=bl BK417 hb; replace HB:=bs HB hb; clear hb hbox hg; have hnb44:=NB417_418.out; have hnc44:=NB418_417.out; obtain ⟨_,_,_,_,_,_,_,_,_,_,_,_,_,_,_,_,_,_,_,_,_,_⟩:=kc11 BK417; obtain ⟨_,_,_,_,_,_,_,_,_,_,_,_,_,_,_,_,_,_,_,_,_,_⟩:=kc11 BK418))
  go_ret
  exact ⟨re,bw HB⟩
 rw [if_pos c5] at H
 obtain ⟨c5b0,c5b1⟩:=bT c5
 clear c5
 by_cases c6 : (a0_3 == a1_3 && (a0_4 == a1_4 && (a0_5 == a1_5))) = true; rotate_left
 ·rw [if_neg c6] at H
  have c6b0 : (a0_3 == a1_3 && (a0_4 == a1_4 && (a0_5 == a1_5))) = false:=by simpa using c6
  (try (have c6b1 : decide (a0_3 = a1_3 && (a0_4 == a1_4 && (a0_5 == a1_5))) = false:=by simpa using c6))
  (try (have c6b2 : (a0_3 == a1_3 && (a0_4 == a1_4 && (a0_5 == a1_5))) = false:=by simpa using c6))
  (try (have c6b3 : ¬ (a0_3 = a1_3 && (a0_4 == a1_4 && (a0_5 == a1_5))):=by simpa using c6))
  clear c6
  obtain rfl:=Zo H
  go_enter Tryz.func51,Tryz.ntmps51
  go_wp2_with (first | ((with_reducible refine Qaf (N:=2) rfl ?_); refine bx 2 #[.int .i64 a0_0, .int .i64 a0_1, .int .i64 a0_2, .int .i64 a0_3, .int .i64 a0_4, .int .i64 a0_5, .string a0_6, .slice A0_7 l0_7.length c0_7, .int .i64 a0_8, .int .i64 a0_9, .int .i64 a0_10] 64 (h := ?_); intro gb417 hg w37 hbox hb; have BK417:=Zz.k (hbox); have GW417:=bz HB hg; have GE417:=bz HB hg; replace HB:=bs HB hb; clear hb hbox hg) | ((with_reducible refine Qaf (N:=3) rfl ?_); refine bx 3 #[.int .i64 a1_0, .int .i64 a1_1, .int .i64 a1_2, .int .i64 a1_3, .int .i64 a1_4, .int .i64 a1_5, .string a1_6, .slice A1_7 l1_7.length c1_7, .int .i64 a1_8, .int .i64 a1_9, .int .i64 a1_10] 64 (h := ?_); intro gb418 hg w38 hbox hb; have BK418:=Zz.k (hbox); have GW418:=bz HB hg; have GE418:=bz HB hg; have NB417_418:=bn BK417 hg; have NB418_417:=bm BK417 hg; replace BK417:=bl BK417 hb; replace HB:=bs HB hb; clear hb hbox hg; have hnb39:=NB417_418.out; have hnc39:=NB418_417.out; obtain ⟨_,_,_,_,_,_,_,_,_,_,_,_,_,_,_,_,_,_,_,_,_,_⟩:=kc11 BK417; obtain ⟨_,_,_,_,_,_,_,_,_,_,_,_,_,_,_,_,_,_,_,_,_,_⟩:=kc11 BK418))
  go_ret
  exact ⟨re,bw HB⟩
 rw [if_pos c6] at H
 have c6b0 : (a0_3 == a1_3 && (a0_4 == a1_4 && (a0_5 == a1_5))) = true:=c6
 (try (have c6b1 : decide (a0_3 = a1_3 && (a0_4 == a1_4 && (a0_5 == a1_5))) = true:=by simpa using c6))
 (try (have c6b2 : (a0_3 == a1_3 && (a0_4 == a1_4 && (a0_5 == a1_5))) = true:=by simpa using c6))
 clear c6
 by_cases c7 : a0_6.toList = a1_6.toList; rotate_left
 ·rw [if_neg c7] at H
  obtain ⟨c7b0,c7b1⟩:=bF c7
  obtain rfl:=Zo H
  go_enter Tryz.func51,Tryz.ntmps51
  go_wp2_with (first | ((with_reducible refine Qaf (N:=2) rfl ?_); refine bx 2 #[.int .i64 a0_0, .int .i64 a0_1, .int .i64 a0_2, .int .i64 a0_3, .int .i64 a0_4, .int .i64 a0_5, .string a0_6, .slice A0_7 l0_7.length c0_7, .int .i64 a0_8, .int .i64 a0_9, .int .i64 a0_10] 64 (h := ?_); intro gb417 hg w32 hbox hb; have BK417:=Zz.k (hbox); have GW417:=bz HB hg; have GE417:=bz HB hg; replace HB:=bs HB hb; clear hb hbox hg) | ((with_reducible refine Qaf (N:=3) rfl ?_); refine bx 3 #[.int .i64 a1_0, .int .i64 a1_1, .int .i64 a1_2, .int .i64 a1_3, .int .i64 a1_4, .int .i64 a1_5, .string a1_6, .slice A1_7 l1_7.length c1_7, .int .i64 a1_8, .int .i64 a1_9, .int .i64 a1_10] 64 (h := ?_); intro gb418 hg w33 hbox hb; have BK418:=Zz.k (hbox); have GW418:=bz HB hg; have GE418:=bz HB hg; have NB417_418:=bn BK417 hg; have NB418_417:=bm BK417 hg; replace BK417:=bl BK417 hb; replace HB:=bs HB hb; clear hb hbox hg; have hnb34:=NB417_418.out; have hnc34:=NB418_417.out; obtain ⟨_,_,_,_,_,_,_,_,_,_,_,_,_,_,_,_,_,_,_,_,_,_⟩:=kc11 BK417; obtain ⟨_,_,_,_,_,_,_,_,_,_,_,_,_,_,_,_,_,_,_,_,_,_⟩:=kc11 BK418))
  go_ret
  exact ⟨re,bw HB⟩
 rw [if_pos c7] at H
 obtain ⟨c7b0,c7b1⟩:=bT c7
 clear c7
 obtain ⟨t419,A8,H⟩:=bE H
 by_cases c9 : t419 = true; rotate_left
 ·replace c9:=Zf c9
  subst c9
  rw [if_neg nft] at H
  obtain rfl:=Zo H
  go_enter Tryz.func51,Tryz.ntmps51
  go_wp2_with (first | ((with_reducible refine Qaf (N:=2) rfl ?_); refine bx 2 #[.int .i64 a0_0, .int .i64 a0_1, .int .i64 a0_2, .int .i64 a0_3, .int .i64 a0_4, .int .i64 a0_5, .string a0_6, .slice A0_7 l0_7.length c0_7, .int .i64 a0_8, .int .i64 a0_9, .int .i64 a0_10] 64 (h := ?_); intro gb417 hg w27 hbox hb; have BK417:=Zz.k (hbox); have GW417:=bz HB hg; have GE417:=bz HB hg; replace HB:=bs HB hb; clear hb hbox hg) | ((with_reducible refine Qaf (N:=3) rfl ?_); refine bx 3 #[.int .i64 a1_0, .int .i64 a1_1, .int .i64 a1_2, .int .i64 a1_3, .int .i64 a1_4, .int .i64 a1_5, .string a1_6, .slice A1_7 l1_7.length c1_7, .int .i64 a1_8, .int .i64 a1_9, .int .i64 a1_10] 64 (h := ?_); intro gb418 hg w28 hbox hb; have BK418:=Zz.k (hbox); have GW418:=bz HB hg; have GE418:=bz HB hg; have NB417_418:=bn BK417 hg; have NB418_417:=bm BK417 hg; replace BK417:=bl BK417 hb; replace HB:=bs HB hb; clear hb hbox hg; have hnb29:=NB417_418.out; have hnc29:=NB418_417.out; obtain ⟨_,_,_,_,_,_,_,_,_,_,_,_,_,_,_,_,_,_,_,_,_,_⟩:=kc11 BK417; obtain ⟨_,_,_,_,_,_,_,_,_,_,_,_,_,_,_,_,_,_,_,_,_,_⟩:=kc11 BK418) | (go_at_call 24; (with_reducible refine (r0_EqElems.calls k _ _ l0_7 _ _ l1_7 false _ ?side1 ?side2 ?side3 ?side4 A8.out).mono ?_); (case side1 => exact cb HR0_7 HB); (case side2 => exact HC0_7.out); (case side3 => exact cb HR1_7 HB); (case side4 => exact HC1_7.out); rintro e w' ⟨rfl,⟨nd,rfl⟩⟩))
  go_ret
  exact ⟨re,bw HB⟩
 subst c9
 rw [if_pos rfl] at H
 by_cases c10 : a0_8 = a1_8; rotate_left
 ·rw [if_neg c10] at H
  obtain ⟨c10b0,c10b1⟩:=bF c10
  obtain rfl:=Zo H
  go_enter Tryz.func51,Tryz.ntmps51
  go_wp2_with (first | ((with_reducible refine Qaf (N:=2) rfl ?_); refine bx 2 #[.int .i64 a0_0, .int .i64 a0_1, .int .i64 a0_2, .int .i64 a0_3, .int .i64 a0_4, .int .i64 a0_5, .string a0_6, .slice A0_7 l0_7.length c0_7, .int .i64 a0_8, .int .i64 a0_9, .int .i64 a0_10] 64 (h := ?_); intro gb417 hg w22 hbox hb; have BK417:=Zz.k (hbox); have GW417:=bz HB hg; have GE417:=bz HB hg; replace HB:=bs HB hb; clear hb hbox hg) | ((with_reducible refine Qaf (N:=3) rfl ?_); refine bx 3 #[.int .i64 a1_0, .int .i64 a1_1, .int .i64 a1_2, .int .i64 a1_3, .int .i64 a1_4, .int .i64 a1_5, .string a1_6, .slice A1_7 l1_7.length c1_7, .int .i64 a1_8, .int .i64 a1_9, .int .i64 a1_10] 64 (h := ?_); intro gb418 hg w23 hbox hb; have BK418:=Zz.k (hbox); have GW418:=bz HB hg; have GE418:=bz HB hg; have NB417_418:=bn BK417 hg; have NB418_417:=bm BK417 hg; replace BK417:=bl BK417 hb; replace HB:=bs HB hb; clear hb hbox hg; have hnb24:=NB417_418.out; have hnc24:=NB418_417.out; obtain ⟨_,_,_,_,_,_,_,_,_,_,_,_,_,_,_,_,_,_,_,_,_,_⟩:=kc11 BK417; obtain ⟨_,_,_,_,_,_,_,_,_,_,_,_,_,_,_,_,_,_,_,_,_,_⟩:=kc11 BK418) | (go_at_call 24; (with_reducible refine (r0_EqElems.calls k _ _ l0_7 _ _ l1_7 true _ ?side1 ?side2 ?side3 ?side4 A8.out).mono ?_); (case side1 => exact cb HR0_7 HB); (case side2 => exact HC0_7.out); (case side3 => exact cb HR1_7 HB); (case side4 => exact HC1_7.out); rintro e w' ⟨rfl,⟨nd,rfl⟩⟩))
  go_ret
  exact ⟨re,bw HB⟩
 rw [if_pos c10] at H
 obtain ⟨c10b0,c10b1⟩:=bT c10
 clear c10
 by_cases c11 : a0_9 = a1_9
 ·rw [if_pos c11] at H
  obtain ⟨c11b0,c11b1⟩:=bT c11
  clear c11
  obtain rfl:=Zo H
  go_enter Tryz.func51,Tryz.ntmps51
  go_wp2_with (first | ((with_reducible refine Qaf (N:=2) rfl ?_); refine bx 2 #[.int .i64 a0_0, .int .i64 a0_1, .int .i64 a0_2, .int .i64 a0_3, .int .i64 a0_4, .int .i64 a0_5, .string a0_6, .slice A0_7 l0_7.length c0_7, .int .i64 a0_8, .int .i64 a0_9, .int .i64 a0_10] 64 (h := ?_); intro gb417 hg w12 hbox hb; have BK417:=Zz.k (hbox); have GW417:=bz HB hg; have GE417:=bz HB hg; replace HB:=bs HB hb; clear hb hbox hg) | ((with_reducible refine Qaf (N:=3) rfl ?_); refine bx 3 #[.int .i64 a1_0, .int .i64 a1_1, .int .i64 a1_2, .int .i64 a1_3, .int .i64 a1_4, .int .i64 a1_5, .string a1_6, .slice A1_7 l1_7.length c1_7, .int .i64 a1_8, .int .i64 a1_9, .int .i64 a1_10] 64 (h := ?_); intro gb418 hg w13 hbox hb; have BK418:=Zz.k (hbox); have GW418:=bz HB hg; have GE418:=bz HB hg; have NB417_418:=bn BK417 hg; have NB418_417:=bm BK417 hg; replace BK417:=bl BK417 hb; replace HB:=bs HB hb; clear hb hbox hg; have hnb14:=NB417_418.out; have hnc14:=NB418_417.out; obtain ⟨_,_,_,_,_,_,_,_,_,_,_,_,_,_,_,_,_,_,_,_,_,_⟩:=kc11 BK417; obtain ⟨_,_,_,_,_,_,_,_,_,_,_,_,_,_,_,_,_,_,_,_,_,_⟩:=kc11 BK418) | (go_at_call 24; (with_reducible refine (r0_EqElems.calls k _ _ l0_7 _ _ l1_7 true _ ?side1 ?side2 ?side3 ?side4 A8.out).mono ?_); (case side1 => exact cb HR0_7 HB); (case side2 => exact HC0_7.out); (case side3 => exact cb HR1_7 HB); (case side4 => exact HC1_7.out); rintro e w' ⟨rfl,⟨nd,rfl⟩⟩))
  go_ret
  exact ⟨re,bw HB⟩
 rw [if_neg c11] at H
 obtain ⟨c11b0,c11b1⟩:=bF c11
 obtain rfl:=Zo H
 go_enter Tryz.func51,Tryz.ntmps51
 go_wp2_with (first | ((with_reducible refine Qaf (N:=2) rfl ?_); refine bx 2 #[.int .i64 a0_0, .int .i64 a0_1, .int .i64 a0_2, .int .i64 a0_3, .int .i64 a0_4, .int .i64 a0_5, .string a0_6, .slice A0_7 l0_7.length c0_7, .int .i64 a0_8, .int .i64 a0_9, .int .i64 a0_10] 64 (h := ?_); intro gb417 hg w17 hbox hb; have BK417:=Zz.k (hbox); have GW417:=bz HB hg; have GE417:=bz HB hg; replace HB:=bs HB hb; clear hb hbox hg) | ((with_reducible refine Qaf (N:=3) rfl ?_); refine bx 3 #[.int .i64 a1_0, .int .i64 a1_1, .int .i64 a1_2, .int .i64 a1_3, .int .i64 a1_4, .int .i64 a1_5, .string a1_6, .slice A1_7 l1_7.length c1_7, .int .i64 a1_8, .int .i64 a1_9, .int .i64 a1_10] 64 (h := ?_); intro gb418 hg w18 hbox hb; have BK418:=Zz.k (hbox); have GW418:=bz HB hg; have GE418:=bz HB hg; have NB417_418:=bn BK417 hg; have NB418_417:=bm BK417 hg; replace BK417:=bl BK417 hb; replace HB:=bs HB hb; clear hb hbox hg; have hnb19:=NB417_418.out; have hnc19:=NB418_417.out; obtain ⟨_,_,_,_,_,_,_,_,_,_,_,_,_,_,_,_,_,_,_,_,_,_⟩:=kc11 BK417; obtain ⟨_,_,_,_,_,_,_,_,_,_,_,_,_,_,_,_,_,_,_,_,_,_⟩:=kc11 BK418) | (go_at_call 24; (with_reducible refine (r0_EqElems.calls k _ _ l0_7 _ _ l1_7 true _ ?side1 ?side2 ?side3 ?side4 A8.out).mono ?_); (case side1 => exact cb HR0_7 HB); (case side2 => exact HC0_7.out); (case side3 => exact cb HR1_7 HB); (case side4 => exact HC1_7.out); rintro e w' ⟨rfl,⟨nd,rfl⟩⟩))
 go_ret
 exact ⟨re,bw HB⟩
end
section
attribute [local go_sem] Qbl Qbj Qbp Qbo Qba Qaz Qbk Qbi
attribute [local go_sem high] Qdi
def r0_EqOps.l0 : Nat -> List (SOp) -> List (SOp) -> Int -> Option (Bool)
 | 0,_,_,_ => none
 | k + 1,x0,x1,x5 => if x5 < (x0.length : Int) then (if 0 <= x5 then (if x5 < (x1.length : Int) then ((r0_EqOp.f k ((Qad x0 x5).f0) ((Qad x0 x5).f1) ((Qad x0 x5).f2) ((Qad x0 x5).f3.f0) ((Qad x0 x5).f3.f1) ((Qad x0 x5).f3.f2) ((Qad x0 x5).f4) ((Qad x0 x5).f5) ((Qad x0 x5).f6) ((Qad x0 x5).f7) ((Qad x0 x5).f8) ((Qad x1 x5).f0) ((Qad x1 x5).f1) ((Qad x1 x5).f2) ((Qad x1 x5).f3.f0) ((Qad x1 x5).f3.f1) ((Qad x1 x5).f3.f2) ((Qad x1 x5).f4) ((Qad x1 x5).f5) ((Qad x1 x5).f6) ((Qad x1 x5).f7) ((Qad x1 x5).f8)).bind fun t422 => (if t422 = true then (r0_EqOps.l0 k x0 x1 (wrap64 (x5 + 1))) else (some false))) else (none)) else (none)) else (some true)
def r0_EqOps.f (k : Nat) (l0 : List (SOp)) (l1 : List (SOp)) : Option (Bool):=if (l0.length : Int) = (l1.length : Int) then (r0_EqOps.l0 k l0 l1 0) else (some false)
def r0_EqOps.T6 : Bool × List (List Nat × List Nat):=(true,[([],[]),([],[]),([0,1],[0,1]),([2],[2]),([],[]),([],[]),([4,5],[4,5]),([6],[6]),([3,7],[3,7]),([8],[8])])
def r0_EqOps.B6 : List Nat:=[0,0,3,7,0,0,48,112,255,511]
theorem r0_EqOps.tab6 : rtab .any (Qcj Tryz.f17 6) = r0_EqOps.T6:=by kernel_rfl
theorem r0_EqOps.bits6 : Qau r0_EqOps.T6.2 r0_EqOps.B6 = true:=by kernel_rfl
theorem r0_EqOps.calls (k : Nat) (A0 : Option Addr) (c0 : Nat) (l0 : List (SOp)) (A1 : Option Addr) (c1 : Nat) (l1 : List (SOp)) (r : Bool) (w : World) (hr0 : Kd.C kOp w A0 l0.length l0) (hc0 : l0.length <= c0) (hr1 : Kd.C kOp w A1 l1.length l1) (hc1 : l1.length <= c1) (h : r0_EqOps.f k l0 l1 = some r) :
  Calls Tryz.prog 17 #[.slice A0 l0.length c0, .slice A1 l1.length c1] w fun e w' => e = .returned (.bool r) /\ Below w.heap.size w w':=by
 have hu64:=Tryz.underlying64
 have HR0:=Zz.k hr0
 have HC0:=Zz.k hc0
 clear hr0 hc0
 have HR1:=Zz.k hr1
 have HC1:=Zz.k hc1
 clear hr1 hc1
 have HB:=Zz.k (Below.refl w.heap.size w)
 unfold r0_EqOps.f at h; have H:=h
 clear h
 by_cases c3 : (l0.length : Int) = (l1.length : Int); rotate_left
 ·rw [if_neg c3] at H
  obtain ⟨c3b0,c3b1⟩:=bF c3
  have c3b2 : (l0.length == l1.length) = false:=by first | simpa using c3 | (simp at c3 ⊢; omega)
  obtain rfl:=Zo H
  go_enter Tryz.func17,Tryz.ntmps17
  go_wp2
  go_ret
  exact ⟨re,bw HB⟩
 rw [if_pos c3] at H
 obtain ⟨c3b0,c3b1⟩:=bT c3
 have c3b2 : (l0.length == l1.length) = true:=by first | simpa using c3 | (simp at c3 ⊢; omega)
 clear c3
 have H':=Zz.k H
 clear H
 go_enter Tryz.func17,Tryz.ntmps17
 go_wp2
 go_loopg [5] k (fun kq v5 w' => ∃ (x5_1 : Int),v5 = .int .i64 x5_1 /\ Zz (r0_EqOps.l0 kq l0 l1 x5_1 = some r) /\ Zz (kq <= k) /\ Zz (Below w.heap.size w w'))
 case atStart => exact ⟨(0),rf,H',⟨Nat.le_refl _⟩,⟨bw HB⟩⟩
 case round =>
  clear H'
  try clear c1; try clear c3b0; try clear c3b1; try clear c3b2
  obtain ⟨x5_1,rfl,HA,HK1,HB⟩:=hrel
  cases gk with
  | zero => exact absurd HA.out (by simp [r0_EqOps.l0])
  | succ k1 =>
   have H:=HA.out
   clear HA
   simp only [r0_EqOps.l0] at H
   by_cases c4 : x5_1 < (l0.length : Int); rotate_left
   ·rw [if_neg c4] at H
    have c4b0:=Ze c4
    clear c4
    obtain rfl:=Zo H
    go_wp2
    go_ret
    exact ⟨re,bw HB⟩
   rw [if_pos c4] at H
   have c4b0:=Zd c4
   clear c4
   by_cases c5 : 0 <= x5_1; rotate_left
   ·rw [if_neg c5] at H
    exact absurd H (by simp)
   rw [if_pos c5] at H
   have c5b0:=Zd c5
   clear c5
   by_cases c6 : x5_1 < (l1.length : Int); rotate_left
   ·rw [if_neg c6] at H
    exact absurd H (by simp)
   rw [if_pos c6] at H
   have c6b0:=Zd c6
   clear c6
   obtain ⟨t422,A7,H⟩:=bE H
   by_cases c8 : t422 = true
   ·subst c8
    rw [if_pos rfl] at H
    have H':=Zz.k H
    clear H
    try go_wp2
    have n0_:=Zz.k (Qae HB.out)
    clear HB
    have HB:=n0_
    clear n0_
    have p420 : 0 <= (x5_1 : Int):=od
    have q420 : x5_1 < (l0.length : Int):=od
    obtain ⟨ad420,A420_7,c420_7,e420,hx420_0,hx420_1,hx420_2,hx420_3,hx420_4,hx420_5,hx420_6,hx420_7,hx420_8,hx420_9,hx420_10,hl420_7,hi420_7⟩:=Qby HR0.out x5_1 p420 q420
    have hw420_10:=hx420_10
    have hw420_9:=hx420_9
    have hw420_8:=hx420_8
    have hw420_7:=hx420_7
    have hw420_6:=hx420_6
    have hw420_5:=hx420_5
    have hw420_4:=hx420_4
    have hw420_3:=hx420_3
    have hw420_2:=hx420_2
    have hw420_1:=hx420_1
    have hw420_0:=hx420_0
    cases e420
    replace hx420_0:=cl HB hx420_0
    replace hx420_1:=cl HB hx420_1
    replace hx420_2:=cl HB hx420_2
    replace hx420_3:=cl HB hx420_3
    replace hx420_4:=cl HB hx420_4
    replace hx420_5:=cl HB hx420_5
    replace hx420_6:=cl HB hx420_6
    replace hx420_7:=cl HB hx420_7
    replace hx420_8:=cl HB hx420_8
    replace hx420_9:=cl HB hx420_9
    replace hx420_10:=cl HB hx420_10
    have HR420_7:=Zz.k hi420_7
    have HC420_7:=Zz.k hl420_7
    clear hi420_7 hl420_7
    replace p420:=eq_true p420
    replace q420:=eq_true q420
    have p421 : 0 <= (x5_1 : Int):=od
    have q421 : x5_1 < (l1.length : Int):=od
    obtain ⟨ad421,A421_7,c421_7,e421,hx421_0,hx421_1,hx421_2,hx421_3,hx421_4,hx421_5,hx421_6,hx421_7,hx421_8,hx421_9,hx421_10,hl421_7,hi421_7⟩:=Qby HR1.out x5_1 p421 q421
    have hw421_10:=hx421_10
    have hw421_9:=hx421_9
    have hw421_8:=hx421_8
    have hw421_7:=hx421_7
    have hw421_6:=hx421_6
    have hw421_5:=hx421_5
    have hw421_4:=hx421_4
    have hw421_3:=hx421_3
    have hw421_2:=hx421_2
    have hw421_1:=hx421_1
    have hw421_0:=hx421_0
    cases e421
    replace hx421_0:=cl HB hx421_0
    replace hx421_1:=cl HB hx421_1
    replace hx421_2:=cl HB hx421_2
    replace hx421_3:=cl HB hx421_3
    replace hx421_4:=cl HB hx421_4
    replace hx421_5:=cl HB hx421_5
    replace hx421_6:=cl HB hx421_6
    replace hx421_7:=cl HB hx421_7
    replace hx421_8:=cl HB hx421_8
    replace hx421_9:=cl HB hx421_9
    replace hx421_10:=cl HB hx421_10
    have HR421_7:=Zz.k hi421_7
    have HC421_7:=Zz.k hl421_7
    clear hi421_7 hl421_7
    replace p421:=eq_true p421
    replace q421:=eq_true q421
    refine stP (fun w' => P11 w' (ad420.add ((x5_1).toNat * 11)) (Qad l0 x5_1) A420_7 c420_7 (Q11 w' (ad421.add ((x5_1).toNat * 11)) (Qad l1 x5_1) A421_7 c421_7)) 10 ⟨(cW HB hw420_0),(cW HB hw420_1),(cW HB hw420_2),(cW HB hw420_3),(cW HB hw420_4),(cW HB hw420_5),(cW HB hw420_6),(cW HB hw420_7),(cW HB hw420_8),(cW HB hw420_9),(cW HB hw420_10),(cW HB hw421_0),(cW HB hw421_1),(cW HB hw421_2),(cW HB hw421_3),(cW HB hw421_4),(cW HB hw421_5),(cW HB hw421_6),(cW HB hw421_7),(cW HB hw421_8),(cW HB hw421_9),(cW HB hw421_10)⟩ (h:=fun hHeld => ?_); refine Qap r0_EqOps.tab6 r0_EqOps.bits6 (fun HT_ HW_ => ?_)
    generalize wr.drew = w9 at HB HR420_7 HR421_7 hx420_0 hx420_1 hx420_10 hx420_2 hx420_3 hx420_4 hx420_5 hx420_6 hx420_7 hx420_8 hx420_9 hx421_0 hx421_1 hx421_10 hx421_2 hx421_3 hx421_4 hx421_5 hx421_6 hx421_7 hx421_8 hx421_9 hHeld ⊢
    refine pu HT_ 0 17 1 (h := ?_)
    refine pu HT_ 1 18 3 (h := ?_)
    refine pu HT_ 2 19 7 (h := ?_)
    refine pu HT_ 4 21 23 (h := ?_)
    refine pu HT_ 5 22 55 (h := ?_)
    refine pu HT_ 6 23 119 (h := ?_)
    refine tk HT_ HW_ hHeld 3 20 127 (h := ?_)
    refine tk HT_ HW_ hHeld 7 24 255 (h := ?_)
    refine on HT_ 8 (some 25) 511 (h:=fun K hK => ?_)
    refine gS Tryz.func51 #[.agg #[.int .i64 ((Qad l0 x5_1).f0), .int .i64 ((Qad l0 x5_1).f1), .int .i64 ((Qad l0 x5_1).f2), .int .i64 ((Qad l0 x5_1).f3.f0), .int .i64 ((Qad l0 x5_1).f3.f1), .int .i64 ((Qad l0 x5_1).f3.f2), .string ((Qad l0 x5_1).f4), .slice A420_7 ((Qad l0 x5_1).f5).length c420_7, .int .i64 ((Qad l0 x5_1).f6), .int .i64 ((Qad l0 x5_1).f7), .int .i64 ((Qad l0 x5_1).f8)], .agg #[.int .i64 ((Qad l1 x5_1).f0), .int .i64 ((Qad l1 x5_1).f1), .int .i64 ((Qad l1 x5_1).f2), .int .i64 ((Qad l1 x5_1).f3.f0), .int .i64 ((Qad l1 x5_1).f3.f1), .int .i64 ((Qad l1 x5_1).f3.f2), .string ((Qad l1 x5_1).f4), .slice A421_7 ((Qad l1 x5_1).f5).length c421_7, .int .i64 ((Qad l1 x5_1).f6), .int .i64 ((Qad l1 x5_1).f7), .int .i64 ((Qad l1 x5_1).f8)]] (h := ?_)
    with_reducible refine (r0_EqOp.calls k1 ((Qad l0 x5_1).f0) ((Qad l0 x5_1).f1) ((Qad l0 x5_1).f2) ((Qad l0 x5_1).f3.f0) ((Qad l0 x5_1).f3.f1) ((Qad l0 x5_1).f3.f2) ((Qad l0 x5_1).f4) _ _ ((Qad l0 x5_1).f5) ((Qad l0 x5_1).f6) ((Qad l0 x5_1).f7) ((Qad l0 x5_1).f8) ((Qad l1 x5_1).f0) ((Qad l1 x5_1).f1) ((Qad l1 x5_1).f2) ((Qad l1 x5_1).f3.f0) ((Qad l1 x5_1).f3.f1) ((Qad l1 x5_1).f3.f2) ((Qad l1 x5_1).f4) _ _ ((Qad l1 x5_1).f5) ((Qad l1 x5_1).f6) ((Qad l1 x5_1).f7) ((Qad l1 x5_1).f8) true _ ?side1 ?side2 ?side3 ?side4 A7.out).mono ?_
    (case side1 => exact cb HR420_7 HB)
    (case side2 => exact HC420_7.out)
    (case side3 => exact cb HR421_7 HB)
    (case side4 => exact HC421_7.out)
    rintro e w10 ⟨rfl,hb⟩
    refine ⟨_,rfl, ?_⟩
    have n0_:=bs HB hb
    clear HB
    have HB:=n0_
    clear n0_
    (try clear hb)
    (try clear hb2)
    (try clear hk)
    (try clear hi)
    refine hK.out _ _ ⟨(cW HB hw420_0),(cW HB hw420_1),(cW HB hw420_2),(cW HB hw420_3),(cW HB hw420_4),(cW HB hw420_5),(cW HB hw420_6),(cW HB hw420_7),(cW HB hw420_8),(cW HB hw420_9),(cW HB hw420_10),(cW HB hw421_0),(cW HB hw421_1),(cW HB hw421_2),(cW HB hw421_3),(cW HB hw421_4),(cW HB hw421_5),(cW HB hw421_6),(cW HB hw421_7),(cW HB hw421_8),(cW HB hw421_9),(cW HB hw421_10)⟩ (fun hHeld => ?_)
    clear hK K
    refine nn 25 (h := ?_)
    refine pu HT_ 9 26 1023 (h := ?_)
    refine dn HT_ (h := ?_)
    try go_wp2
    go_roundg k1
    case measure => have:=HK1.out; omega
    case rel => exact ⟨(wrap64 (x5_1 + 1)),rf,H',⟨by have:=HK1.out; omega⟩,⟨bw HB⟩⟩
   replace c8:=Zf c8
   subst c8
   rw [if_neg nft] at H
   obtain rfl:=Zo H
   try go_wp2
   have n0_:=Zz.k (Qae HB.out)
   clear HB
   have HB:=n0_
   clear n0_
   have p420 : 0 <= (x5_1 : Int):=od
   have q420 : x5_1 < (l0.length : Int):=od
   obtain ⟨ad420,A420_7,c420_7,e420,hx420_0,hx420_1,hx420_2,hx420_3,hx420_4,hx420_5,hx420_6,hx420_7,hx420_8,hx420_9,hx420_10,hl420_7,hi420_7⟩:=Qby HR0.out x5_1 p420 q420
   have hw420_10:=hx420_10
   have hw420_9:=hx420_9
   have hw420_8:=hx420_8
   have hw420_7:=hx420_7
   have hw420_6:=hx420_6
   have hw420_5:=hx420_5
   have hw420_4:=hx420_4
   have hw420_3:=hx420_3
   have hw420_2:=hx420_2
   have hw420_1:=hx420_1
   have hw420_0:=hx420_0
   cases e420
   replace hx420_0:=cl HB hx420_0
   replace hx420_1:=cl HB hx420_1
   replace hx420_2:=cl HB hx420_2
   replace hx420_3:=cl HB hx420_3
   replace hx420_4:=cl HB hx420_4
   replace hx420_5:=cl HB hx420_5
   replace hx420_6:=cl HB hx420_6
   replace hx420_7:=cl HB hx420_7
   replace hx420_8:=cl HB hx420_8
   replace hx420_9:=cl HB hx420_9
   replace hx420_10:=cl HB hx420_10
   have HR420_7:=Zz.k hi420_7
   have HC420_7:=Zz.k hl420_7
   clear hi420_7 hl420_7
   replace p420:=eq_true p420
   replace q420:=eq_true q420
   have p421 : 0 <= (x5_1 : Int):=od
   have q421 : x5_1 < (l1.length : Int):=od
   obtain ⟨ad421,A421_7,c421_7,e421,hx421_0,hx421_1,hx421_2,hx421_3,hx421_4,hx421_5,hx421_6,hx421_7,hx421_8,hx421_9,hx421_10,hl421_7,hi421_7⟩:=Qby HR1.out x5_1 p421 q421
   have hw421_10:=hx421_10
   have hw421_9:=hx421_9
   have hw421_8:=hx421_8
   have hw421_7:=hx421_7
   have hw421_6:=hx421_6
   have hw421_5:=hx421_5
   have hw421_4:=hx421_4
   have hw421_3:=hx421_3
   have hw421_2:=hx421_2
   have hw421_1:=hx421_1
   have hw421_0:=hx421_0
   cases e421
   replace hx421_0:=cl HB hx421_0
   replace hx421_1:=cl HB hx421_1
   replace hx421_2:=cl HB hx421_2
   replace hx421_3:=cl HB hx421_3
   replace hx421_4:=cl HB hx421_4
   replace hx421_5:=cl HB hx421_5
   replace hx421_6:=cl HB hx421_6
   replace hx421_7:=cl HB hx421_7
   replace hx421_8:=cl HB hx421_8
   replace hx421_9:=cl HB hx421_9
   replace hx421_10:=cl HB hx421_10
   have HR421_7:=Zz.k hi421_7
   have HC421_7:=Zz.k hl421_7
   clear hi421_7 hl421_7
   replace p421:=eq_true p421
   replace q421:=eq_true q421
   refine stP (fun w' => P11 w' (ad420.add ((x5_1).toNat * 11)) (Qad l0 x5_1) A420_7 c420_7 (Q11 w' (ad421.add ((x5_1).toNat * 11)) (Qad l1 x5_1) A421_7 c421_7)) 10 ⟨(cW HB hw420_0),(cW HB hw420_1),(cW HB hw420_2),(cW HB hw420_3),(cW HB hw420_4),(cW HB hw420_5),(cW HB hw420_6),(cW HB hw420_7),(cW HB hw420_8),(cW HB hw420_9),(cW HB hw420_10),(cW HB hw421_0),(cW HB hw421_1),(cW HB hw421_2),(cW HB hw421_3),(cW HB hw421_4),(cW HB hw421_5),(cW HB hw421_6),(cW HB hw421_7),(cW HB hw421_8),(cW HB hw421_9),(cW HB hw421_10)⟩ (h:=fun hHeld => ?_); refine Qap r0_EqOps.tab6 r0_EqOps.bits6 (fun HT_ HW_ => ?_)
   generalize wr.drew = w11 at HB HR420_7 HR421_7 hx420_0 hx420_1 hx420_10 hx420_2 hx420_3 hx420_4 hx420_5 hx420_6 hx420_7 hx420_8 hx420_9 hx421_0 hx421_1 hx421_10 hx421_2 hx421_3 hx421_4 hx421_5 hx421_6 hx421_7 hx421_8 hx421_9 hHeld ⊢
   refine pu HT_ 0 17 1 (h := ?_)
   refine pu HT_ 1 18 3 (h := ?_)
   refine pu HT_ 2 19 7 (h := ?_)
   refine pu HT_ 4 21 23 (h := ?_)
   refine pu HT_ 5 22 55 (h := ?_)
   refine pu HT_ 6 23 119 (h := ?_)
   refine tk HT_ HW_ hHeld 3 20 127 (h := ?_)
   refine tk HT_ HW_ hHeld 7 24 255 (h := ?_)
   refine on HT_ 8 (some 25) 511 (h:=fun K hK => ?_)
   refine gS Tryz.func51 #[.agg #[.int .i64 ((Qad l0 x5_1).f0), .int .i64 ((Qad l0 x5_1).f1), .int .i64 ((Qad l0 x5_1).f2), .int .i64 ((Qad l0 x5_1).f3.f0), .int .i64 ((Qad l0 x5_1).f3.f1), .int .i64 ((Qad l0 x5_1).f3.f2), .string ((Qad l0 x5_1).f4), .slice A420_7 ((Qad l0 x5_1).f5).length c420_7, .int .i64 ((Qad l0 x5_1).f6), .int .i64 ((Qad l0 x5_1).f7), .int .i64 ((Qad l0 x5_1).f8)], .agg #[.int .i64 ((Qad l1 x5_1).f0), .int .i64 ((Qad l1 x5_1).f1), .int .i64 ((Qad l1 x5_1).f2), .int .i64 ((Qad l1 x5_1).f3.f0), .int .i64 ((Qad l1 x5_1).f3.f1), .int .i64 ((Qad l1 x5_1).f3.f2), .string ((Qad l1 x5_1).f4), .slice A421_7 ((Qad l1 x5_1).f5).length c421_7, .int .i64 ((Qad l1 x5_1).f6), .int .i64 ((Qad l1 x5_1).f7), .int .i64 ((Qad l1 x5_1).f8)]] (h := ?_)
   with_reducible refine (r0_EqOp.calls k1 ((Qad l0 x5_1).f0) ((Qad l0 x5_1).f1) ((Qad l0 x5_1).f2) ((Qad l0 x5_1).f3.f0) ((Qad l0 x5_1).f3.f1) ((Qad l0 x5_1).f3.f2) ((Qad l0 x5_1).f4) _ _ ((Qad l0 x5_1).f5) ((Qad l0 x5_1).f6) ((Qad l0 x5_1).f7) ((Qad l0 x5_1).f8) ((Qad l1 x5_1).f0) ((Qad l1 x5_1).f1) ((Qad l1 x5_1).f2) ((Qad l1 x5_1).f3.f0) ((Qad l1 x5_1).f3.f1) ((Qad l1 x5_1).f3.f2) ((Qad l1 x5_1).f4) _ _ ((Qad l1 x5_1).f5) ((Qad l1 x5_1).f6) ((Qad l1 x5_1).f7) ((Qad l1 x5_1).f8) false _ ?side1 ?side2 ?side3 ?side4 A7.out).mono ?_
   (case side1 => exact cb HR420_7 HB)
   (case side2 => exact HC420_7.out)
   (case side3 => exact cb HR421_7 HB)
   (case side4 => exact HC421_7.out)
   rintro e w12 ⟨rfl,hb⟩
   refine ⟨_,rfl, ?_⟩
   have n0_:=bs HB hb
   clear HB
   have HB:=n0_
   clear n0_
   (try clear hb)
   (try clear hb2)
   (try clear hk)
   (try clear hi)
   refine hK.out _ _ ⟨(cW HB hw420_0),(cW HB hw420_1),(cW HB hw420_2),(cW HB hw420_3),(cW HB hw420_4),(cW HB hw420_5),(cW HB hw420_6),(cW HB hw420_7),(cW HB hw420_8),(cW HB hw420_9),(cW HB hw420_10),(cW HB hw421_0),(cW HB hw421_1),(cW HB hw421_2),(cW HB hw421_3),(cW HB hw421_4),(cW HB hw421_5),(cW HB hw421_6),(cW HB hw421_7),(cW HB hw421_8),(cW HB hw421_9),(cW HB hw421_10)⟩ (fun hHeld => ?_)
   clear hK K
   refine nn 25 (h := ?_)
   refine pu HT_ 9 26 1023 (h := ?_)
   refine dn HT_ (h := ?_)
   try go_wp2
   go_ret
   exact ⟨re,bw HB⟩
end
section
attribute [local go_sem] Qbl Qbj Qbp Qbo Qba Qaz Qbk Qbi
def doc_Visible.f (l0 : List (SOp)) : Option ((List (SElem)) × Int):=(tree_May.f l0).bind fun t490 => (if t490 = true then ((doc_Seen.f l0).bind fun t491 => (some (t491,0))) else (some (([] : List (SElem)),1)))
theorem doc_Visible.calls (A0 : Option Addr) (c0 : Nat) (l0 : List (SOp)) (r1 : List (SElem)) (r2 : Int) (w : World) (hr0 : Kd.C kOp w A0 l0.length l0) (hc0 : l0.length <= c0) (h : doc_Visible.f l0 = some (r1,r2)) :
  Calls Tryz.prog 19 #[.slice A0 l0.length c0] w fun e w' => ∃ v0_ : Value,e = .returned (.tuple #[v0_, .int .i64 r2]) /\ Kd.R Qao 32 w' w.heap.size (fun _ => True) v0_ r1 /\ Below w.heap.size w w':=by
 have HR0:=Zz.k hr0
 have HC0:=Zz.k hc0
 clear hr0 hc0
 have HB:=Zz.k (Below.refl w.heap.size w)
 unfold doc_Visible.f at h; have H:=h
 clear h
 obtain ⟨t490,A2,H⟩:=bE H
 by_cases c3 : t490 = true
 ·subst c3
  rw [if_pos rfl] at H
  obtain ⟨t491,A4,H⟩:=bE H
  simp only [Option.some.injEq,Prod.mk.injEq] at H
  obtain ⟨rfl,rfl⟩:=H
  go_enter Tryz.func19,Tryz.ntmps19
  go_wp2_with (first | ((with_reducible refine Qac (f:=42) rfl ?_); refine gl (some 5) Tryz.func42 #[.slice A0 l0.length c0] (h := ?_); (with_reducible refine (tree_May.calls _ _ l0 true _ ?side1 ?side2 A2.out).mono ?_); (case side1 => repeat (first | exact HR0.out | (with_reducible refine Kd.C_alloc ?_ _) | (with_reducible refine Kd.C_drewN ?_ _) | (with_reducible refine Kd.C_drew ?_))); (case side2 => exact HC0.out); rintro e w5 ⟨rfl,hb⟩; refine ⟨_,rfl, ?_⟩; replace HB:=bs HB hb; clear hb) | ((with_reducible refine Qac (f:=43) rfl ?_); refine gl (some 8) Tryz.func43 #[.slice A0 l0.length c0] (h := ?_); (with_reducible refine (doc_Seen.calls _ _ l0 t491 _ ?side1 ?side2 A4.out).mono ?_); (case side1 => exact cb HR0 HB); (case side2 => exact HC0.out); rintro e w6 ⟨v492,rfl,ho0,hb⟩; refine ⟨_,rfl, ?_⟩; have HO493:=Zz.k (Kd.R_lower ho0 (Qaj (bw HB))); replace HB:=bs HB hb; clear hb; clear ho0))
  go_ret2
  exact ⟨_,re,by (with_reducible repeat (first | apply Kd.R_alloc | apply Kd.R_drewN | apply Kd.R_drew)); exact HO493.out,bw HB⟩
 replace c3:=Zf c3
 subst c3
 rw [if_neg nft] at H
 simp only [Option.some.injEq,Prod.mk.injEq] at H
 obtain ⟨rfl,rfl⟩:=H
 go_enter Tryz.func19,Tryz.ntmps19
 go_wp2_with (first | ((with_reducible refine Qac (f:=42) rfl ?_); refine gl (some 5) Tryz.func42 #[.slice A0 l0.length c0] (h := ?_); (with_reducible refine (tree_May.calls _ _ l0 false _ ?side1 ?side2 A2.out).mono ?_); (case side1 => repeat (first | exact HR0.out | (with_reducible refine Kd.C_alloc ?_ _) | (with_reducible refine Kd.C_drewN ?_ _) | (with_reducible refine Kd.C_drew ?_))); (case side2 => exact HC0.out); rintro e w7 ⟨rfl,hb⟩; refine ⟨_,rfl, ?_⟩; replace HB:=bs HB hb; clear hb))
 go_ret2
 exact ⟨_,re,by first | exact Kd.R_nil _ _ _ _ _ | exact Kd.N_nil _ _ _ _ _ | exact Kd.V_nil _ _ _ _ _ | exact Kd.Q_nil _ _ _ _ _ | exact Kd.S_nil _ _ _ _ _,bw HB⟩
end
section
def t_doc_At.T1 : Bool × List (List Nat × List Nat):=(true,[([],[]),([],[]),([],[]),([2],[2]),([],[]),([4],[4]),([1,3,5],[1,3,5]),([0,6],[0,6]),([7],[7]),([8],[8]),([9],[9]),([],[]),([11],[11]),([10,12],[10,12]),([13],[13]),([14,6,0,1,2,3,4,5,6,7,8,9,10,11,12,13,14],[14])])
def t_doc_At.B1 : List Nat:=[0,0,0,4,0,16,62,127,255,511,1023,0,2048,8191,16383,32767]
theorem t_doc_At.tab1 : rtab .any (Qcj Tryz.f58 1) = t_doc_At.T1:=by kernel_rfl
theorem t_doc_At.bits1 : Qau t_doc_At.T1.2 t_doc_At.B1 = true:=by kernel_rfl
end
section
theorem runesFrom_eq (s : ByteArray) : ∀ (n i : Nat) (acc : Array Value),Conv.runesFrom s n i acc = acc ++ ((Qbu s n i).map (Value.int .i32)).toArray
 | 0,i,acc => by simp [Conv.runesFrom,Qbu]
 | n + 1,i,acc => by
  unfold Conv.runesFrom Qbu
  by_cases h : i < s.size
  ·rw [if_pos h,if_pos h]
   refine (runesFrom_eq s n (i + (Utf8.decode s i).2) (acc.push (.int .i32 ((Utf8.decode s i).1 : Int)))).trans ?_
   simp
  ·rw [if_neg h,if_neg h]; simp
theorem runesFrom_all (s : ByteArray) : Conv.runesFrom s s.size 0 #[] = ((Qbh s).map (Value.int .i32)).toArray:=by rw [runesFrom_eq]; simp [Qbh]
def doc_At.f (l0 : List (SOp)) (a1_0 : Int) (a1_1 : Int) (a1_2 : Int) : Option (Int) :=
 if l0.length <= 1000000 /\ 0 <= Qbb l0 a1_0 a1_1 /\ 0 <= a1_2 /\ a1_2 < (Qai (Qad l0 (Qbb l0 a1_0 a1_1)) : Int) /\ Qai (Qad l0 (Qbb l0 a1_0 a1_1)) <= 1000000 then some ((Qbh (Qad l0 (Qbb l0 a1_0 a1_1)).f4).getD a1_2.toNat 0) else none
theorem doc_At.calls (A0 : Option Addr) (c0 : Nat) (l0 : List (SOp)) (a1_0 : Int) (a1_1 : Int) (a1_2 : Int) (r : Int) (w : World) (hr0 : Kd.C kOp w A0 l0.length l0) (hc0 : l0.length <= c0) (h : doc_At.f l0 a1_0 a1_1 a1_2 = some r) :
  Calls Tryz.prog 58 #[.slice A0 l0.length c0, .agg #[.int .i64 a1_0, .int .i64 a1_1, .int .i64 a1_2]] w fun e w' => e = .returned (.int .i32 r) /\ Below w.heap.size w w':=by
 unfold doc_At.f at h
 split at h
 case isFalse => cases h
 rename_i hq
 obtain ⟨hl,hf0,h2,h3,h4⟩:=hq
 obtain rfl:=Zo h
 clear h
 obtain ⟨i,hi,hfi⟩ : ∃ i,i < l0.length /\ Qbb l0 a1_0 a1_1 = (i : Int):=by
  rcases Qav l0 a1_0 a1_1 with ⟨i,hi,_,_,_,e⟩ | ⟨_,e⟩
  ·exact ⟨i,hi,e⟩
  ·omega
 have hcF:=fun W (hb : Below w.heap.size w W) => tree_Find.calls A0 c0 l0 a1_0 a1_1 (i : Int) W (Kd.C_below hr0 hb) hc0 (by rw [tree_Find_f hl,hfi])
 rw [hfi] at h3 h4 ⊢
 have hi0 : (0 : Int) <= (i : Int):=by omega
 have hi1 : (i : Int) < (l0.length : Int):=by omega
 obtain ⟨ad,A7,c7,rfl,x0,x1,x2,x3,x4,x5,x6,x7,x8,x9,x10,l7,g7⟩:=Qby hr0 (i : Int) hi0 hi1
 simp only [Int.toNat_natCast] at x6
 generalize Qad l0 (i : Int) = o at x6 h3 h4 ⊢
 clear x0 x1 x2 x3 x4 x5 x7 x8 x9 x10 l7 g7 hr0 hf0 hfi hi hl
 have HF:=Zz.k hcF
 clear hcF
 obtain ⟨j,rfl⟩ : ∃ j : Nat,a1_2 = (j : Int):=⟨a1_2.toNat,by omega⟩
 have hj : j < (Qbh o.f4).length:=by have : Qai o = (Qbh o.f4).length:=rfl; omega
 rw [Int.toNat_natCast]
 generalize hrv : (Qbh o.f4).getD j 0 = rv
 have HRV:=Zz.k hrv
 clear hrv
 have hru:=Tryz.underlying9
 have hrs:=Tryz.underlying79
 have hri:=Tryz.underlying21
 have hal : Below w.heap.size w (w.alloc (.cells #[.int .i64 a1_0, .int .i64 a1_1, .int .i64 (j : Int)] 32)):=Qag (Below.refl _ _) _
 have y6:=Qab hal x6
 have b0 : (w.alloc (.cells #[.int .i64 a1_0, .int .i64 a1_1, .int .i64 (j : Int)] 32)).cell? ⟨w.heap.size,0,none⟩ = some (.int .i64 a1_0):=by simp
 have b1 : (w.alloc (.cells #[.int .i64 a1_0, .int .i64 a1_1, .int .i64 (j : Int)] 32)).cell? ⟨w.heap.size,1,none⟩ = some (.int .i64 a1_1):=by simp
 have b2 : (w.alloc (.cells #[.int .i64 a1_0, .int .i64 a1_1, .int .i64 (j : Int)] 32)).cell? ⟨w.heap.size,2,none⟩ = some (.int .i64 (j : Int)):=by simp
 have HAL:=Zz.k hal
 have HB3:=Zz.k h3
 have HB4:=Zz.k h4
 clear hal x6 h3 h4 h2
 go_enter Tryz.func58,Tryz.ntmps58
 go_wp2_with fail
 refine stL (S:=fun w' => w'.cell? ⟨w.heap.size,0,none⟩ = some (.int .i64 a1_0) /\ w'.cell? ⟨w.heap.size,1,none⟩ = some (.int .i64 a1_1) /\ w'.cell? ⟨w.heap.size,2,none⟩ = some (.int .i64 (j : Int)) /\ w'.cell? ⟨(ad.add (i * 11)).block,(ad.add (i * 11)).off + 6,none⟩ = some (.string o.f4)) [14] 16 t_doc_At.bits1 t_doc_At.tab1 (hS:=⟨b0,b1,b2,y6⟩) (h:=fun hS HT HW => ?_)
 refine pu HT 0 5 1 (h := ?_)
 refine pu HT 1 6 3 (h := ?_)
 refine pu HT 2 7 7 (h := ?_)
 refine tk HT HW hS 3 8 15 (h := ?_)
 refine pu HT 4 9 31 (h := ?_)
 refine tk HT HW hS 5 10 63 (h := ?_)
 refine pu HT 11 16 2111 (h := ?_)
 refine tk HT HW hS 12 17 6207 (h := ?_)
 refine ca HT 6 (some 11) 6271 #[.slice (some ad) l0.length c0, .int .i64 a1_0, .int .i64 a1_1] Tryz.func62 (h:=fun K hK => ?_)
 refine (HF.out _ (Qae HAL.out)).mono ?_
 rintro e w3 ⟨rfl,hb3⟩
 refine ⟨_,rfl, ?_⟩
 refine hK.out _ _ ⟨Qab hb3 b0,Qab hb3 b1,Qab hb3 b2,Qab hb3 y6⟩ (fun hS => ?_)
 have HBW:=Zz.k (Qas (Qae HAL.out) hb3)
 clear hK hb3 b0 b1 b2 y6 HF
 refine nm (h := ?_)
 refine pu HT 7 12 6399 (h := ?_)
 refine pu HT 8 13 6655 (h := ?_)
 refine tk HT HW hS 9 14 7167 (h := ?_)
 have hcv:=run_runes_of_string (P:=Tryz.prog) w3 9 79 21 o.f4 hru hrs hri (by rw [runesFrom_all]; have hs : Qai o = (Qbh o.f4).length:=rfl; simp; have:=HB4.out; omega)
 rw [runesFrom_all] at hcv
 have hcap:=grownCap_ge w3 ((Qbh o.f4).map (Value.int .i32)).toArray.size 0 21
 generalize hgc : grownCap w3 ((Qbh o.f4).map (Value.int .i32)).toArray.size 0 21 = gc at hcv hcap
 have hsz : ((Qbh o.f4).map (Value.int .i32)).toArray.size = (Qbh o.f4).length:=by simp
 rw [hsz] at hcv hcap
 have hcell : (w3.drew.alloc (.cells (((Qbh o.f4).map (Value.int .i32)).toArray ++ Array.replicate (gc - (Qbh o.f4).length) (.int .i32 0)) 21)).cell? ⟨w3.heap.size,j,none⟩ = some (.int .i32 rv):=by
  rw [<- HRV.out]
  have:=top_cell w3.drew (((Qbh o.f4).map (Value.int .i32)).toArray ++ Array.replicate (gc - (Qbh o.f4).length) (.int .i32 0)) 21 w3.heap.size j rfl
  rw [this,Array.getElem?_append_left (by simp; exact hj)]
  simp [List.getD_eq_getElem?_getD,hj]
 have HBE:=Zz.k (Qas HBW.out (Qag (Qae (Below.refl w3.heap.size w3)) (.cells (((Qbh o.f4).map (Value.int .i32)).toArray ++ Array.replicate (gc - (Qbh o.f4).length) (.int .i32 0)) 21)))
 have hjz : (j : Int) < ((Qbh o.f4).length : Int):=by omega
 have hj0 : (0 : Int) <= (j : Int):=by omega
 have hbv:=Qag (Qae (Below.refl w3.heap.size w3)) (.cells (((Qbh o.f4).map (Value.int .i32)).toArray ++ Array.replicate (gc - (Qbh o.f4).length) (.int .i32 0)) 21)
 have s0:=Qab hbv hS.1
 have s1:=Qab hbv hS.2.1
 have s2:=Qab hbv hS.2.2.1
 have s3:=Qab hbv hS.2.2.2
 clear hbv
 generalize w3.drew.alloc (.cells (((Qbh o.f4).map (Value.int .i32)).toArray ++ Array.replicate (gc - (Qbh o.f4).length) (.int .i32 0)) 21) = w4 at hcv hcell HBE s0 s1 s2 s3
 generalize (Qbh o.f4).length = rl at hcv hjz hcap
 refine exS HT 10 (some 15) 8191 (.slice (some ⟨w3.heap.size,0,none⟩) rl gc) w4 (hrun := ?_) (hS:=⟨s0,s1,s2,s3⟩) (h:=fun hS => ?_)
 ·go_simp
 clear hcv hcap hsz hS
 refine nm (h := ?_)
 refine pu HT 13 18 16383 (h := ?_)
 refine exL HT 14 (some 19) 32767 (.int .i32 rv) w4 (hrun := ?_) (h := ?_)
 ·go_simp
 refine nm (h := ?_)
 refine pu HT 15 4 65535 (h := ?_)
 refine dn HT (h := ?_)
 clear HT HW
 go_wp2
 go_ret
 exact ⟨rfl,HBE.out⟩
end
section
theorem infoI32 : (Tryz.prog.info? 21).map (fun i => (i.zero,i.size,i.bytes)) = some (some (.int .i32 0),1,4):=by kernel_rfl
def atR (l : List SOp) (e : SElem) : Int:=(Qbh (Qad l (Qbb l e.f0 e.f1)).f4).getD e.f2.toNat 0
def plainR (l : List SOp) : ByteArray:=runesBytes ((Qbz l).map (atR l))
def doc_Plain.f (l0 : List (SOp)) : Option (ByteArray):=if smalls l0 = true /\ mayB l0 = true then some (plainR l0) else none
theorem At_ok {l : List SOp} (h : RowOk l) {e : SElem} (he : e ∈ ordL l) : doc_At.f l e.f0 e.f1 e.f2 = some (atR l e):=by
 obtain ⟨p,hp,e0,e1,h2,h3⟩:=(Qdh h e).1 he
 obtain ⟨i,hi,ef,ei⟩:=Qcg h hp
 rw [e0,e1] at ef
 have hs:=(Qcp (h.oks p hp)).1
 have h40:=h.sums.1
 unfold doc_At.f atR
 rw [ef,Qam _ _ hi,ei,if_pos ⟨by omega,by omega,h2,h3,by omega⟩]
theorem doc_Plain.calls (A0 : Option Addr) (c0 : Nat) (l0 : List (SOp)) (r : ByteArray) (w : World) (hr0 : Kd.C kOp w A0 l0.length l0) (hc0 : l0.length <= c0) (h : doc_Plain.f l0 = some r) :
  Calls Tryz.prog 52 #[.slice A0 l0.length c0] w fun e w' => e = .returned (.string r) /\ Below w.heap.size w w':=by
 unfold doc_Plain.f at h
 split at h
 case isFalse => cases h
 rename_i hsm
 obtain rfl:=Zo h
 have hrow:=(Qci l0).1 hsm.2
 have hcS:=doc_Seen.calls A0 c0 l0 (Qbz l0) w hr0 hc0 (by unfold doc_Seen.f; rw [if_pos hsm])
 have hru:=Tryz.underlying9
 have hrs:=Tryz.underlying79
 have hri:=Tryz.underlying21
 have HR0:=Zz.k hr0
 have HC0:=Zz.k hc0
 have HS:=Zz.k hcS
 have HROW:=Zz.k hrow
 clear hr0 hc0 h hcS hsm hrow
 go_enter Tryz.func52,Tryz.ntmps52
 go_wp2_with fail
 refine HS.out.mono ?_
 rintro e wS ⟨vS,rfl,hRS,hbS⟩
 obtain ⟨AS,cS,rfl,hcS,hCS⟩:=Kd.R_reads hRS
 have HBS:=Zz.k hbS
 have HCS:=Zz.k hCS
 have hlen : (Qbz l0).length <= 200:=Nat.le_trans (List.length_filter_le _ _) (by rw [(ordL_nodup HROW.out).2]; exact HROW.out.sums.2)
 have HLEN:=Zz.k hlen
 clear hRS hbS hCS hcS hlen HS
 go_wp2
 go_loopg [3,9] (Qbz l0).length (fun gg s3 s9 w' => ∃ j : Nat,j <= (Qbz l0).length /\ (Qbz l0).length - j <= gg /\ s9 = .int .i64 j /\ Zz (Below wS.heap.size wS w') /\ Zz (Kd.R (Kd.int .i32) 21 w' wS.heap.size (fun _ => True) s3 (((Qbz l0).take j).map (atR l0))))
 case atStart => exact ⟨0,Nat.zero_le _,by omega,rfl,⟨Below.refl _ _⟩,⟨Kd.R_nil _ _ _ _ _⟩⟩
 case round =>
  obtain ⟨j,hj,hgk,rfl,HB,HR⟩:=hrel
  by_cases hjl : j < (Qbz l0).length
  ·obtain ⟨g2,rfl⟩ : ∃ g2,gk = g2 + 1:=⟨gk - 1,by omega⟩
   have hjz : (j : Int) < ((Qbz l0).length : Int):=by omega
   have hj0 : (0 : Int) <= (j : Int):=by omega
   obtain ⟨ad7,rfl,y0,y1,y2⟩:=Qat (Kd.C_below HCS.out HB.out) (j : Int) hj0 hjz
   simp only [Int.toNat_natCast,Qaq _ _ hjl] at y0 y1 y2
   have hmem : (Qbz l0)[j] ∈ ordL l0:=(seen_mem.1 (List.getElem_mem hjl)).1
   have hat:=At_ok HROW.out hmem
   have htk : ((Qbz l0).take (j + 1)).map (atR l0) = ((Qbz l0).take j).map (atR l0) ++ [atR l0 (Qbz l0)[j]]:=by rw [List.take_succ_eq_append_getElem hjl,List.map_append]; rfl
   have HTK:=Zz.k htk
   clear htk
   generalize hxe : (Qbz l0)[j] = x at y0 y1 y2 hat HTK
   generalize atR l0 x = rv at hat HTK
   have hal : Below wr.heap.size wr (wr.alloc (.cells #[.int .i64 x.f0, .int .i64 x.f1, .int .i64 x.f2] 32)):=Qag (Below.refl _ _) _
   have hbw : Below wS.heap.size wS (wr.alloc (.cells #[.int .i64 x.f0, .int .i64 x.f1, .int .i64 x.f2] 32)):=Qas HB.out hal
   have HAT:=Zz.k (doc_At.calls A0 c0 l0 x.f0 x.f1 x.f2 rv _ (Kd.C_below HR0.out (Qas HBS.out hbw)) HC0.out hat)
   have HB2:=Zz.k hbw
   have HR2:=Zz.k (Kd.R_below HR.out hal)
   clear hal hbw hat hxe hmem HB HR
   go_wp2_with fail
   refine HAT.out.mono ?_
   rintro e w5 ⟨rfl,hb5⟩
   have HB5:=Zz.k (Qas HB2.out hb5)
   have HR5:=Zz.k (Kd.R_below HR2.out hb5)
   clear hb5 HB2 HR2 HAT
   have hl200 : (((Qbz l0).take j).map (atR l0)).length <= 200:=by rw [List.length_map,List.length_take]; have:=HLEN.out; omega
   have hsz5:=HB5.out.size
   have hl2:=HLEN.out
   go_wp2_with (first | ((with_reducible refine Qbs (b:=.append) (xs:=#[.tmp 13, .tmp 17]) rfl ?_); at_builtin; refine Kd.R_append (Kd.int .i32) (w0:=wS) wS.heap.size rfl (.tmp 13) (.tmp 17) 79 21 (.int .i32 0) 4 rfl Tryz.underlying79 infoI32 rfl (by decide) (by omega) u3 (((Qbz l0).take j).map (atR l0)) rv [.int .i32 rv] (fun _ => True) (fun _ => False) rfl rfl ?aP (fun _ hk => hk.elim) ?aF ?aO ?aB ?aS ?aL ?_; (case aP => exact rfl); (case aB => exact HB5.out); (case aF => exact (fun _ _ => trivial)); (case aO => exact HR5.out); (case aS => exact hsz5); (case aL => omega); intro v1 w6 ho hb hg hat; have HO:=Zz.k ho; have HBB:=Zz.k hb; clear ho hb hg hat))
   go_roundg g2
   case measure => omega
   case rel => exact ⟨j + 1,by omega,by omega,by go_num,HBB,⟨by rw [HTK.out]; exact HO.out⟩⟩
  ·obtain rfl : j = (Qbz l0).length:=by omega
   have hjz : ¬ ((Qbz l0).length : Int) < ((Qbz l0).length : Int):=by omega
   rw [List.take_length] at HR
   obtain ⟨AR,cR,rfl,hcR,hCR⟩:=Kd.R_reads HR.out
   have hcv : ∀ v,(convert 79 9 (.slice AR ((Qbz l0).map (atR l0)).length cR)).run Tryz.prog wr = .ok v wr -> v = .string (plainR l0) -> True:=fun _ _ _ => trivial
   have hcv : (convert 79 9 (.slice AR ((Qbz l0).map (atR l0)).length cR)).run Tryz.prog wr = .ok (.string (plainR l0)) wr:=by
    unfold plainR
    cases AR with
    | none =>
     cases hz : (Qbz l0).map (atR l0) with
     | nil => exact run_convert_runes_nil wr _ _ 21 _ _ hrs hri hru
     | cons a b =>
      rw [hz] at hCR
      obtain ⟨ad,e,_⟩:=Kd.at_int hCR 0 (Int.le_refl _) (by simp)
      cases e
    | some ad =>
     have:=run_convert_runes (P:=Tryz.prog) wr 79 9 21 ad ((Qbz l0).map (atR l0)).length cR ((Qbz l0).map (atR l0)) (Nat.le_refl _) hrs hri hru (fun q hq => by
      obtain ⟨ad',e,hc⟩:=Kd.at_int hCR (q : Int) (by omega) (by omega)
      injection e with e
      subst e
      rw [Int.toNat_natCast] at hc
      rw [hc]; unfold rd; rw [Int.toNat_natCast])
     rw [List.take_length] at this
     exact this
   have HBE:=Zz.k (Qas HBS.out HB.out)
   clear hcR hCR HR HB
   generalize ((Qbz l0).map (atR l0)).length = nn at hcv
   go_wp2
   go_ret
   exact ⟨rfl,HBE.out⟩
end
section
attribute [local go_sem] Qbl Qbj Qbp Qbo Qba Qaz Qbk Qbi
def doc_Text.f (l0 : List (SOp)) : Option (ByteArray × Int):=(tree_May.f l0).bind fun t494 => (if t494 = true then ((doc_Plain.f l0).bind fun t495 => (some (t495,0))) else (some ((⟨#[]⟩ : ByteArray),1)))
theorem doc_Text.calls (A0 : Option Addr) (c0 : Nat) (l0 : List (SOp)) (r1 : ByteArray) (r2 : Int) (w : World) (hr0 : Kd.C kOp w A0 l0.length l0) (hc0 : l0.length <= c0) (h : doc_Text.f l0 = some (r1,r2)) :
  Calls Tryz.prog 20 #[.slice A0 l0.length c0] w fun e w' => e = .returned (.tuple #[.string r1, .int .i64 r2]) /\ Below w.heap.size w w':=by
 have HR0:=Zz.k hr0
 have HC0:=Zz.k hc0
 clear hr0 hc0
 have HB:=Zz.k (Below.refl w.heap.size w)
 unfold doc_Text.f at h; have H:=h
 clear h
 obtain ⟨t494,A2,H⟩:=bE H
 by_cases c3 : t494 = true
 ·subst c3
  rw [if_pos rfl] at H
  obtain ⟨t495,A4,H⟩:=bE H
  simp only [Option.some.injEq,Prod.mk.injEq] at H
  obtain ⟨rfl,rfl⟩:=H
  go_enter Tryz.func20,Tryz.ntmps20
  go_wp2_with (first | ((with_reducible refine Qac (f:=42) rfl ?_); refine gl (some 5) Tryz.func42 #[.slice A0 l0.length c0] (h := ?_); (with_reducible refine (tree_May.calls _ _ l0 true _ ?side1 ?side2 A2.out).mono ?_); (case side1 => repeat (first | exact HR0.out | (with_reducible refine Kd.C_alloc ?_ _) | (with_reducible refine Kd.C_drewN ?_ _) | (with_reducible refine Kd.C_drew ?_))); (case side2 => exact HC0.out); rintro e w5 ⟨rfl,hb⟩; refine ⟨_,rfl, ?_⟩; replace HB:=bs HB hb; clear hb) | ((with_reducible refine Qac (f:=52) rfl ?_); refine gl (some 8) Tryz.func52 #[.slice A0 l0.length c0] (h := ?_); (with_reducible refine (doc_Plain.calls _ _ l0 t495 _ ?side1 ?side2 A4.out).mono ?_); (case side1 => exact cb HR0 HB); (case side2 => exact HC0.out); rintro e w6 ⟨rfl,hb⟩; refine ⟨_,rfl, ?_⟩; replace HB:=bs HB hb; clear hb))
  go_ret2
  exact ⟨re,bw HB⟩
 replace c3:=Zf c3
 subst c3
 rw [if_neg nft] at H
 simp only [Option.some.injEq,Prod.mk.injEq] at H
 obtain ⟨rfl,rfl⟩:=H
 go_enter Tryz.func20,Tryz.ntmps20
 go_wp2_with (first | ((with_reducible refine Qac (f:=42) rfl ?_); refine gl (some 5) Tryz.func42 #[.slice A0 l0.length c0] (h := ?_); (with_reducible refine (tree_May.calls _ _ l0 false _ ?side1 ?side2 A2.out).mono ?_); (case side1 => repeat (first | exact HR0.out | (with_reducible refine Kd.C_alloc ?_ _) | (with_reducible refine Kd.C_drewN ?_ _) | (with_reducible refine Kd.C_drew ?_))); (case side2 => exact HC0.out); rintro e w7 ⟨rfl,hb⟩; refine ⟨_,rfl, ?_⟩; replace HB:=bs HB hb; clear hb))
 go_ret2
 exact ⟨re,bw HB⟩
def r4_Rune.f (k : Nat) (l0 : List (SOp)) (a1_0 : Int) (a1_1 : Int) (a1_2 : Int) : Option (Int):=(r4_Find.f k l0 a1_0 a1_1).bind fun t497 => (if 0 <= t497 then (if t497 < (l0.length : Int) then ((r1_Runes.f k ((Qad l0 t497).f4)).bind fun bt499 => (if 0 <= a1_2 then (if a1_2 < (bt499.1.length : Int) then (some (rd bt499.1 a1_2)) else (none)) else (none))) else (none)) else (none))
theorem r4_Rune.calls (k : Nat) (A0 : Option Addr) (c0 : Nat) (l0 : List (SOp)) (a1_0 : Int) (a1_1 : Int) (a1_2 : Int) (r : Int) (w : World) (hr0 : Kd.C kOp w A0 l0.length l0) (hc0 : l0.length <= c0) (hT : GT w) (h : r4_Rune.f k l0 a1_0 a1_1 a1_2 = some r) :
  Calls Tryz.prog 31 #[.slice A0 l0.length c0, .agg #[.int .i64 a1_0, .int .i64 a1_1, .int .i64 a1_2]] w fun e w' => e = .returned (.int .i32 r) /\ Below w.heap.size w w':=by
 have hu32:=Tryz.underlying32
 have HR0:=Zz.k hr0
 have HC0:=Zz.k hc0
 clear hr0 hc0
 have HB:=Zz.k (Below.refl w.heap.size w)
 unfold r4_Rune.f at h; have H:=h
 clear h
 obtain ⟨t497,A3,H⟩:=bE H
 by_cases c4 : 0 <= t497; rotate_left
 ·rw [if_neg c4] at H
  exact absurd H (by simp)
 rw [if_pos c4] at H
 have c4b0:=Zd c4
 clear c4
 by_cases c5 : t497 < (l0.length : Int); rotate_left
 ·rw [if_neg c5] at H
  exact absurd H (by simp)
 rw [if_pos c5] at H
 have c5b0:=Zd c5
 clear c5
 obtain ⟨⟨t499,t500⟩,A6,H⟩:=bE H
 try dsimp only at H
 by_cases c7 : 0 <= a1_2; rotate_left
 ·rw [if_neg c7] at H
  exact absurd H (by simp)
 rw [if_pos c7] at H
 have c7b0:=Zd c7
 clear c7
 by_cases c8 : a1_2 < (t499.length : Int); rotate_left
 ·rw [if_neg c8] at H
  exact absurd H (by simp)
 rw [if_pos c8] at H
 have c8b0:=Zd c8
 clear c8
 obtain rfl:=Zo H
 go_enter Tryz.func31,Tryz.ntmps31
 go_wp2_with (first | ((with_reducible refine Qaf (N:=3) rfl ?_); refine bx 3 #[.int .i64 a1_0, .int .i64 a1_1, .int .i64 a1_2] 32 (h := ?_); intro gb496 hg w9 hbox hb; have BK496:=Zz.k (hbox); have GW496:=bz HB hg; have GE496:=bz HB hg; replace HB:=bs HB hb; clear hb hbox hg; obtain ⟨_,_,_,_,_,_⟩:=kc3 BK496) | ((with_reducible refine Qac (f:=53) rfl ?_); refine gl (some 14) Tryz.func53 #[.slice A0 l0.length c0, .int .i64 a1_0, .int .i64 a1_1] (h := ?_); (with_reducible refine (r4_Find.calls k _ _ l0 a1_0 a1_1 t497 _ ?side1 ?side2 A3.out).mono ?_); (case side1 => exact cb HR0 HB); (case side2 => exact HC0.out); rintro e w' ⟨rfl,⟨nd,rfl⟩⟩; refine ⟨_,rfl, ?_⟩; have p498 : 0 <= (t497 : Int):=od; have q498 : t497 < (l0.length : Int):=od; obtain ⟨ad498,A498_7,c498_7,e498,hx498_0,hx498_1,hx498_2,hx498_3,hx498_4,hx498_5,hx498_6,hx498_7,hx498_8,hx498_9,hx498_10,hl498_7,hi498_7⟩:=Qby HR0.out t497 p498 q498; cases e498; replace hx498_0:=cl HB hx498_0; replace hx498_1:=cl HB hx498_1; replace hx498_2:=cl HB hx498_2; replace hx498_3:=cl HB hx498_3; replace hx498_4:=cl HB hx498_4; replace hx498_5:=cl HB hx498_5; replace hx498_6:=cl HB hx498_6; replace hx498_7:=cl HB hx498_7; replace hx498_8:=cl HB hx498_8; replace hx498_9:=cl HB hx498_9; replace hx498_10:=cl HB hx498_10; have HR498_7:=Zz.k hi498_7; have HC498_7:=Zz.k hl498_7; clear hi498_7 hl498_7; replace p498:=eq_true p498; replace q498:=eq_true q498) | ((with_reducible refine Qac (f:=59) rfl ?_); refine gl (some 18) Tryz.func59 #[.string ((Qad l0 t497).f4)] (h := ?_); (with_reducible refine (r1_Runes.calls k ((Qad l0 t497).f4) t499 t500 _ ?side1 A6.out).mono ?_); (case side1 => exact (hT.below (bw HB))); rintro e w11 ⟨v501,rfl,ho0,hb⟩; refine ⟨_,rfl, ?_⟩; have HO502:=Zz.k (Kd.R_lower ho0 (Qaj (bw HB))); replace BK496:=bl BK496 hb; replace HB:=bs HB hb; clear hb; clear ho0; obtain ⟨_,_,_,_,_,_⟩:=kc3 BK496; obtain ⟨Ao13,co13,eo13⟩:=Kd.R_slice HO502.out; subst eo13; have p503 : 0 <= (a1_2 : Int):=od; have q503 : a1_2 < (t499.length : Int):=od; obtain ⟨ad503,e503,hx503_0⟩:=Kd.at_int (Kd.R_reads' HO502.out).2.2 a1_2 p503 q503; cases e503; replace p503:=eq_true p503; replace q503:=eq_true q503))
 go_ret
 exact ⟨re,bw HB⟩
def r1_Make.l0 : Nat -> List Int -> ByteArray -> Int -> Option (ByteArray)
 | 0,_,_,_ => none
 | k + 1,x0,x3,x4 => if x4 < (x0.length : Int) then (if 0 <= x4 then (if x3.size + (Utf8.encode (rd x0 x4)).size <= 9223372036854775807 then (r1_Make.l0 k x0 (x3 ++ (Utf8.encode (rd x0 x4))) (wrap64 (x4 + 1))) else (none)) else (none)) else (some x3)
def r1_Make.f (k : Nat) (l0 : List Int) : Option (ByteArray):=r1_Make.l0 k l0 (⟨#[]⟩ : ByteArray) 0
theorem r1_Make.calls (k : Nat) (A0 : Option Addr) (c0 : Nat) (l0 : List Int) (r : ByteArray) (w : World) (hr0 : Kd.C (Kd.int .i32) w A0 l0.length l0) (hc0 : l0.length <= c0) (h : r1_Make.f k l0 = some r) :
  Calls Tryz.prog 54 #[.slice A0 l0.length c0] w fun e w' => e = .returned (.string r) /\ Drawn0 w w':=by
 have HR0:=Zz.k hr0
 have HC0:=Zz.k hc0
 clear hr0 hc0
 unfold r1_Make.f at h; have H:=h
 clear h
 have H':=Zz.k H
 clear H
 go_enter Tryz.func54,Tryz.ntmps54
 go_wp2
 go_loopg [3,4] k (fun kq v3 v4 w' => ∃ (x3_1 : ByteArray) (x4_1 : Int),v3 = .string x3_1 /\ v4 = .int .i64 x4_1 /\ Zz (r1_Make.l0 kq l0 x3_1 x4_1 = some r) /\ Zz (kq <= k) /\ Drawn0 w w')
 case atStart => exact ⟨((⟨#[]⟩ : ByteArray)),(0),rf,rf,H',⟨Nat.le_refl _⟩,by repeat (first | exact Drawn0.refl _ | apply Drawn0.step)⟩
 case round =>
  clear H'
  obtain ⟨x3_1,x4_1,rfl,rfl,HA,HK1,⟨m1,rfl⟩⟩:=hrel
  cases gk with
  | zero => exact absurd HA.out (by simp [r1_Make.l0])
  | succ k1 =>
   have H:=HA.out
   clear HA
   simp only [r1_Make.l0] at H
   by_cases c2 : x4_1 < (l0.length : Int); rotate_left
   ·rw [if_neg c2] at H
    have c2b0:=Ze c2
    clear c2
    obtain rfl:=Zo H
    go_wp2
    go_ret
    exact ⟨rf,by repeat (first | exact Drawn0.refl _ | apply Drawn0.step)⟩
   rw [if_pos c2] at H
   have c2b0:=Zd c2
   clear c2
   by_cases c3 : 0 <= x4_1; rotate_left
   ·rw [if_neg c3] at H
    exact absurd H (by simp)
   rw [if_pos c3] at H
   have c3b0:=Zd c3
   clear c3
   by_cases c4 : x3_1.size + (Utf8.encode (rd l0 x4_1)).size <= 9223372036854775807; rotate_left
   ·rw [if_neg c4] at H
    exact absurd H (by simp)
   rw [if_pos c4] at H
   have c4b0:=eq_true c4
   have c4b1:=Zd c4
   try have c4b2 : (9223372036854775807 < x3_1.size + (Utf8.encode (rd l0 x4_1)).size) = False:=eq_false (Nat.not_lt.2 c4)
   have H':=Zz.k H
   clear H
   have p504 : 0 <= (x4_1 : Int):=od
   have q504 : x4_1 < (l0.length : Int):=od
   obtain ⟨ad504,e504,hx504_0⟩:=Kd.at_int HR0.out x4_1 p504 q504
   cases e504
   replace p504:=eq_true p504
   replace q504:=eq_true q504
   go_wp2
   go_roundg k1
   case measure => have:=HK1.out; omega
   case rel => exact ⟨(x3_1 ++ (Utf8.encode (rd l0 x4_1))),(wrap64 (x4_1 + 1)),rf,rf,H',⟨by have:=HK1.out; omega⟩,by repeat (first | exact Drawn0.refl _ | apply Drawn0.step)⟩
def r4_Text.l0 : Nat -> List (SOp) -> List (SElem) -> List Int -> Int -> Option (ByteArray)
 | 0,_,_,_,_ => none
 | k + 1,x0,x3,x4,x5 => if x5 < (x3.length : Int) then (if 0 <= x5 then ((r4_Rune.f k x0 ((Qaa x3 x5).f0) ((Qaa x3 x5).f1) ((Qaa x3 x5).f2)).bind fun t509 => (if x4.length < 35184372088832 then (r4_Text.l0 k x0 x3 (x4 ++ [t509]) (wrap64 (x5 + 1))) else (none))) else (none)) else ((r1_Make.f k x4).bind fun t513 => (some t513))
def r4_Text.f (k : Nat) (l0 : List (SOp)) : Option (ByteArray):=(r4_Visible.f k l0).bind fun t505 => (r4_Text.l0 k l0 t505 ([] : List Int) 0)
theorem r4_Text.calls (k : Nat) (A0 : Option Addr) (c0 : Nat) (l0 : List (SOp)) (r : ByteArray) (w : World) (hr0 : Kd.C kOp w A0 l0.length l0) (hc0 : l0.length <= c0) (hT : GT w) (h : r4_Text.f k l0 = some r) :
  Calls Tryz.prog 22 #[.slice A0 l0.length c0] w fun e w' => e = .returned (.string r) /\ Below w.heap.size w w':=by
 have hu32:=Tryz.underlying32
 have HR0:=Zz.k hr0
 have HC0:=Zz.k hc0
 clear hr0 hc0
 have HB:=Zz.k (Below.refl w.heap.size w)
 unfold r4_Text.f at h; have H:=h
 clear h
 obtain ⟨t505,A2,H⟩:=bE H
 have H':=Zz.k H
 clear H
 go_enter Tryz.func22,Tryz.ntmps22
 go_wp2_with (first | ((with_reducible refine Qac (f:=21) rfl ?_); refine gl (some 7) Tryz.func21 #[.slice A0 l0.length c0] (h := ?_); (with_reducible refine (r4_Visible.calls k _ _ l0 t505 _ ?side1 ?side2 ?side3 A2.out).mono ?_); (case side1 => repeat (first | exact HR0.out | (with_reducible refine Kd.C_alloc ?_ _) | (with_reducible refine Kd.C_drewN ?_ _) | (with_reducible refine Kd.C_drew ?_))); (case side2 => exact HC0.out); (case side3 => exact (hT.below (bw HB))); rintro e w3 ⟨v506,rfl,ho0,hb⟩; refine ⟨_,rfl, ?_⟩; have HO507:=Zz.k (Kd.R_lower ho0 (Qaj (bw HB))); replace HB:=bs HB hb; clear hb; clear ho0))
 go_loopg [4,5] k (fun kq v4 v5 w' => ∃ (x4_1 : List Int) (x5_1 : Int),v5 = .int .i64 x5_1 /\ Zz (r4_Text.l0 kq l0 t505 x4_1 x5_1 = some r) /\ Zz (kq <= k) /\ Zz (Kd.R Qao 32 w' w.heap.size (fun _ => True) v506 t505) /\ Zz (Kd.R (Kd.int .i32) 21 w' w.heap.size (fun _ => True) v4 x4_1) /\ Zz (Below w.heap.size w w'))
 case atStart => exact ⟨(([] : List Int)),(0),rf,H',⟨Nat.le_refl _⟩,⟨rk HO507⟩,⟨by first | exact Kd.R_nil _ _ _ _ _ | exact Kd.N_nil _ _ _ _ _ | exact Kd.V_nil _ _ _ _ _ | exact Kd.Q_nil _ _ _ _ _ | exact Kd.S_nil _ _ _ _ _⟩,⟨bw HB⟩⟩
 case round =>
  clear H'
  obtain ⟨x4_1,x5_1,rfl,HA,HK1,HO_3,HO_4,HB⟩:=hrel
  cases gk with
  | zero => exact absurd HA.out (by simp [r4_Text.l0])
  | succ k1 =>
   have H:=HA.out
   clear HA
   simp only [r4_Text.l0] at H
   by_cases c4 : x5_1 < (t505.length : Int); rotate_left
   ·rw [if_neg c4] at H
    have c4b0:=Ze c4
    clear c4
    obtain ⟨t513,A11,H⟩:=bE H
    obtain rfl:=Zo H
    obtain ⟨Ao12,co12,eo12⟩:=Kd.R_slice HO_3.out
    subst eo12
    obtain ⟨Ao13,co13,eo13⟩:=Kd.R_slice HO_4.out
    subst eo13
    go_wp2_with (first | ((with_reducible refine Qac (f:=54) rfl ?_); refine gl (some 24) Tryz.func54 #[.slice Ao13 x4_1.length co13] (h := ?_); (with_reducible refine (r1_Make.calls k1 _ _ x4_1 t513 _ ?side1 ?side2 A11.out).mono ?_); (case side1 => exact cr HO_4); (case side2 => exact (Kd.R_reads' HO_4.out).2.1); rintro e w' ⟨rfl,⟨nd,rfl⟩⟩; refine ⟨_,rfl, ?_⟩))
    go_ret
    exact ⟨re,bw HB⟩
   rw [if_pos c4] at H
   have c4b0:=Zd c4
   clear c4
   by_cases c5 : 0 <= x5_1; rotate_left
   ·rw [if_neg c5] at H
    exact absurd H (by simp)
   rw [if_pos c5] at H
   have c5b0:=Zd c5
   clear c5
   obtain ⟨t509,A6,H⟩:=bE H
   by_cases c7 : x4_1.length < 35184372088832; rotate_left
   ·rw [if_neg c7] at H
    exact absurd H (by simp)
   rw [if_pos c7] at H
   have LMc7:=Zz.k c7
   clear c7
   obtain ⟨y510,hy510⟩ : ∃ y_ : List Int,y_ = (x4_1 ++ [t509]):=⟨_,rfl⟩
   first | rw [Option.bind_some,<- hy510] at H | rw [<- hy510] at H
   have Ny510:=Zz.k hy510
   clear hy510
   have H':=Zz.k H
   clear H
   obtain ⟨Ao8,co8,eo8⟩:=Kd.R_slice HO_3.out
   subst eo8
   have p508 : 0 <= (x5_1 : Int):=od
   have q508 : x5_1 < (t505.length : Int):=od
   obtain ⟨ad508,e508,hx508_0,hx508_1,hx508_2⟩:=Qat (Kd.R_reads' HO_3.out).2.2 x5_1 p508 q508
   cases e508
   replace p508:=eq_true p508
   replace q508:=eq_true q508
   go_wp2_with (first | ((with_reducible refine Qac (f:=31) rfl ?_); refine gl (some 20) Tryz.func31 #[.slice A0 l0.length c0, .agg #[.int .i64 ((Qaa t505 x5_1).f0), .int .i64 ((Qaa t505 x5_1).f1), .int .i64 ((Qaa t505 x5_1).f2)]] (h := ?_); (with_reducible refine (r4_Rune.calls k1 _ _ l0 ((Qaa t505 x5_1).f0) ((Qaa t505 x5_1).f1) ((Qaa t505 x5_1).f2) t509 _ ?side1 ?side2 ?side3 A6.out).mono ?_); (case side1 => exact cb HR0 HB); (case side2 => exact HC0.out); (case side3 => exact (hT.below (bw HB))); rintro e w9 ⟨rfl,hb⟩; refine ⟨_,rfl, ?_⟩; replace HO_3:=rb HO_3 hb; replace HO_4:=rb HO_4 hb; replace HB:=bs HB hb; clear hb) | ((with_reducible refine Qbs (b:=.append) (xs:=#[.tmp 14, .tmp 21]) rfl ?_); at_builtin; refine Kd.R_append (Kd.int .i32) (w0:=w) w.heap.size rfl (.tmp 14) (.tmp 21) 79 21 (.int .i32 0) 4 rfl Tryz.underlying79 info21 rfl (by decide) (by omega) u4 x4_1 t509 [.int .i32 t509] (fun _ => True) (fun _ => False) rfl rfl ?aP (fun _ hk => hk.elim) ?aF ?aO ?aB ?aS ?aL ?_; (case aP => exact rfl); (case aB => exact (bw HB)); (case aF => exact (fun _ _ => trivial)); (case aO => exact (rk HO_4)); (case aS => exact (Qaj (bw HB))); (case aL => have:=LMc7.out; omega); intro v511 w10 ho hb hg hat; rw [<- Ny510.out] at ho; have n0_:=Zz.k (Kd.R_over' (rk HO_3) (Kd.R_typed (rk HO_4)) (by decide) hg); have n1_:=Zz.k (hb); have n2_:=Zz.k (ho); clear HO_3; clear HB; clear HO_4; have HO_3:=n0_; have HB:=n1_; have HO512:=n2_; clear n0_ n1_ n2_; clear ho hb hg hat))
   go_roundg k1
   case measure => have:=HK1.out; omega
   case rel => exact ⟨(y510),(wrap64 (x5_1 + 1)),rf,H',⟨by have:=HK1.out; omega⟩,⟨rk HO_3⟩,⟨rk HO512⟩,⟨bw HB⟩⟩
def w6_num.f (a0 : Int) : Option (Int):=some a0
theorem w6_num.calls (a0 : Int) (r : Int) (w : World) (h : w6_num.f a0 = some r) :
  Calls Tryz.prog 23 #[.int .i64 a0] w fun e w' => e = .returned (.int .i64 r) /\ Drawn0 w w':=by
 unfold w6_num.f at h; have H:=h
 clear h
 obtain rfl:=Zo H
 go_enter Tryz.func23,Tryz.ntmps23
 go_wp2
 go_ret
 exact ⟨rf,by repeat (first | exact Drawn0.refl _ | apply Drawn0.step)⟩
def doc_Edit.f (l0 : List (SOp)) (a1 : Int) (a2 : Int) : Option (Int × Int):=(tree_May.f l0).bind fun t514 => (if t514 = true then ((tree_Find.f l0 a1 a2).bind fun t515 => (if t515 < 0 then (some (0,3)) else (if 0 <= t515 then (if t515 < (l0.length : Int) then (if ((Qad l0 t515).f2) = 1 then (some (t515,0)) else (some (0,3))) else (none)) else (none)))) else (some (0,1)))
theorem doc_Edit.calls (A0 : Option Addr) (c0 : Nat) (l0 : List (SOp)) (a1 : Int) (a2 : Int) (r1 : Int) (r2 : Int) (w : World) (hr0 : Kd.C kOp w A0 l0.length l0) (hc0 : l0.length <= c0) (h : doc_Edit.f l0 a1 a2 = some (r1,r2)) :
  Calls Tryz.prog 55 #[.slice A0 l0.length c0, .int .i64 a1, .int .i64 a2] w fun e w' => e = .returned (.tuple #[.int .i64 r1, .int .i64 r2]) /\ Below w.heap.size w w':=by
 have HR0:=Zz.k hr0
 have HC0:=Zz.k hc0
 clear hr0 hc0
 have HB:=Zz.k (Below.refl w.heap.size w)
 unfold doc_Edit.f at h; have H:=h
 clear h
 obtain ⟨t514,A4,H⟩:=bE H
 by_cases c5 : t514 = true; rotate_left
 ·replace c5:=Zf c5
  subst c5
  rw [if_neg nft] at H
  simp only [Option.some.injEq,Prod.mk.injEq] at H
  obtain ⟨rfl,rfl⟩:=H
  go_enter Tryz.func55,Tryz.ntmps55
  go_wp2_with (first | ((with_reducible refine Qac (f:=42) rfl ?_); refine gl (some 10) Tryz.func42 #[.slice A0 l0.length c0] (h := ?_); (with_reducible refine (tree_May.calls _ _ l0 false _ ?side1 ?side2 A4.out).mono ?_); (case side1 => repeat (first | exact HR0.out | (with_reducible refine Kd.C_alloc ?_ _) | (with_reducible refine Kd.C_drewN ?_ _) | (with_reducible refine Kd.C_drew ?_))); (case side2 => exact HC0.out); rintro e w17 ⟨rfl,hb⟩; refine ⟨_,rfl, ?_⟩; replace HB:=bs HB hb; clear hb))
  go_ret2
  exact ⟨re,bw HB⟩
 subst c5
 rw [if_pos rfl] at H
 obtain ⟨t515,A6,H⟩:=bE H
 by_cases c7 : t515 < 0
 ·rw [if_pos c7] at H
  have c7b0:=Zd c7
  clear c7
  simp only [Option.some.injEq,Prod.mk.injEq] at H
  obtain ⟨rfl,rfl⟩:=H
  go_enter Tryz.func55,Tryz.ntmps55
  go_wp2_with (first | ((with_reducible refine Qac (f:=42) rfl ?_); refine gl (some 10) Tryz.func42 #[.slice A0 l0.length c0] (h := ?_); (with_reducible refine (tree_May.calls _ _ l0 true _ ?side1 ?side2 A4.out).mono ?_); (case side1 => repeat (first | exact HR0.out | (with_reducible refine Kd.C_alloc ?_ _) | (with_reducible refine Kd.C_drewN ?_ _) | (with_reducible refine Kd.C_drew ?_))); (case side2 => exact HC0.out); rintro e w8 ⟨rfl,hb⟩; refine ⟨_,rfl, ?_⟩; replace HB:=bs HB hb; clear hb) | ((with_reducible refine Qac (f:=62) rfl ?_); refine gl (some 15) Tryz.func62 #[.slice A0 l0.length c0, .int .i64 a1, .int .i64 a2] (h := ?_); (with_reducible refine (tree_Find.calls _ _ l0 a1 a2 t515 _ ?side1 ?side2 A6.out).mono ?_); (case side1 => exact cb HR0 HB); (case side2 => exact HC0.out); rintro e w9 ⟨rfl,hb⟩; refine ⟨_,rfl, ?_⟩; replace HB:=bs HB hb; clear hb))
  go_ret2
  exact ⟨re,bw HB⟩
 rw [if_neg c7] at H
 have c7b0:=Ze c7
 clear c7
 by_cases c10 : 0 <= t515; rotate_left
 ·rw [if_neg c10] at H
  exact absurd H (by simp)
 rw [if_pos c10] at H
 have c10b0:=Zd c10
 clear c10
 by_cases c11 : t515 < (l0.length : Int); rotate_left
 ·rw [if_neg c11] at H
  exact absurd H (by simp)
 rw [if_pos c11] at H
 have c11b0:=Zd c11
 clear c11
 by_cases c12 : ((Qad l0 t515).f2) = 1
 ·rw [if_pos c12] at H
  obtain ⟨c12b0,c12b1⟩:=bT c12
  clear c12
  simp only [Option.some.injEq,Prod.mk.injEq] at H
  obtain ⟨rfl,rfl⟩:=H
  go_enter Tryz.func55,Tryz.ntmps55
  go_wp2_with (first | ((with_reducible refine Qac (f:=42) rfl ?_); refine gl (some 10) Tryz.func42 #[.slice A0 l0.length c0] (h := ?_); (with_reducible refine (tree_May.calls _ _ l0 true _ ?side1 ?side2 A4.out).mono ?_); (case side1 => repeat (first | exact HR0.out | (with_reducible refine Kd.C_alloc ?_ _) | (with_reducible refine Kd.C_drewN ?_ _) | (with_reducible refine Kd.C_drew ?_))); (case side2 => exact HC0.out); rintro e w13 ⟨rfl,hb⟩; refine ⟨_,rfl, ?_⟩; replace HB:=bs HB hb; clear hb) | ((with_reducible refine Qac (f:=62) rfl ?_); refine gl (some 15) Tryz.func62 #[.slice A0 l0.length c0, .int .i64 a1, .int .i64 a2] (h := ?_); (with_reducible refine (tree_Find.calls _ _ l0 a1 a2 t515 _ ?side1 ?side2 A6.out).mono ?_); (case side1 => exact cb HR0 HB); (case side2 => exact HC0.out); rintro e w14 ⟨rfl,hb⟩; refine ⟨_,rfl, ?_⟩; replace HB:=bs HB hb; clear hb; have p516 : 0 <= (t515 : Int):=od; have q516 : t515 < (l0.length : Int):=od; obtain ⟨ad516,A516_7,c516_7,e516,hx516_0,hx516_1,hx516_2,hx516_3,hx516_4,hx516_5,hx516_6,hx516_7,hx516_8,hx516_9,hx516_10,hl516_7,hi516_7⟩:=Qby HR0.out t515 p516 q516; cases e516; replace hx516_0:=cl HB hx516_0; replace hx516_1:=cl HB hx516_1; replace hx516_2:=cl HB hx516_2; replace hx516_3:=cl HB hx516_3; replace hx516_4:=cl HB hx516_4; replace hx516_5:=cl HB hx516_5; replace hx516_6:=cl HB hx516_6; replace hx516_7:=cl HB hx516_7; replace hx516_8:=cl HB hx516_8; replace hx516_9:=cl HB hx516_9; replace hx516_10:=cl HB hx516_10; have HR516_7:=Zz.k hi516_7; have HC516_7:=Zz.k hl516_7; clear hi516_7 hl516_7; replace p516:=eq_true p516; replace q516:=eq_true q516))
  go_ret2
  exact ⟨re,bw HB⟩
 rw [if_neg c12] at H
 obtain ⟨c12b0,c12b1⟩:=bF c12
 simp only [Option.some.injEq,Prod.mk.injEq] at H
 obtain ⟨rfl,rfl⟩:=H
 go_enter Tryz.func55,Tryz.ntmps55
 go_wp2_with (first | ((with_reducible refine Qac (f:=42) rfl ?_); refine gl (some 10) Tryz.func42 #[.slice A0 l0.length c0] (h := ?_); (with_reducible refine (tree_May.calls _ _ l0 true _ ?side1 ?side2 A4.out).mono ?_); (case side1 => repeat (first | exact HR0.out | (with_reducible refine Kd.C_alloc ?_ _) | (with_reducible refine Kd.C_drewN ?_ _) | (with_reducible refine Kd.C_drew ?_))); (case side2 => exact HC0.out); rintro e w15 ⟨rfl,hb⟩; refine ⟨_,rfl, ?_⟩; replace HB:=bs HB hb; clear hb) | ((with_reducible refine Qac (f:=62) rfl ?_); refine gl (some 15) Tryz.func62 #[.slice A0 l0.length c0, .int .i64 a1, .int .i64 a2] (h := ?_); (with_reducible refine (tree_Find.calls _ _ l0 a1 a2 t515 _ ?side1 ?side2 A6.out).mono ?_); (case side1 => exact cb HR0 HB); (case side2 => exact HC0.out); rintro e w16 ⟨rfl,hb⟩; refine ⟨_,rfl, ?_⟩; replace HB:=bs HB hb; clear hb; have p516 : 0 <= (t515 : Int):=od; have q516 : t515 < (l0.length : Int):=od; obtain ⟨ad516,A516_7,c516_7,e516,hx516_0,hx516_1,hx516_2,hx516_3,hx516_4,hx516_5,hx516_6,hx516_7,hx516_8,hx516_9,hx516_10,hl516_7,hi516_7⟩:=Qby HR0.out t515 p516 q516; cases e516; replace hx516_0:=cl HB hx516_0; replace hx516_1:=cl HB hx516_1; replace hx516_2:=cl HB hx516_2; replace hx516_3:=cl HB hx516_3; replace hx516_4:=cl HB hx516_4; replace hx516_5:=cl HB hx516_5; replace hx516_6:=cl HB hx516_6; replace hx516_7:=cl HB hx516_7; replace hx516_8:=cl HB hx516_8; replace hx516_9:=cl HB hx516_9; replace hx516_10:=cl HB hx516_10; have HR516_7:=Zz.k hi516_7; have HC516_7:=Zz.k hl516_7; clear hi516_7 hl516_7; replace p516:=eq_true p516; replace q516:=eq_true q516))
 go_ret2
 exact ⟨re,bw HB⟩
def doc_Count.f (k : Nat) (l0 : List (SOp)) (a1 : Int) (a2 : Int) : Option (Int × Int):=(doc_Edit.f l0 a1 a2).bind fun bt517 => (if bt517.2 = 0 then ((doc_Counts.f k l0).bind fun t519 => (if 0 <= bt517.1 then (if bt517.1 < (t519.length : Int) then (some (rd t519 bt517.1,0)) else (none)) else (none))) else (some (0,bt517.2)))
theorem doc_Count.calls (k : Nat) (A0 : Option Addr) (c0 : Nat) (l0 : List (SOp)) (a1 : Int) (a2 : Int) (r1 : Int) (r2 : Int) (w : World) (hr0 : Kd.C kOp w A0 l0.length l0) (hc0 : l0.length <= c0) (h : doc_Count.f k l0 a1 a2 = some (r1,r2)) :
  Calls Tryz.prog 25 #[.slice A0 l0.length c0, .int .i64 a1, .int .i64 a2] w fun e w' => e = .returned (.tuple #[.int .i64 r1, .int .i64 r2]) /\ Below w.heap.size w w':=by
 have HR0:=Zz.k hr0
 have HC0:=Zz.k hc0
 clear hr0 hc0
 have HB:=Zz.k (Below.refl w.heap.size w)
 unfold doc_Count.f at h; have H:=h
 clear h
 obtain ⟨⟨t517,t518⟩,A4,H⟩:=bE H
 try dsimp only at H
 by_cases c5 : t518 = 0; rotate_left
 ·rw [if_neg c5] at H
  obtain ⟨c5b0,c5b1⟩:=bF c5
  simp only [Option.some.injEq,Prod.mk.injEq] at H
  obtain ⟨rfl,rfl⟩:=H
  go_enter Tryz.func25,Tryz.ntmps25
  go_wp2_with (first | ((with_reducible refine Qac (f:=55) rfl ?_); refine gl (some 14) Tryz.func55 #[.slice A0 l0.length c0, .int .i64 a1, .int .i64 a2] (h := ?_); (with_reducible refine (doc_Edit.calls _ _ l0 a1 a2 t517 t518 _ ?side1 ?side2 A4.out).mono ?_); (case side1 => repeat (first | exact HR0.out | (with_reducible refine Kd.C_alloc ?_ _) | (with_reducible refine Kd.C_drewN ?_ _) | (with_reducible refine Kd.C_drew ?_))); (case side2 => exact HC0.out); rintro e w12 ⟨rfl,hb⟩; refine ⟨_,rfl, ?_⟩; replace HB:=bs HB hb; clear hb))
  go_ret2
  exact ⟨re,bw HB⟩
 rw [if_pos c5] at H
 obtain ⟨c5b0,c5b1⟩:=bT c5
 clear c5
 obtain ⟨t519,A6,H⟩:=bE H
 by_cases c7 : 0 <= t517; rotate_left
 ·rw [if_neg c7] at H
  exact absurd H (by simp)
 rw [if_pos c7] at H
 have c7b0:=Zd c7
 clear c7
 by_cases c8 : t517 < (t519.length : Int); rotate_left
 ·rw [if_neg c8] at H
  exact absurd H (by simp)
 rw [if_pos c8] at H
 have c8b0:=Zd c8
 clear c8
 simp only [Option.some.injEq,Prod.mk.injEq] at H
 obtain ⟨rfl,rfl⟩:=H
 go_enter Tryz.func25,Tryz.ntmps25
 go_wp2_with (first | ((with_reducible refine Qac (f:=55) rfl ?_); refine gl (some 14) Tryz.func55 #[.slice A0 l0.length c0, .int .i64 a1, .int .i64 a2] (h := ?_); (with_reducible refine (doc_Edit.calls _ _ l0 a1 a2 t517 t518 _ ?side1 ?side2 A4.out).mono ?_); (case side1 => repeat (first | exact HR0.out | (with_reducible refine Kd.C_alloc ?_ _) | (with_reducible refine Kd.C_drewN ?_ _) | (with_reducible refine Kd.C_drew ?_))); (case side2 => exact HC0.out); rintro e w9 ⟨rfl,hb⟩; refine ⟨_,rfl, ?_⟩; replace HB:=bs HB hb; clear hb) | ((with_reducible refine Qac (f:=56) rfl ?_); refine gl (some 21) Tryz.func56 #[.slice A0 l0.length c0] (h := ?_); (with_reducible refine (doc_Counts.calls k _ _ l0 t519 _ ?side1 ?side2 A6.out).mono ?_); (case side1 => exact cb HR0 HB); (case side2 => exact HC0.out); rintro e w10 ⟨v520,rfl,ho0,hb⟩; refine ⟨_,rfl, ?_⟩; have HO521:=Zz.k (Kd.R_lower ho0 (Qaj (bw HB))); replace HB:=bs HB hb; clear hb; clear ho0; obtain ⟨Ao11,co11,eo11⟩:=Kd.R_slice HO521.out; subst eo11; have p522 : 0 <= (t517 : Int):=od; have q522 : t517 < (t519.length : Int):=od; obtain ⟨ad522,e522,hx522_0⟩:=Kd.at_int (Kd.R_reads' HO521.out).2.2 t517 p522 q522; cases e522; replace p522:=eq_true p522; replace q522:=eq_true q522))
 go_ret2
 exact ⟨re,bw HB⟩
def doc_Effective.f (k : Nat) (l0 : List (SOp)) (a1 : Int) (a2 : Int) : Option (Bool × Int):=(doc_Count.f k l0 a1 a2).bind fun bt523 => (if bt523.2 = 0 then (some (((Int.tmod bt523.1 2) == 0),bt523.2)) else (some (false,bt523.2)))
theorem doc_Effective.calls (k : Nat) (A0 : Option Addr) (c0 : Nat) (l0 : List (SOp)) (a1 : Int) (a2 : Int) (r1 : Bool) (r2 : Int) (w : World) (hr0 : Kd.C kOp w A0 l0.length l0) (hc0 : l0.length <= c0) (h : doc_Effective.f k l0 a1 a2 = some (r1,r2)) :
  Calls Tryz.prog 26 #[.slice A0 l0.length c0, .int .i64 a1, .int .i64 a2] w fun e w' => e = .returned (.tuple #[.bool r1, .int .i64 r2]) /\ Below w.heap.size w w':=by
 have HR0:=Zz.k hr0
 have HC0:=Zz.k hc0
 clear hr0 hc0
 have HB:=Zz.k (Below.refl w.heap.size w)
 unfold doc_Effective.f at h; have H:=h
 clear h
 obtain ⟨⟨t523,t524⟩,A4,H⟩:=bE H
 try dsimp only at H
 by_cases c5 : t524 = 0
 ·rw [if_pos c5] at H
  obtain ⟨c5b0,c5b1⟩:=bT c5
  clear c5
  simp only [Option.some.injEq,Prod.mk.injEq] at H
  obtain ⟨rfl,rfl⟩:=H
  go_enter Tryz.func26,Tryz.ntmps26
  go_wp2_with (first | ((with_reducible refine Qac (f:=25) rfl ?_); refine gl (some 14) Tryz.func25 #[.slice A0 l0.length c0, .int .i64 a1, .int .i64 a2] (h := ?_); (with_reducible refine (doc_Count.calls k _ _ l0 a1 a2 t523 t524 _ ?side1 ?side2 A4.out).mono ?_); (case side1 => repeat (first | exact HR0.out | (with_reducible refine Kd.C_alloc ?_ _) | (with_reducible refine Kd.C_drewN ?_ _) | (with_reducible refine Kd.C_drew ?_))); (case side2 => exact HC0.out); rintro e w6 ⟨rfl,hb⟩; refine ⟨_,rfl, ?_⟩; replace HB:=bs HB hb; clear hb))
  go_ret2
  exact ⟨re,bw HB⟩
 rw [if_neg c5] at H
 obtain ⟨c5b0,c5b1⟩:=bF c5
 simp only [Option.some.injEq,Prod.mk.injEq] at H
 obtain ⟨rfl,rfl⟩:=H
 go_enter Tryz.func26,Tryz.ntmps26
 go_wp2_with (first | ((with_reducible refine Qac (f:=25) rfl ?_); refine gl (some 14) Tryz.func25 #[.slice A0 l0.length c0, .int .i64 a1, .int .i64 a2] (h := ?_); (with_reducible refine (doc_Count.calls k _ _ l0 a1 a2 t523 t524 _ ?side1 ?side2 A4.out).mono ?_); (case side1 => repeat (first | exact HR0.out | (with_reducible refine Kd.C_alloc ?_ _) | (with_reducible refine Kd.C_drewN ?_ _) | (with_reducible refine Kd.C_drew ?_))); (case side2 => exact HC0.out); rintro e w7 ⟨rfl,hb⟩; refine ⟨_,rfl, ?_⟩; replace HB:=bs HB hb; clear hb))
 go_ret2
 exact ⟨re,bw HB⟩
def doc_Rune.f (l0 : List (SOp)) (a1_0 : Int) (a1_1 : Int) (a1_2 : Int) : Option (Int × Int):=(tree_May.f l0).bind fun t526 => (if t526 = true then ((tree_Written.f l0 a1_0 a1_1 a1_2).bind fun t527 => (if t527 = true then ((doc_At.f l0 a1_0 a1_1 a1_2).bind fun t528 => (some (t528,0))) else (some (0,3)))) else (some (0,1)))
theorem doc_Rune.calls (A0 : Option Addr) (c0 : Nat) (l0 : List (SOp)) (a1_0 : Int) (a1_1 : Int) (a1_2 : Int) (r1 : Int) (r2 : Int) (w : World) (hr0 : Kd.C kOp w A0 l0.length l0) (hc0 : l0.length <= c0) (h : doc_Rune.f l0 a1_0 a1_1 a1_2 = some (r1,r2)) :
  Calls Tryz.prog 27 #[.slice A0 l0.length c0, .agg #[.int .i64 a1_0, .int .i64 a1_1, .int .i64 a1_2]] w fun e w' => e = .returned (.tuple #[.int .i32 r1, .int .i64 r2]) /\ Below w.heap.size w w':=by
 have hu32:=Tryz.underlying32
 have HR0:=Zz.k hr0
 have HC0:=Zz.k hc0
 clear hr0 hc0
 have HB:=Zz.k (Below.refl w.heap.size w)
 unfold doc_Rune.f at h; have H:=h
 clear h
 obtain ⟨t526,A3,H⟩:=bE H
 by_cases c4 : t526 = true; rotate_left
 ·replace c4:=Zf c4
  subst c4
  rw [if_neg nft] at H
  simp only [Option.some.injEq,Prod.mk.injEq] at H
  obtain ⟨rfl,rfl⟩:=H
  go_enter Tryz.func27,Tryz.ntmps27
  go_wp2_with (first | ((with_reducible refine Qaf (N:=3) rfl ?_); refine bx 3 #[.int .i64 a1_0, .int .i64 a1_1, .int .i64 a1_2] 32 (h := ?_); intro gb525 hg w18 hbox hb; have BK525:=Zz.k (hbox); have GW525:=bz HB hg; have GE525:=bz HB hg; replace HB:=bs HB hb; clear hb hbox hg) | ((with_reducible refine Qac (f:=42) rfl ?_); refine gl (some 8) Tryz.func42 #[.slice A0 l0.length c0] (h := ?_); (with_reducible refine (tree_May.calls _ _ l0 false _ ?side1 ?side2 A3.out).mono ?_); (case side1 => exact cb HR0 HB); (case side2 => exact HC0.out); rintro e w19 ⟨rfl,hb⟩; refine ⟨_,rfl, ?_⟩; replace BK525:=bl BK525 hb; replace HB:=bs HB hb; clear hb))
  go_ret2
  exact ⟨re,bw HB⟩
 subst c4
 rw [if_pos rfl] at H
 obtain ⟨t527,A5,H⟩:=bE H
 by_cases c6 : t527 = true
 ·subst c6
  rw [if_pos rfl] at H
  obtain ⟨t528,A7,H⟩:=bE H
  simp only [Option.some.injEq,Prod.mk.injEq] at H
  obtain ⟨rfl,rfl⟩:=H
  go_enter Tryz.func27,Tryz.ntmps27
  go_wp2_with (first | ((with_reducible refine Qaf (N:=3) rfl ?_); refine bx 3 #[.int .i64 a1_0, .int .i64 a1_1, .int .i64 a1_2] 32 (h := ?_); intro gb525 hg w8 hbox hb; have BK525:=Zz.k (hbox); have GW525:=bz HB hg; have GE525:=bz HB hg; replace HB:=bs HB hb; clear hb hbox hg) | ((with_reducible refine Qac (f:=42) rfl ?_); refine gl (some 8) Tryz.func42 #[.slice A0 l0.length c0] (h := ?_); (with_reducible refine (tree_May.calls _ _ l0 true _ ?side1 ?side2 A3.out).mono ?_); (case side1 => exact cb HR0 HB); (case side2 => exact HC0.out); rintro e w9 ⟨rfl,hb⟩; refine ⟨_,rfl, ?_⟩; replace BK525:=bl BK525 hb; replace HB:=bs HB hb; clear hb; obtain ⟨_,_,_,_,_,_⟩:=kc3 BK525) | ((with_reducible refine Qac (f:=57) rfl ?_); refine gl (some 13) Tryz.func57 #[.slice A0 l0.length c0, .agg #[.int .i64 a1_0, .int .i64 a1_1, .int .i64 a1_2]] (h := ?_); (with_reducible refine (tree_Written.calls _ _ l0 a1_0 a1_1 a1_2 true _ ?side1 ?side2 A5.out).mono ?_); (case side1 => exact cb HR0 HB); (case side2 => exact HC0.out); rintro e w11 ⟨rfl,hb⟩; refine ⟨_,rfl, ?_⟩; replace BK525:=bl BK525 hb; replace HB:=bs HB hb; clear hb; obtain ⟨_,_,_,_,_,_⟩:=kc3 BK525) | ((with_reducible refine Qac (f:=58) rfl ?_); refine gl (some 17) Tryz.func58 #[.slice A0 l0.length c0, .agg #[.int .i64 a1_0, .int .i64 a1_1, .int .i64 a1_2]] (h := ?_); (with_reducible refine (doc_At.calls _ _ l0 a1_0 a1_1 a1_2 t528 _ ?side1 ?side2 A7.out).mono ?_); (case side1 => exact cb HR0 HB); (case side2 => exact HC0.out); rintro e w13 ⟨rfl,hb⟩; refine ⟨_,rfl, ?_⟩; replace BK525:=bl BK525 hb; replace HB:=bs HB hb; clear hb))
  go_ret2
  exact ⟨re,bw HB⟩
 replace c6:=Zf c6
 subst c6
 rw [if_neg nft] at H
 simp only [Option.some.injEq,Prod.mk.injEq] at H
 obtain ⟨rfl,rfl⟩:=H
 go_enter Tryz.func27,Tryz.ntmps27
 go_wp2_with (first | ((with_reducible refine Qaf (N:=3) rfl ?_); refine bx 3 #[.int .i64 a1_0, .int .i64 a1_1, .int .i64 a1_2] 32 (h := ?_); intro gb525 hg w14 hbox hb; have BK525:=Zz.k (hbox); have GW525:=bz HB hg; have GE525:=bz HB hg; replace HB:=bs HB hb; clear hb hbox hg) | ((with_reducible refine Qac (f:=42) rfl ?_); refine gl (some 8) Tryz.func42 #[.slice A0 l0.length c0] (h := ?_); (with_reducible refine (tree_May.calls _ _ l0 true _ ?side1 ?side2 A3.out).mono ?_); (case side1 => exact cb HR0 HB); (case side2 => exact HC0.out); rintro e w15 ⟨rfl,hb⟩; refine ⟨_,rfl, ?_⟩; replace BK525:=bl BK525 hb; replace HB:=bs HB hb; clear hb; obtain ⟨_,_,_,_,_,_⟩:=kc3 BK525) | ((with_reducible refine Qac (f:=57) rfl ?_); refine gl (some 13) Tryz.func57 #[.slice A0 l0.length c0, .agg #[.int .i64 a1_0, .int .i64 a1_1, .int .i64 a1_2]] (h := ?_); (with_reducible refine (tree_Written.calls _ _ l0 a1_0 a1_1 a1_2 false _ ?side1 ?side2 A5.out).mono ?_); (case side1 => exact cb HR0 HB); (case side2 => exact HC0.out); rintro e w17 ⟨rfl,hb⟩; refine ⟨_,rfl, ?_⟩; replace BK525:=bl BK525 hb; replace HB:=bs HB hb; clear hb))
 go_ret2
 exact ⟨re,bw HB⟩
end
section
def t_tree_With.T1 : Bool × List (List Nat × List Nat):=(true,[([],[]),([0],[0]),([],[]),([2],[2]),([1,3,1],[1,3]),([4,4,0,1,2,3,4],[4])])
def t_tree_With.B1 : List Nat:=[0,1,0,4,15,31]
theorem t_tree_With.tab1 : rtab .any (Qcj Tryz.f61 1) = t_tree_With.T1:=by kernel_rfl
theorem t_tree_With.bits1 : Qau t_tree_With.T1.2 t_tree_With.B1 = true:=by kernel_rfl
def t_doc_Idle.T3 : Bool × List (List Nat × List Nat):=(true,[([],[]),([0],[0]),([1],[1]),([2],[2]),([3],[3]),([4,3],[3,4]),([3],[3]),([6,3,3],[3,6]),([3],[3]),([3],[3]),([9,3],[3,9]),([3],[3]),([11,3],[3,11]),([8,10,12,7,3],[3,8,10,12]),([7,13,3],[3,7,13]),([14,3],[3,14]),([5,15,3],[3,5,15]),([3,16],[3,16]),([17,13,0,1,2,3,4,5,6,7,8,9,10,11,12,13,14,15,16,17],[17]),([18,0,1,2,3,4,5,6,7,8,9,10,11,12,13,14,15,16,17,18],[])])
def t_doc_Idle.B3 : List Nat:=[0,1,3,7,15,31,15,79,15,15,527,15,2063,8143,16335,32719,65535,131071,262143,524287]
theorem t_doc_Idle.tab3 : rtab .any (Qcj Tryz.f34 3) = t_doc_Idle.T3:=by kernel_rfl
theorem t_doc_Idle.bits3 : Qau t_doc_Idle.T3.2 t_doc_Idle.B3 = true:=by kernel_rfl
end
section
theorem reads_flat {α : Type} (d : Kd α) {w : World} {ad : Addr} {n : Nat} {ps : List α} (h : d.C w (some ad) n ps) (h0 : 0 < n) : ∃ cs,Reps (d.K w) d.sz ps cs /\ ∀ i u,cs[i]? = some u -> w.cell? (ad.add i) = some u:=by
 obtain ⟨hn,hm,hc⟩:=h
 obtain ⟨ad',e,hc⟩:=hc h0
 injection e with e
 subst e
 have key : ∀ k,k <= ps.length -> ∃ cs,Reps (d.K w) d.sz (ps.take k) cs /\ ∀ i u,cs[i]? = some u -> w.cell? (ad.add i) = some u:=by
  intro k
  induction k with
  | zero => intro _; exact ⟨[],by rw [List.take_zero]; exact Reps.none _ _,by simp⟩
  | succ k ih =>
   intro hk
   obtain ⟨cs,hR,hcs⟩:=ih (by omega)
   obtain ⟨c,hs,hK,hcell⟩:=hc k _ (List.getElem?_eq_getElem (by omega))
   refine ⟨cs ++ c,by rw [List.take_succ_eq_append_getElem (by omega)]; exact Reps.snoc hR hK hs,fun i u hu => ?_⟩
   have hl : cs.length = k * d.sz:=by have:=hR.1; rw [List.length_take] at this; rw [this]; congr 1; omega
   rcases Nat.lt_or_ge i cs.length with hi | hi
   ·rw [List.getElem?_append_left hi] at hu; exact hcs i u hu
   ·rw [List.getElem?_append_right hi] at hu
    have:=hcell (i - cs.length) u hu
    rwa [<- hl,Nat.add_sub_cancel' hi] at this
 have:=key ps.length (Nat.le_refl _)
 rwa [List.take_length] at this
theorem C_append_full {α : Type} (d : Kd α) {P : Program} (w : World) (t ty e : TypeId) (i : TypeInfo) (z : Value) (bytes : Nat) (ht : P.underlying t = some (.slice e)) (hi : P.info? e = some i) (hz : i.zero = some z) (hsize : i.size = d.sz) (hby : i.bytes = bytes) (hzs : z.cells.size = d.sz) (hsz : 0 < d.sz)
  (A : Option Addr) (xs : List α) (h : d.C w A xs.length xs) (hA : A = none -> xs.length = 0) (a : Addr) (p : α) (news : List Value) (hK : d.K w p news) (hnews : ∀ j u,news[j]? = some u -> w.cell? (a.add j) = some u)
  (hbytes : (xs.length + 1) * bytes <= 140737488355328) (hlen : xs.length + 1 <= maxLen) :
  ∃ A' c' w',(Builtin.append_ #[t,t] ty #[.slice A xs.length xs.length, .slice (some a) 1 1]).run P w = .ok (.slice A' (xs.length + 1) c') w' /\ xs.length + 1 <= c' /\ d.C w' A' (xs.length + 1) (xs ++ [p]) /\ Below w.heap.size w w':=by
 have hn:=d.K_len hK
 have hl1 : news.length = 1 * d.sz:=by omega
 have fin : ∀ (olds : List Value) (v' : Value) (w' : World),Reps (d.K w) d.sz xs olds -> w'.ownsRow w.heap.size e d.sz v' (xs.length + 1) (olds ++ news) -> w.grownBy w' none -> ∃ A' c',v' = .slice A' (xs.length + 1) c' /\ xs.length + 1 <= c' /\ d.C w' A' (xs.length + 1) (xs ++ [p]) /\ Below w.heap.size w w':=by
  intro olds v' w' hR ho hg
  have hb : Below w.heap.size w w':=pw_below_grown (Below.refl _ _) none (Nat.le_refl _) hg (fun k hk => by cases hk)
  obtain ⟨A',c',e',hr⟩:=own_reads_row ho ((hR.snoc hK hn).imp_ (fun _ _ hk => d.K_below hb hk)) (by simp)
  refine ⟨A',c',e', ?_,hr,hb⟩
  rcases ho.2 with ⟨_,h0⟩ | ⟨g,cap,cur,e2,_,_,hcap,_⟩
  ·omega
  ·rw [e'] at e2; injection e2 with _ _ e3; omega
 cases A with
 | none =>
  have h0:=hA rfl
  have hx : xs = []:=List.eq_nil_of_length_eq_zero h0
  subst hx
  obtain ⟨v',w',hrun,r1,r2,_⟩:=run_append_own (P:=P) w w.heap.size t ty e i z d.sz bytes ht hi hz hsize hby hzs hsz (.slice none 0 0) 0 [] (World.ownsRow_nil w _ e d.sz) a 1 1 news hl1 hnews (d.K_one hK) (by simpa using hlen) (by simpa using hbytes) (Nat.le_refl _)
  obtain ⟨A',c',rfl,k1,k2,k3⟩:=fin [] v' w' (Reps.none _ _) (by simpa using r1) r2
  exact ⟨A',c',w',hrun,k1,k2,k3⟩
 | some b =>
  rcases Nat.eq_zero_or_pos xs.length with h0 | h0
  ·have hx : xs = []:=List.eq_nil_of_length_eq_zero h0
   subst hx
   obtain ⟨v',w',hrun,r1,r2⟩:=run_append_arg_grows (P:=P) w t ty e i z d.sz bytes ht hi hz hsize hby hzs hsz b 0 0 [] (by simp) (by simp) a 1 1 news hl1 hnews (by omega) (by simpa using hlen) (by simpa using hbytes)
   obtain ⟨A',c',rfl,k1,k2,k3⟩:=fin [] v' w' (Reps.none _ _) (by simpa using r1) r2
   exact ⟨A',c',w',hrun,k1,k2,k3⟩
  ·obtain ⟨olds,hR,ho⟩:=reads_flat d h h0
   obtain ⟨v',w',hrun,r1,r2⟩:=run_append_arg_grows (P:=P) w t ty e i z d.sz bytes ht hi hz hsize hby hzs hsz b xs.length xs.length olds hR.1 ho a 1 1 news hl1 hnews (by omega) hlen hbytes
   obtain ⟨A',c',rfl,k1,k2,k3⟩:=fin olds v' w' hR r1 r2
   exact ⟨A',c',w',hrun,k1,k2,k3⟩
theorem exec_append {P : Program} {a : Act} {oi : Oper} {w w' : World} {s x : Operand} {t : TypeId} {u sv xv : Value} (hop : oi.op = Op.call { callee:=Callee.builtin Builtin.append,args:=#[s,x],argTypes:=#[t,t] }) (hs : a.eval s = sv) (hx : a.eval x = xv)
  (hrun : (Builtin.append_ #[t,t] oi.type #[sv,xv]).run P w = .ok u w') : (execOp a.eval oi).run P w = .ok (.value u) w':=by
 simp [execOp,hop,resolve,invoke,builtin,hs,hx,hrun]
theorem none_empty {A0 : Option Addr} {l0 : List SOp} {w : World} (hr0 : Kd.C kOp w A0 l0.length l0) (hA : A0 = none) : l0.length = 0:=by
 subst hA
 rcases Nat.eq_zero_or_pos l0.length with h | h
 ·exact h
 ·obtain ⟨ad,_,_,e,_⟩:=Qby hr0 0 (Int.le_refl _) (by omega)
  cases e
theorem Clip_calls (A0 : Option Addr) (c0 : Nat) (l0 : List (SOp)) (w : World) (hr0 : Kd.C kOp w A0 l0.length l0) (hc0 : l0.length <= c0) (hl : l0.length <= 1000000) :
  Calls Tryz.prog 81 #[.slice A0 l0.length c0] w fun e w' => e = .returned (.slice A0 l0.length l0.length) /\ w' = w:=by
 have hu:=Tryz.underlying24
 cases A0 with
 | none =>
  have h0:=none_empty hr0 rfl
  rw [h0] at hc0 ⊢
  have hcz : (0 : Int) <= (c0 : Int):=by omega
  go_enter Tryz.func81,Tryz.ntmps81
  go_wp2
  go_ret
  exact ⟨rfl,rfl⟩
 | some a =>
  have hcz : (l0.length : Int) <= (c0 : Int):=by omega
  have hcz2 : (0 : Int) <= (l0.length : Int):=by omega
  clear hr0
  generalize l0.length = n at hc0 hl hcz hcz2 ⊢
  go_enter Tryz.func81,Tryz.ntmps81
  go_wp2
  go_ret
  exact ⟨rfl,rfl⟩
theorem infoOp : (Tryz.prog.info? 64).map (fun i => (i.zero,i.size,i.bytes)) = some (some (.agg #[(.int .i64 0),(.int .i64 0),(.int .i64 0),(.int .i64 0),(.int .i64 0),(.int .i64 0),(.string ⟨#[]⟩),(.slice none 0 0),(.int .i64 0),(.int .i64 0),(.int .i64 0)]),11,112):=by kernel_rfl
abbrev Qdg (o : SOp) (A7 : Option Addr) (c7 : Nat) : List Value:=[.int .i64 o.f0, .int .i64 o.f1, .int .i64 o.f2, .int .i64 o.f3.f0, .int .i64 o.f3.f1, .int .i64 o.f3.f2, .string o.f4, .slice A7 o.f5.length c7, .int .i64 o.f6, .int .i64 o.f7, .int .i64 o.f8]
abbrev S11 (W : World) (g : Nat) (o : SOp) (A7 : Option Addr) (c7 : Nat) : Prop:=W.cell? ⟨g,0,none⟩ = some (.int .i64 o.f0) /\ W.cell? ⟨g,1,none⟩ = some (.int .i64 o.f1) /\ W.cell? ⟨g,2,none⟩ = some (.int .i64 o.f2) /\ W.cell? ⟨g,3,none⟩ = some (.int .i64 o.f3.f0) /\ W.cell? ⟨g,4,none⟩ = some (.int .i64 o.f3.f1) /\ W.cell? ⟨g,5,none⟩ = some (.int .i64 o.f3.f2) /\ W.cell? ⟨g,6,none⟩ = some (.string o.f4) /\ W.cell? ⟨g,7,none⟩ = some (.slice A7 o.f5.length c7) /\ W.cell? ⟨g,8,none⟩ = some (.int .i64 o.f6) /\ W.cell? ⟨g,9,none⟩ = some (.int .i64 o.f7) /\ W.cell? ⟨g,10,none⟩ = some (.int .i64 o.f8)
theorem S11.below {W W' : World} {g : Nat} {o : SOp} {A7 : Option Addr} {c7 : Nat} (h : S11 W g o A7 c7) (hb : Below W.heap.size W W') : S11 W' g o A7 c7:=by
 obtain ⟨h0,h1,h2,h3,h4,h5,h6,h7,h8,h9,h10⟩:=h
 exact ⟨Qab hb h0,Qab hb h1,Qab hb h2,Qab hb h3,Qab hb h4,Qab hb h5,Qab hb h6,Qab hb h7,Qab hb h8,Qab hb h9,Qab hb h10⟩
theorem S11.boxed (w : World) (o : SOp) (A7 : Option Addr) (c7 : Nat) (t : TypeId) : S11 (w.alloc (.cells (Qdg o A7 c7).toArray t)) w.heap.size o A7 c7:=by
 refine ⟨?_, ?_, ?_, ?_, ?_, ?_, ?_, ?_, ?_, ?_, ?_⟩ <;> simp
theorem exK {P : Program} {ops : Array Oper} {Q : Exit -> Act -> World -> Prop} {S : World -> Prop} {F : Act -> World -> Prop} {K : Act -> World -> Prop} {oi : Oper} {a : Act} {w : World} {N : Option Tmp} (hK : Shut (∀ a' w',S w' -> (S w' -> F a' w') -> K a' w')) (u : Value) (w' : World) (hw : Region.wanted oi (yielded ops a.tmps) = true:=by rfl) (hN : oi.dst = N:=by rfl)
  (hrun : (execOp a.eval oi).run P w = .ok (.value u) w') (hS : S w') (h : S w' -> F (a.put N u) w') : if Region.wanted oi (yielded ops a.tmps) = true then Oper.wp P oi a w K Q else K (a.put N undef) w:=by
 rw [if_pos hw]
 unfold Oper.wp
 rw [hrun,Oper.upon_value,hN]
 exact hK.out _ w' hS h
theorem with_app {A0 : Option Addr} {l0 : List SOp} {o : SOp} {A7 : Option Addr} {c7 : Nat} {w w1 : World} (hb1 : Below w.heap.size w w1) (hl : l0.length <= 1000000) (hr0 : Kd.C kOp w A0 l0.length l0) (hr7 : Kd.C Qao w A7 o.f5.length o.f5) (hc7 : o.f5.length <= c7) :
  ∃ A' c' w',(Builtin.append_ #[24,24] 24 #[.slice A0 l0.length l0.length, .slice (some ⟨w1.heap.size,0,none⟩) 1 1]).run Tryz.prog (w1.alloc (.cells (Qdg o A7 c7).toArray 64)) = .ok (.slice A' (l0.length + 1) c') w' /\ l0.length + 1 <= c' /\ Kd.C kOp w' A' (l0.length + 1) (l0 ++ [o]) /\ Below w.heap.size w w':=by
 obtain ⟨i,hi,hiv⟩:=Option.map_eq_some_iff.1 infoOp
 simp only [Prod.mk.injEq] at hiv
 have hb2 : Below w.heap.size w (w1.alloc (.cells (Qdg o A7 c7).toArray 64)):=Qag hb1 _
 obtain ⟨A',c',w',hrun,k1,k2,k3⟩:=C_append_full kOp (P:=Tryz.prog) (w1.alloc (.cells (Qdg o A7 c7).toArray 64)) 24 24 64 i _ 112 Tryz.underlying24 hi hiv.1 hiv.2.1 hiv.2.2 rfl (by decide)
  A0 l0 (Kd.C_below hr0 hb2) (fun hA => none_empty hr0 hA) ⟨w1.heap.size,0,none⟩ o (Qdg o A7 c7) (kOp_mk _ o hc7 (Kd.C_below hr7 hb2)) (fun j u hu => by
   have:=top_cell w1 (Qdg o A7 c7).toArray 64 w1.heap.size j rfl
   have ea : (⟨w1.heap.size,0,none⟩ : Addr).add j = ⟨w1.heap.size,j,none⟩:=by rw [Addr.add_lit,Nat.zero_add]
   rw [ea,this]; simpa using hu) (by omega) (by unfold maxLen; omega)
 exact ⟨A',c',w',hrun,k1,k2,Qas hb2 k3⟩
theorem tree_With.calls (A0 : Option Addr) (c0 : Nat) (l0 : List SOp) (o : SOp) (A7 : Option Addr) (c7 : Nat) (w : World) (hr0 : Kd.C kOp w A0 l0.length l0) (hc0 : l0.length <= c0) (hr7 : Kd.C Qao w A7 o.f5.length o.f5) (hc7 : o.f5.length <= c7) (hl : l0.length <= 1000000) :
  Calls Tryz.prog 61 #[.slice A0 l0.length c0, .agg (Qdg o A7 c7).toArray] w fun e w' => ∃ A c,e = .returned (.slice A (l0.length + 1) c) /\ l0.length + 1 <= c /\ Kd.C kOp w' A (l0.length + 1) (l0 ++ [o]) /\ Below w.heap.size w w':=by
 have HCL:=Zz.k (fun W (hb : Below w.heap.size w W) => Clip_calls A0 c0 l0 W (Kd.C_below hr0 hb) hc0 hl)
 have HAL:=Zz.k (Qag (Below.refl w.heap.size w) (.cells (Qdg o A7 c7).toArray 64))
 have hbx:=S11.boxed w o A7 c7 64
 obtain ⟨b0,b1,b2,b3,b4,b5,b6,b7,b8,b9,b10⟩:=hbx
 have HB:=Zz.k (S11.boxed w o A7 c7 64)
 have HR0:=Zz.k hr0
 have HR7:=Zz.k hr7
 have HL:=Zz.k hl
 clear hr0 hr7 hl
 go_enter Tryz.func61,Tryz.ntmps61
 go_wp2_with fail
 refine stL (S:=fun w' => S11 w' w.heap.size o A7 c7) [4] 6 t_tree_With.bits1 t_tree_With.tab1 (hS:=⟨b0,b1,b2,b3,b4,b5,b6,b7,b8,b9,b10⟩) (h:=fun hS HT HW => ?_)
 refine pu HT 0 5 1 (h := ?_)
 refine tk HT HW hS 2 7 5 (h := ?_)
 have HB1:=Zz.k (Qae HAL.out)
 clear b0 b1 b2 b3 b4 b5 b6 b7 b8 b9 b10
 generalize (w.alloc (.cells (Qdg o A7 c7).toArray 64)).drew = w1 at HB1 hS ⊢
 have HS2:=Zz.k (S11.below hS (Qag (Below.refl _ w1) (.cells (Qdg o A7 c7).toArray 64)))
 refine two_ (i:=1) (j:=3) (Ni:=some 6) (Nj:=some 8) (bA 6 7) (bA 6 13) rfl rfl rfl rfl (two_of HT.out (by kernel_rfl)) (by decide) (by decide) (fun K hK => ?_) (fun K hK => ?_)
 ·refine gS Tryz.func81 #[.slice A0 l0.length c0] (h := ?_)
  refine (HCL.out _ HB1.out).mono ?_
  rintro e w3 ⟨rfl,rfl⟩
  refine ⟨_,rfl, ?_⟩
  refine hK.out _ _ hS (fun hS => ?_)
  clear hK
  refine nm (h := ?_)
  refine exS HT 3 (some 8) 15 (.slice (some ⟨w3.heap.size,0,none⟩) 1 1) (w3.alloc (.cells (Qdg o A7 c7).toArray 64)) (hrun := ?_) (hS:=HS2.out) (h:=fun hS' => ?_)
  ·clear HT HW hS
   go_simp
  refine nm (h := ?_)
  obtain ⟨A',c',w',hrun,hk⟩:=with_app HB1.out HL.out HR0.out HR7.out hc7
  have HK:=Zz.k hk
  clear hk hS hS'
  refine exL HT 4 (some 9) 31 (.slice A' (l0.length + 1) c') w' (hrun:=exec_append rfl rfl rfl hrun) (h := ?_)
  refine nm (h := ?_)
  refine pu HT 5 4 63 (h := ?_)
  refine dn HT (h := ?_)
  clear HT HW hrun
  go_wp2
  go_ret
  exact ⟨A',c',rfl,HK.out.1,HK.out.2.1,HK.out.2.2⟩
 ·refine exK hK (.slice (some ⟨w1.heap.size,0,none⟩) 1 1) (w1.alloc (.cells (Qdg o A7 c7).toArray 64)) (hrun := ?_) (hS:=HS2.out) (h:=fun hS' => ?_)
  ·clear HT HW hS hK
   go_simp
  clear hK
  refine nm (h := ?_)
  refine ca HT 1 (some 6) 15 #[.slice A0 l0.length c0] Tryz.func81 (h:=fun K hK => ?_)
  refine (HCL.out _ (Qag HB1.out _)).mono ?_
  rintro e w3 ⟨rfl,rfl⟩
  refine ⟨_,rfl, ?_⟩
  refine hK.out _ _ HS2.out (fun hS => ?_)
  clear hK
  refine nm (h := ?_)
  obtain ⟨A',c',w',hrun,hk⟩:=with_app HB1.out HL.out HR0.out HR7.out hc7
  have HK:=Zz.k hk
  clear hk hS hS'
  refine exL HT 4 (some 9) 31 (.slice A' (l0.length + 1) c') w' (hrun:=exec_append rfl rfl rfl hrun) (h := ?_)
  refine nm (h := ?_)
  refine pu HT 5 4 63 (h := ?_)
  refine dn HT (h := ?_)
  clear HT HW hrun
  go_wp2
  go_ret
  exact ⟨A',c',rfl,HK.out.1,HK.out.2.1,HK.out.2.2⟩
end
section
def idleR (l : List SOp) (o : SOp) : Bool:=o.f2 == 2 && !(o.f8 == cntR l o.f6 o.f7)
def idleF (l : List SOp) (o : SOp) : Option (Bool × Int):=if smalls (l ++ [o]) = true /\ l.length <= 1000000 then some (if mayB (l ++ [o]) = true then (idleR l o,0) else (false,1)) else none
def doc_Idle.f (l0 : List (SOp)) (a1_0 : Int) (a1_1 : Int) (a1_2 : Int) (a1_3 : Int) (a1_4 : Int) (a1_5 : Int) (a1_6 : ByteArray) (l1_7 : List (SElem)) (a1_8 : Int) (a1_9 : Int) (a1_10 : Int) : Option (Bool × Int):=idleF l0 ⟨a1_0,a1_1,a1_2,⟨a1_3,a1_4,a1_5⟩,a1_6,l1_7,a1_8,a1_9,a1_10⟩
theorem Idle_calls (A0 : Option Addr) (c0 : Nat) (l0 : List (SOp)) (o : SOp) (A7 : Option Addr) (c7 : Nat) (r1 : Bool) (r2 : Int) (w : World) (hr0 : Kd.C kOp w A0 l0.length l0) (hc0 : l0.length <= c0) (hr7 : Kd.C Qao w A7 o.f5.length o.f5) (hc7 : o.f5.length <= c7) (h : idleF l0 o = some (r1,r2)) :
  Calls Tryz.prog 34 #[.slice A0 l0.length c0, .agg (Qdg o A7 c7).toArray] w fun e w' => e = .returned (.tuple #[.bool r1, .int .i64 r2]) /\ Below w.heap.size w w':=by
 unfold idleF at h
 split at h
 case isFalse => cases h
 rename_i hq
 obtain ⟨hsm,hl⟩:=hq
 have h:=Zo h
 have hlen : (l0 ++ [o]).length = l0.length + 1:=by simp
 have HAL:=Zz.k (Qag (Below.refl w.heap.size w) (.cells (Qdg o A7 c7).toArray 64))
 have hcW:=tree_With.calls A0 c0 l0 o A7 c7 _ (Kd.C_below hr0 HAL.out) hc0 (Kd.C_below hr7 HAL.out) hc7 hl
 have HW:=Zz.k hcW
 have HM:=Zz.k (fun (A2 : Option Addr) (c2 : Nat) (w2 : World) (hc2 : l0.length + 1 <= c2) (hC2 : Kd.C kOp w2 A2 (l0.length + 1) (l0 ++ [o])) => by
  have:=tree_May.calls A2 c2 (l0 ++ [o]) (mayB (l0 ++ [o])) w2 (by rw [hlen]; exact hC2) (by rw [hlen]; exact hc2) (Qco hsm)
  rw [hlen] at this
  exact this)
 obtain ⟨b0,b1,b2,b3,b4,b5,b6,b7,b8,b9,b10⟩:=S11.boxed w o A7 c7 64
 have HR0:=Zz.k hr0
 have HC0:=Zz.k hc0
 have HL:=Zz.k hl
 have HB2:=Zz.k (And.intro b2 (And.intro b6 (And.intro b7 (And.intro b8 (And.intro b9 b10)))))
 clear hcW hr0 hr7 hlen hsm hl hc0
 go_enter Tryz.func34,Tryz.ntmps34
 go_wp2_with fail
 refine HW.out.mono ?_
 rintro e w2 ⟨A2,c2,rfl,hc2,hC2,hb2⟩
 have HM2:=Zz.k (HM.out A2 c2 w2 hc2 hC2)
 have HB:=Zz.k (Qas HAL.out hb2)
 have HX:=Zz.k (And.intro (Qab hb2 b2) (And.intro (Qab hb2 b8) (And.intro (Qab hb2 b9) (Qab hb2 b10))))
 clear b0 b1 b2 b3 b4 b5 b6 b7 b8 b9 b10 HW HM HB2 hc2 hC2 hb2
 go_wp2_with fail
 refine HM2.out.mono ?_
 rintro e w3 ⟨rfl,hb3⟩
 obtain ⟨x2,x8,x9,x10⟩:=HX.out
 have y2:=Qab hb3 x2
 have y8:=Qab hb3 x8
 have y9:=Qab hb3 x9
 have y10:=Qab hb3 x10
 have HB3:=Zz.k (Qas HB.out hb3)
 clear x2 x8 x9 x10 HX HM2 hb3 HB
 cases hm : mayB (l0 ++ [o]) with
 | false =>
  rw [hm] at h
  have e1 : (false,(1 : Int)) = (r1,r2):=h
  injection e1 with e1 e2
  subst e1 e2
  clear hm h
  go_wp2
  go_ret2
  exact ⟨rfl,HB3.out⟩
 | true =>
  rw [hm] at h
  have e1 : (idleR l0 o,(0 : Int)) = (r1,r2):=h
  injection e1 with e1 e2
  subst e2
  have HE:=Zz.k e1
  clear e1
  have HMB:=Zz.k hm
  clear h hm
  go_upto_region 3 with (fail)
  by_cases h2 : o.f2 = 2
  ·obtain ⟨hrow,hnext⟩:=RowOk.snoc_inv ((Qci _).1 HMB.out)
   obtain ⟨p,hp,p1,p2,p3⟩:=hnext.tog h2
   obtain ⟨i,hi,hfi,hri⟩:=Qcg hrow hp
   clear hri
   rw [p2,p3] at hfi
   have hcn:=counts_at hrow hi
   have hpi : l0[i] = p:=by
    rcases Qav l0 o.f6 o.f7 with ⟨j,hj,j0,j1,_,ej⟩ | ⟨hn,_⟩
    ·rw [hfi] at ej
     have : i = j:=by omega
     subst this
     have:=name_inj hrow hi (show i < l0.length from hi) rfl rfl
     obtain ⟨k,hk,rfl⟩:=List.getElem_of_mem hp
     have:=name_inj hrow hi hk (by rw [j0,p2]) (by rw [j1,p3])
     subst this; rfl
    ·exact absurd ⟨p2,p3⟩ (hn p hp)
   rw [hpi,p2,p3] at hcn
   obtain ⟨k,hk⟩:=Ev.rounds (Counts_ev hrow)
   have hbC:=fun W (hb : Below w.heap.size w W) => doc_Counts.calls k A0 c0 l0 (Qcx l0) W (Kd.C_below HR0.out hb) HC0.out hk
   have hbF:=fun W (hb : Below w.heap.size w W) => tree_Find.calls A0 c0 l0 o.f6 o.f7 (i : Int) W (Kd.C_below HR0.out hb) HC0.out (by unfold tree_Find.f; rw [if_pos (by have:=HL.out; omega),hfi])
   have HCC:=Zz.k hbC
   have HFF:=Zz.k hbF
   have hi0 : (0 : Int) <= (i : Int):=by omega
   have hi1 : (i : Int) < ((Qcx l0).length : Int):=by rw [counts_length]; omega
   have hrd : rd (Qcx l0) (i : Int) = cntR l0 o.f6 o.f7:=by unfold rd; rw [Int.toNat_natCast,hcn]
   have hid : idleR l0 o = (o.f8 != cntR l0 o.f6 o.f7):=by unfold idleR; rw [h2]; rfl
   rw [hid] at HE
   have HI:=Zz.k (And.intro hi0 (And.intro hi1 hrd))
   clear hbC hbF hk hcn hpi hfi hp p1 p2 p3 hnext hrow hid hi hi0 hi1 hrd
   have e2 : (o.f2 == 2) = true:=by rw [h2]; rfl
   refine stL (S:=fun w' => w'.cell? ⟨w.heap.size,2,none⟩ = some (.int .i64 o.f2) /\ w'.cell? ⟨w.heap.size,8,none⟩ = some (.int .i64 o.f6) /\ w'.cell? ⟨w.heap.size,9,none⟩ = some (.int .i64 o.f7) /\ w'.cell? ⟨w.heap.size,10,none⟩ = some (.int .i64 o.f8)) [] 20 t_doc_Idle.bits3 t_doc_Idle.tab3 (hS:=⟨y2,y8,y9,y10⟩) (h:=fun hS HT HW => ?_)
   refine pu HT 0 11 1 (h := ?_)
   refine tk HT HW hS 1 12 3 (h := ?_)
   refine pu HT 2 13 7 (h := ?_)
   refine pu HT 3 14 15 (h := ?_)
   refine pu HT 4 15 31 (h := ?_)
   refine tk HT HW hS 5 16 63 (h := ?_)
   refine pu HT 6 17 127 (h := ?_)
   refine pu HT 8 19 383 (h := ?_)
   refine pu HT 9 20 895 (h := ?_)
   refine tk HT HW hS 10 21 1919 (h := ?_)
   refine pu HT 11 22 3967 (h := ?_)
   refine tk HT HW hS 12 23 8063 (h := ?_)
   refine ca HT 7 (some 18) 8191 #[.slice A0 l0.length c0] Tryz.func56 (h:=fun K hK => ?_)
   refine (HCC.out _ (Qae HB3.out)).mono ?_
   rintro e w4 ⟨v4,rfl,hR4,hb4⟩
   obtain ⟨A4,c4,rfl,hc4,hC4⟩:=Kd.R_reads hR4
   have HB4:=Zz.k (Qas (Qae HB3.out) hb4)
   refine ⟨_,rfl, ?_⟩
   refine hK.out _ _ ⟨Qab hb4 y2,Qab hb4 y8,Qab hb4 y9,Qab hb4 y10⟩ (fun hS => ?_)
   obtain ⟨z2,z8,z9,z10⟩:=hS
   have HZ:=Zz.k (And.intro z2 (And.intro z8 (And.intro z9 z10)))
   have HC4:=Zz.k hC4
   clear hK hb4 hR4 hC4 y2 y8 y9 y10 HCC z2 z8 z9 z10
   refine nm (h := ?_)
   refine ca HT 13 (some 24) 16383 #[.slice A0 l0.length c0, .int .i64 o.f6, .int .i64 o.f7] Tryz.func62 (h:=fun K hK => ?_)
   refine (HFF.out _ HB4.out).mono ?_
   rintro e w5 ⟨rfl,hb5⟩
   have HB5:=Zz.k (Qas HB4.out hb5)
   refine ⟨_,rfl, ?_⟩
   refine hK.out _ _ ⟨Qab hb5 HZ.out.1,Qab hb5 HZ.out.2.1,Qab hb5 HZ.out.2.2.1,Qab hb5 HZ.out.2.2.2⟩ (fun hS => ?_)
   have hC5:=Kd.C_below HC4.out hb5
   clear hK hb5 HZ HC4 HFF
   obtain ⟨hi0,hi1,hrd⟩:=HI.out
   obtain ⟨ad,rfl,hcell⟩:=Kd.at_int hC5 (i : Int) hi0 hi1
   rw [hrd] at hcell
   simp only [Int.toNat_natCast] at hcell
   generalize (Qcx l0).length = nn at hi1 ⊢
   generalize cntR l0 o.f6 o.f7 = cc at hcell HE ⊢
   clear hC5 HI hrd
   refine nm (h := ?_)
   refine pu HT 14 25 32767 (h := ?_)
   refine exS HT 15 (some 26) 65535 (.int .i64 cc) w5 (hrun := ?_) (hS:=hS) (h:=fun hS => ?_)
   ·clear HT HW hS
    go_simp
   refine nm (h := ?_)
   refine pu HT 16 27 131071 (h := ?_)
   refine pu HT 17 28 262143 (h := ?_)
   refine pu HT 18 4 524287 (h := ?_)
   refine pu HT 19 5 1048575 (h := ?_)
   refine dn HT (h := ?_)
   clear HT HW hS
   go_wp2
   go_ret2
   exact ⟨by rw [<- HE.out]; rfl,HB5.out⟩
  ·have e2 : (o.f2 == 2) = false:=by simp [h2]
   have hid : idleR l0 o = false:=by unfold idleR; rw [e2]; rfl
   rw [hid] at HE
   refine stL (S:=fun w' => w'.cell? ⟨w.heap.size,2,none⟩ = some (.int .i64 o.f2)) [] 20 t_doc_Idle.bits3 t_doc_Idle.tab3 (hS:=y2) (h:=fun hS HT HW => ?_)
   clear y2 y8 y9 y10
   refine pu HT 0 11 1 (h := ?_)
   refine tk HT HW hS 1 12 3 (h := ?_)
   refine pu HT 2 13 7 (h := ?_)
   refine pu HT 3 14 15 (h := ?_)
   refine off HT 4 15 31 (h := ?_)
   refine off HT 5 16 63 (h := ?_)
   refine off HT 6 17 127 (h := ?_)
   refine off HT 7 18 255 (h := ?_)
   refine off HT 8 19 511 (h := ?_)
   refine off HT 9 20 1023 (h := ?_)
   refine off HT 10 21 2047 (h := ?_)
   refine off HT 11 22 4095 (h := ?_)
   refine off HT 12 23 8191 (h := ?_)
   refine off HT 13 24 16383 (h := ?_)
   refine off HT 14 25 32767 (h := ?_)
   refine off HT 15 26 65535 (h := ?_)
   refine off HT 16 27 131071 (h := ?_)
   refine pu HT 17 28 262143 (h := ?_)
   refine pu HT 18 4 524287 (h := ?_)
   refine pu HT 19 5 1048575 (h := ?_)
   refine dn HT (h := ?_)
   clear HT HW hS
   go_wp2
   go_ret2
   exact ⟨by rw [<- HE.out]; rfl,Qae HB3.out⟩
theorem doc_Idle.calls (A0 : Option Addr) (c0 : Nat) (l0 : List (SOp)) (a1_0 : Int) (a1_1 : Int) (a1_2 : Int) (a1_3 : Int) (a1_4 : Int) (a1_5 : Int) (a1_6 : ByteArray) (A1_7 : Option Addr) (c1_7 : Nat) (l1_7 : List (SElem)) (a1_8 : Int) (a1_9 : Int) (a1_10 : Int) (r1 : Bool) (r2 : Int) (w : World) (hr0 : Kd.C kOp w A0 l0.length l0) (hc0 : l0.length <= c0) (hr1_7 : Kd.C Qao w A1_7 l1_7.length l1_7) (hc1_7 : l1_7.length <= c1_7) (h : doc_Idle.f l0 a1_0 a1_1 a1_2 a1_3 a1_4 a1_5 a1_6 l1_7 a1_8 a1_9 a1_10 = some (r1,r2)) :
  Calls Tryz.prog 34 #[.slice A0 l0.length c0, .agg #[.int .i64 a1_0, .int .i64 a1_1, .int .i64 a1_2, .int .i64 a1_3, .int .i64 a1_4, .int .i64 a1_5, .string a1_6, .slice A1_7 l1_7.length c1_7, .int .i64 a1_8, .int .i64 a1_9, .int .i64 a1_10]] w fun e w' => e = .returned (.tuple #[.bool r1, .int .i64 r2]) /\ Below w.heap.size w w' :=
 Idle_calls A0 c0 l0 ⟨a1_0,a1_1,a1_2,⟨a1_3,a1_4,a1_5⟩,a1_6,l1_7,a1_8,a1_9,a1_10⟩ A1_7 c1_7 r1 r2 w hr0 hc0 hr1_7 hc1_7 h
end
end Go.Proofs.YtonoaflfobajcaaGreatDoor.L
end
