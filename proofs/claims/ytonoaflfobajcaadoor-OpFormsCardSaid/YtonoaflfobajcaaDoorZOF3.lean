/- Part 3 of the proof that for every argument the law OpForms answers true: ops of each form, with each part spoilt by itself, may be, or not, as the page says: by ops made here. -/
import Derived.Test.YtonoaflfobajcaaDoorZOF2
import Derived.Lib.SliceRun
section
namespace Go.Proofs.YtonoaflfobajcaaDoor.L
open Go.RowKit Go.Proofs.YtonoaflfobajcaaDoorW.PrintWords Go.Proofs.YtonoaflfobajcaaDoorW.PrintLast Go.Proofs.YtonoaflfobajcaaDoorW.PrintMore
set_option linter.unusedVariables false
set_option linter.unusedSimpArgs false
set_option maxHeartbeats 40000000
set_option maxRecDepth 1000000
section
attribute [local go_sem] Qbq Qbo Qcd Qcc Qba Qaz Qbp Qbn
attribute [local go_sem high] eqAElem
def op_gone.l0 : Nat -> List (SElem) -> Int -> Int -> Int -> Int -> Int -> Int -> Int -> Int -> ByteArray -> List (SElem) -> Int -> Int -> Int -> Option (Bool)
 | 0,_,_,_,_,_,_,_,_,_,_,_,_,_,_ => none
 | k + 1,x6,x7,x8,x133000,x133001,x133002,x133003,x133004,x133005,x133006,x133007,x133008,x133009,x133010 => if x8 < x7 then (if 0 <= x8 then (if x8 < (x6.length : Int) then (if (((Qaa x6 x8).f0) == 0 && (((Qaa x6 x8).f1) == 0 && (((Qaa x6 x8).f2) == 0))) = true then (some false) else ((op_IsElem.f ((Qaa x6 x8).f0) ((Qaa x6 x8).f1) ((Qaa x6 x8).f2)).bind fun t135 => (if t135 = true then ((op_own.f x133000 x133001 x133002 x133003 x133004 x133005 x133006 x133007 x133008 x133009 x133010 ((Qaa x6 x8).f0) ((Qaa x6 x8).f1) ((Qaa x6 x8).f2)).bind fun t136 => (if t136 = true then (some false) else (if x8 > 0 then (if 0 <= (wrap64 (x8 - 1)) then (if (wrap64 (x8 - 1)) < (x133007.length : Int) then ((op_Less.f k ((Qaa x133007 (wrap64 (x8 - 1))).f0) ((Qaa x133007 (wrap64 (x8 - 1))).f1) ((Qaa x133007 (wrap64 (x8 - 1))).f2) ((Qaa x6 x8).f0) ((Qaa x6 x8).f1) ((Qaa x6 x8).f2)).bind fun t138 => (if t138 = true then (op_gone.l0 k x6 x7 (wrap64 (x8 + 1)) x133000 x133001 x133002 x133003 x133004 x133005 x133006 x133007 x133008 x133009 x133010) else (some false))) else (none)) else (none)) else (op_gone.l0 k x6 x7 (wrap64 (x8 + 1)) x133000 x133001 x133002 x133003 x133004 x133005 x133006 x133007 x133008 x133009 x133010)))) else (some false)))) else (none)) else (none)) else (some (decide ((x133007.length : Int) <= 200)))
def op_gone.f (k : Nat) (a0_0 : Int) (a0_1 : Int) (a0_2 : Int) (a0_3 : Int) (a0_4 : Int) (a0_5 : Int) (a0_6 : ByteArray) (l0_7 : List (SElem)) (a0_8 : Int) (a0_9 : Int) (a0_10 : Int) : Option (Bool):=op_gone.l0 k l0_7 (l0_7.length : Int) 0 a0_0 a0_1 a0_2 a0_3 a0_4 a0_5 a0_6 l0_7 a0_8 a0_9 a0_10
theorem op_gone.mono_l : ∀ k,(∀ y0 y1 y2 y3 y4 y5 y6 y7 y8 y9 y10 y11 y12 y13,LeO (op_gone.l0 k y0 y1 y2 y3 y4 y5 y6 y7 y8 y9 y10 y11 y12 y13) (op_gone.l0 (k + 1) y0 y1 y2 y3 y4 y5 y6 y7 y8 y9 y10 y11 y12 y13))
 | 0 => fun _ _ _ _ _ _ _ _ _ _ _ _ _ _ r h => by simp [op_gone.l0] at h
 | k + 1 => by
  have ih0:=op_gone.mono_l k
  ·intro y0 y1 y2 y3 y4 y5 y6 y7 y8 y9 y10 y11 y12 y13
   unfold op_gone.l0
   repeat' first
   | (with_reducible exact ih0 _ _ _ _ _ _ _ _ _ _ _ _ _ _)
   | (with_reducible exact op_Less.mono _ _ _ _ _ _ _)
   | (with_reducible exact LeO.refl _)
   | (with_reducible exact LeO.none _)
   | (with_reducible refine LeO.ite ?_ ?_)
   | (with_reducible refine LeO.bind ?_ (fun _ => ?_))
   | exact ih0 _ _ _ _ _ _ _ _ _ _ _ _ _ _
   | exact op_Less.mono _ _ _ _ _ _ _
   | exact LeO.none _
   | refine LeO.ite ?_ ?_
   | refine LeO.bind ?_ (fun _ => ?_)
theorem op_gone.mono : ∀ a0 a1 a2 a3 a4 a5 a6 a7 a8 a9 a10 k,LeO (op_gone.f k a0 a1 a2 a3 a4 a5 a6 a7 a8 a9 a10) (op_gone.f (k + 1) a0 a1 a2 a3 a4 a5 a6 a7 a8 a9 a10):=by
 intro a0 a1 a2 a3 a4 a5 a6 a7 a8 a9 a10 k
 have ih0:=op_gone.mono_l k
 unfold op_gone.f
 repeat' first
   | (with_reducible exact ih0 _ _ _ _ _ _ _ _ _ _ _ _ _ _)
   | (with_reducible exact op_Less.mono _ _ _ _ _ _ _)
   | (with_reducible exact LeO.refl _)
   | (with_reducible exact LeO.none _)
   | (with_reducible refine LeO.ite ?_ ?_)
   | (with_reducible refine LeO.bind ?_ (fun _ => ?_))
   | exact ih0 _ _ _ _ _ _ _ _ _ _ _ _ _ _
   | exact op_Less.mono _ _ _ _ _ _ _
   | exact LeO.none _
   | refine LeO.ite ?_ ?_
   | refine LeO.bind ?_ (fun _ => ?_)
def op_gone.T4 : Bool × List (List Nat × List Nat):=(true,[([],[]),([],[]),([0,1],[0,1]),([2],[2]),([3],[3]),([4,3,3],[3,4]),([5,3],[3,5]),([3,6],[3,6]),([7,5],[7]),([8],[8]),([8],[8]),([9,10,8,8],[8,9,10]),([8,11],[8,11]),([12,11],[12]),([13],[13]),([14,13],[13,14]),([15,13,13],[13,15]),([16],[16]),([17,16],[16,17]),([16],[16]),([19,16],[16,19]),([18,20,16],[16,18,20]),([21,16],[16,21]),([16],[16]),([22,23,16,16],[16,22,23]),([24,16],[16,24]),([16,25,13],[13,16,25]),([13,26],[13,26])])
def op_gone.B4 : List Nat:=[0,0,3,7,15,31,63,127,255,511,511,2047,4095,8191,16383,32767,65535,131071,262143,131071,655359,2097151,4194303,131071,16777215,33554431,67108863,134217727]
theorem op_gone.tab4 : rtab .any (opsOf Tryd.f139 4) = op_gone.T4:=by kernel_rfl
theorem op_gone.bits4 : Qbf op_gone.T4.2 op_gone.B4 = true:=by kernel_rfl
theorem op_gone.calls (k : Nat) (a0_0 : Int) (a0_1 : Int) (a0_2 : Int) (a0_3 : Int) (a0_4 : Int) (a0_5 : Int) (a0_6 : ByteArray) (A0_7 : Option Addr) (c0_7 : Nat) (l0_7 : List (SElem)) (a0_8 : Int) (a0_9 : Int) (a0_10 : Int) (r : Bool) (w : World) (hr0_7 : Kd.C Qam w A0_7 l0_7.length l0_7) (hc0_7 : l0_7.length <= c0_7) (h : op_gone.f k a0_0 a0_1 a0_2 a0_3 a0_4 a0_5 a0_6 l0_7 a0_8 a0_9 a0_10 = some r) :
  Calls Tryd.prog 139 #[.agg #[.int .i64 a0_0, .int .i64 a0_1, .int .i64 a0_2, .int .i64 a0_3, .int .i64 a0_4, .int .i64 a0_5, .string a0_6, .slice A0_7 l0_7.length c0_7, .int .i64 a0_8, .int .i64 a0_9, .int .i64 a0_10]] w fun e w' => e = .returned (.bool r) /\ Below w.heap.size w w':=by
 have hu55:=Tryd.underlying55
 have hu43:=Tryd.underlying43
 have HR0_7:=Zz.k hr0_7
 have HC0_7:=Zz.k hc0_7
 clear hr0_7 hc0_7
 have HB:=Zz.k (Below.refl w.heap.size w)
 unfold op_gone.f at h; have H:=h
 clear h
 have H':=Zz.k H
 clear H
 go_enter Tryd.func139,Tryd.ntmps139
 go_wp2_with (first | ((with_reducible refine Qac (N:=1) rfl ?_); refine bx 1 #[.int .i64 a0_0, .int .i64 a0_1, .int .i64 a0_2, .int .i64 a0_3, .int .i64 a0_4, .int .i64 a0_5, .string a0_6, .slice A0_7 l0_7.length c0_7, .int .i64 a0_8, .int .i64 a0_9, .int .i64 a0_10] 55 (h := ?_); intro gb132 hg w2 hbox hb; have BK132:=Zz.k (hbox); have GW132:=bz HB hg; have GE132:=bz HB hg; replace HB:=bs HB hb; clear hb hbox hg; obtain ⟨_,_,_,_,_,_,_,_,_,_,_,_,_,_,_,_,_,_,_,_,_,_⟩:=kc11 BK132))
 go_loopg [8] k (fun kq v8 w' => ∃ (x8_1 : Int),v8 = .int .i64 x8_1 /\ Zz (op_gone.l0 kq l0_7 (l0_7.length : Int) x8_1 a0_0 a0_1 a0_2 a0_3 a0_4 a0_5 a0_6 l0_7 a0_8 a0_9 a0_10 = some r) /\ Zz (kq <= k) /\ Zz (w'.heap[gb132]? = some (.cells #[.int .i64 a0_0, .int .i64 a0_1, .int .i64 a0_2, .int .i64 a0_3, .int .i64 a0_4, .int .i64 a0_5, .string a0_6,(.slice A0_7 l0_7.length c0_7), .int .i64 a0_8, .int .i64 a0_9, .int .i64 a0_10] 55 (0,0))) /\ Zz (Below w.heap.size w w'))
 case atStart => exact ⟨(0),rf,H',⟨Nat.le_refl _⟩,⟨kk BK132⟩,⟨bw HB⟩⟩
 case round =>
  clear H'
  obtain ⟨x8_1,rfl,HA,HK1,BK132,HB⟩:=hrel
  cases gk with
  | zero => exact absurd HA.out (by simp [op_gone.l0])
  | succ k1 =>
   have H:=HA.out
   clear HA
   simp only [op_gone.l0] at H
   by_cases c4 : x8_1 < (l0_7.length : Int); rotate_left
   ·rw [if_neg c4] at H
    have c4b0:=Ze c4
    clear c4
    obtain rfl:=Zo H
    obtain ⟨_,_,_,_,_,_,_,_,_,_,_,_,_,_,_,_,_,_,_,_,_,_⟩:=kc11 BK132
    go_wp2
    go_ret
    exact ⟨re,bw HB⟩
   rw [if_pos c4] at H
   have c4b0:=Zd c4
   clear c4
   by_cases c5 : 0 <= x8_1; rotate_left
   ·rw [if_neg c5] at H
    exact absurd H (by simp)
   rw [if_pos c5] at H
   have c5b0:=Zd c5
   clear c5
   by_cases c6 : x8_1 < (l0_7.length : Int); rotate_left
   ·rw [if_neg c6] at H
    exact absurd H (by simp)
   rw [if_pos c6] at H
   have c6b0:=Zd c6
   clear c6
   by_cases c7 : (((Qaa l0_7 x8_1).f0) == 0 && (((Qaa l0_7 x8_1).f1) == 0 && (((Qaa l0_7 x8_1).f2) == 0))) = true
   ·rw [if_pos c7] at H
    have c7b0 : (((Qaa l0_7 x8_1).f0) == 0 && (((Qaa l0_7 x8_1).f1) == 0 && (((Qaa l0_7 x8_1).f2) == 0))) = true:=c7
    (try (have c7b1 : decide (((Qaa l0_7 x8_1).f0) = 0 && (((Qaa l0_7 x8_1).f1) == 0 && (((Qaa l0_7 x8_1).f2) == 0))) = true:=by simpa using c7))
    (try (have c7b2 : (((Qaa l0_7 x8_1).f0) == 0 && (((Qaa l0_7 x8_1).f1) == 0 && (((Qaa l0_7 x8_1).f2) == 0))) = true:=by simpa using c7))
    clear c7
    obtain rfl:=Zo H
    have p133 : 0 <= (x8_1 : Int):=od
    have q133 : x8_1 < (l0_7.length : Int):=od
    obtain ⟨ad133,e133,hx133_0,hx133_1,hx133_2⟩:=Qat HR0_7.out x8_1 p133 q133
    cases e133
    replace hx133_0:=cl HB hx133_0
    replace hx133_1:=cl HB hx133_1
    replace hx133_2:=cl HB hx133_2
    replace p133:=eq_true p133
    replace q133:=eq_true q133
    try go_wp2_with (first | ((with_reducible refine Qac (N:=4) rfl ?_); refine bx 4 #[.int .i64 0, .int .i64 0, .int .i64 0] 43 (h := ?_); intro gb134 hg w8 hbox hb; have BK134:=Zz.k (hbox); have GW134:=bz HB hg; have GE134:=bz HB hg; have NB132_134:=bn BK132 hg; have NB134_132:=bm BK132 hg; replace BK132:=bl BK132 hb; replace HB:=bs HB hb; clear hb hbox hg; have hnb9:=NB134_132.out; have hnc9:=NB132_134.out; obtain ⟨_,_,_,_,_,_⟩:=kc3 BK134))
    generalize hgz : (((w8.setCell ⟨gb134,0,none⟩ (.int .i64 ((Qaa l0_7 x8_1).f0))).setCell ⟨gb134,1,none⟩ (.int .i64 ((Qaa l0_7 x8_1).f1))).setCell ⟨gb134,2,none⟩ (.int .i64 ((Qaa l0_7 x8_1).f2))) = w11
    have n0_ : Zz (w11.heap[gb132]? = some (.cells #[.int .i64 a0_0, .int .i64 a0_1, .int .i64 a0_2, .int .i64 a0_3, .int .i64 a0_4, .int .i64 a0_5, .string a0_6, .slice (some ad133) l0_7.length c0_7, .int .i64 a0_8, .int .i64 a0_9, .int .i64 a0_10] 55 (0,0))):=by rw [<- hgz]; exact ⟨kk BK132⟩
    have n1_ : Zz (w11.heap[gb134]? = some (.cells #[.int .i64 ((Qaa l0_7 x8_1).f0), .int .i64 ((Qaa l0_7 x8_1).f1), .int .i64 ((Qaa l0_7 x8_1).f2)] 43 (0,0))):=by rw [<- hgz]; exact ⟨bp (bp (bp (kk BK134) 0) 1) 2⟩
    have n2_ : Zz (Below w.heap.size w w11):=by rw [<- hgz]; exact ⟨bw HB⟩
    (try clear BK132)
    (try clear BK134)
    (try clear HB)
    clear hgz
    have BK132:=n0_
    have BK134:=n1_
    have HB:=n2_
    clear n0_ n1_ n2_
    have n0_:=Zz.k (Qal BK132.out)
    have n1_:=Zz.k (Qal BK134.out)
    have n2_:=Zz.k (Qai HB.out)
    clear BK132
    clear BK134
    clear HB
    have BK132:=n0_
    have BK134:=n1_
    have HB:=n2_
    clear n0_ n1_ n2_
    refine stP (fun w' => E3 w' gb134 (.int .i64 ((Qaa l0_7 x8_1).f0)) (.int .i64 ((Qaa l0_7 x8_1).f1)) (.int .i64 ((Qaa l0_7 x8_1).f2))) 28 (e3 BK134) (h:=fun hHeld => ?_); refine Qbe op_gone.tab4 op_gone.bits4 (fun HT_ HW_ => ?_)
    generalize w11.drew = w12 at BK132 BK134 HB hHeld ⊢
    refine pu HT_ 1 14 2 (h := ?_)
    refine tk HT_ HW_ hHeld 0 13 3 (h := ?_)
    refine pu HT_ 2 15 7 (h := ?_)
    refine pu HT_ 3 16 15 (h := ?_)
    refine off HT_ 4 17 31 (h := ?_)
    refine off HT_ 5 18 63 (h := ?_)
    refine off HT_ 6 19 127 (h := ?_)
    refine pu HT_ 7 20 255 (h := ?_)
    refine pu HT_ 8 21 511 (h := ?_)
    refine off HT_ 9 22 1023 (h := ?_)
    refine off HT_ 10 23 2047 (h := ?_)
    refine off HT_ 11 24 4095 (h := ?_)
    refine pu HT_ 12 25 8191 (h := ?_)
    refine pu HT_ 13 26 16383 (h := ?_)
    refine off HT_ 14 27 32767 (h := ?_)
    refine off HT_ 15 28 65535 (h := ?_)
    refine off HT_ 16 29 131071 (h := ?_)
    refine off HT_ 17 30 262143 (h := ?_)
    refine off HT_ 18 31 524287 (h := ?_)
    refine off HT_ 19 32 1048575 (h := ?_)
    refine off HT_ 20 33 2097151 (h := ?_)
    refine off HT_ 21 34 4194303 (h := ?_)
    refine off HT_ 22 35 8388607 (h := ?_)
    refine off HT_ 23 36 16777215 (h := ?_)
    refine off HT_ 24 37 33554431 (h := ?_)
    refine off HT_ 25 38 67108863 (h := ?_)
    refine off HT_ 26 39 134217727 (h := ?_)
    refine pu HT_ 27 40 268435455 (h := ?_)
    refine dn HT_ (h := ?_)
    try go_wp2
    go_ret
    exact ⟨re,bw HB⟩
   rw [if_neg c7] at H
   have c7b0 : (((Qaa l0_7 x8_1).f0) == 0 && (((Qaa l0_7 x8_1).f1) == 0 && (((Qaa l0_7 x8_1).f2) == 0))) = false:=by simpa using c7
   (try (have c7b1 : decide (((Qaa l0_7 x8_1).f0) = 0 && (((Qaa l0_7 x8_1).f1) == 0 && (((Qaa l0_7 x8_1).f2) == 0))) = false:=by simpa using c7))
   (try (have c7b2 : (((Qaa l0_7 x8_1).f0) == 0 && (((Qaa l0_7 x8_1).f1) == 0 && (((Qaa l0_7 x8_1).f2) == 0))) = false:=by simpa using c7))
   (try (have c7b3 : ¬ (((Qaa l0_7 x8_1).f0) = 0 && (((Qaa l0_7 x8_1).f1) == 0 && (((Qaa l0_7 x8_1).f2) == 0))):=by simpa using c7))
   clear c7
   obtain ⟨t135,A13,H⟩:=bE H
   by_cases c14 : t135 = true; rotate_left
   ·replace c14:=Zf c14
    subst c14
    rw [if_neg nft] at H
    obtain rfl:=Zo H
    have p133 : 0 <= (x8_1 : Int):=od
    have q133 : x8_1 < (l0_7.length : Int):=od
    obtain ⟨ad133,e133,hx133_0,hx133_1,hx133_2⟩:=Qat HR0_7.out x8_1 p133 q133
    cases e133
    replace hx133_0:=cl HB hx133_0
    replace hx133_1:=cl HB hx133_1
    replace hx133_2:=cl HB hx133_2
    replace p133:=eq_true p133
    replace q133:=eq_true q133
    try go_wp2_with (first | ((with_reducible refine Qac (N:=4) rfl ?_); refine bx 4 #[.int .i64 0, .int .i64 0, .int .i64 0] 43 (h := ?_); intro gb134 hg w53 hbox hb; have BK134:=Zz.k (hbox); have GW134:=bz HB hg; have GE134:=bz HB hg; have NB132_134:=bn BK132 hg; have NB134_132:=bm BK132 hg; replace BK132:=bl BK132 hb; replace HB:=bs HB hb; clear hb hbox hg; have hnb54:=NB134_132.out; have hnc54:=NB132_134.out; obtain ⟨_,_,_,_,_,_⟩:=kc3 BK134))
    generalize hgz : (((w53.setCell ⟨gb134,0,none⟩ (.int .i64 ((Qaa l0_7 x8_1).f0))).setCell ⟨gb134,1,none⟩ (.int .i64 ((Qaa l0_7 x8_1).f1))).setCell ⟨gb134,2,none⟩ (.int .i64 ((Qaa l0_7 x8_1).f2))) = w56
    have n0_ : Zz (w56.heap[gb132]? = some (.cells #[.int .i64 a0_0, .int .i64 a0_1, .int .i64 a0_2, .int .i64 a0_3, .int .i64 a0_4, .int .i64 a0_5, .string a0_6, .slice (some ad133) l0_7.length c0_7, .int .i64 a0_8, .int .i64 a0_9, .int .i64 a0_10] 55 (0,0))):=by rw [<- hgz]; exact ⟨kk BK132⟩
    have n1_ : Zz (w56.heap[gb134]? = some (.cells #[.int .i64 ((Qaa l0_7 x8_1).f0), .int .i64 ((Qaa l0_7 x8_1).f1), .int .i64 ((Qaa l0_7 x8_1).f2)] 43 (0,0))):=by rw [<- hgz]; exact ⟨bp (bp (bp (kk BK134) 0) 1) 2⟩
    have n2_ : Zz (Below w.heap.size w w56):=by rw [<- hgz]; exact ⟨bw HB⟩
    (try clear BK132)
    (try clear BK134)
    (try clear HB)
    clear hgz
    have BK132:=n0_
    have BK134:=n1_
    have HB:=n2_
    clear n0_ n1_ n2_
    have n0_:=Zz.k (Qal BK132.out)
    have n1_:=Zz.k (Qal BK134.out)
    have n2_:=Zz.k (Qai HB.out)
    clear BK132
    clear BK134
    clear HB
    have BK132:=n0_
    have BK134:=n1_
    have HB:=n2_
    clear n0_ n1_ n2_
    refine stP (fun w' => E3 w' gb134 (.int .i64 ((Qaa l0_7 x8_1).f0)) (.int .i64 ((Qaa l0_7 x8_1).f1)) (.int .i64 ((Qaa l0_7 x8_1).f2))) 28 (e3 BK134) (h:=fun hHeld => ?_); refine Qbe op_gone.tab4 op_gone.bits4 (fun HT_ HW_ => ?_)
    generalize w56.drew = w57 at BK132 BK134 HB hHeld ⊢
    refine pu HT_ 1 14 2 (h := ?_)
    refine tk HT_ HW_ hHeld 0 13 3 (h := ?_)
    refine pu HT_ 2 15 7 (h := ?_)
    refine pu HT_ 3 16 15 (h := ?_)
    refine tk HT_ HW_ hHeld 4 17 31 (h := ?_)
    refine on HT_ 5 (some 18) 63 (h:=fun K hK => ?_)
    refine gS Tryd.func97 #[.agg #[.int .i64 ((Qaa l0_7 x8_1).f0), .int .i64 ((Qaa l0_7 x8_1).f1), .int .i64 ((Qaa l0_7 x8_1).f2)]] (h := ?_)
    with_reducible refine (op_IsElem.calls ((Qaa l0_7 x8_1).f0) ((Qaa l0_7 x8_1).f1) ((Qaa l0_7 x8_1).f2) false _ A13.out).mono ?_
    rintro e w58 ⟨rfl,hb⟩
    refine ⟨_,rfl, ?_⟩
    have n0_:=bl BK132 hb
    have n1_:=bl BK134 hb
    have n2_:=bs HB hb
    clear BK132
    clear BK134
    clear HB
    have BK132:=n0_
    have BK134:=n1_
    have HB:=n2_
    clear n0_ n1_ n2_
    (try clear hb)
    (try clear hb2)
    (try clear hk)
    (try clear hi)
    refine hK.out _ _ (e3 BK134) (fun hHeld => ?_)
    clear hK K
    refine nn 18 (h := ?_)
    refine pu HT_ 6 19 127 (h := ?_)
    refine pu HT_ 7 20 255 (h := ?_)
    refine pu HT_ 8 21 511 (h := ?_)
    refine off HT_ 9 22 1023 (h := ?_)
    refine off HT_ 10 23 2047 (h := ?_)
    refine off HT_ 11 24 4095 (h := ?_)
    refine pu HT_ 12 25 8191 (h := ?_)
    refine pu HT_ 13 26 16383 (h := ?_)
    refine off HT_ 14 27 32767 (h := ?_)
    refine off HT_ 15 28 65535 (h := ?_)
    refine off HT_ 16 29 131071 (h := ?_)
    refine off HT_ 17 30 262143 (h := ?_)
    refine off HT_ 18 31 524287 (h := ?_)
    refine off HT_ 19 32 1048575 (h := ?_)
    refine off HT_ 20 33 2097151 (h := ?_)
    refine off HT_ 21 34 4194303 (h := ?_)
    refine off HT_ 22 35 8388607 (h := ?_)
    refine off HT_ 23 36 16777215 (h := ?_)
    refine off HT_ 24 37 33554431 (h := ?_)
    refine off HT_ 25 38 67108863 (h := ?_)
    refine off HT_ 26 39 134217727 (h := ?_)
    refine pu HT_ 27 40 268435455 (h := ?_)
    refine dn HT_ (h := ?_)
    try go_wp2
    go_ret
    exact ⟨re,bw HB⟩
   subst c14
   rw [if_pos rfl] at H
   obtain ⟨t136,A15,H⟩:=bE H
   by_cases c16 : t136 = true
   ·subst c16
    rw [if_pos rfl] at H
    obtain rfl:=Zo H
    have p133 : 0 <= (x8_1 : Int):=od
    have q133 : x8_1 < (l0_7.length : Int):=od
    obtain ⟨ad133,e133,hx133_0,hx133_1,hx133_2⟩:=Qat HR0_7.out x8_1 p133 q133
    cases e133
    replace hx133_0:=cl HB hx133_0
    replace hx133_1:=cl HB hx133_1
    replace hx133_2:=cl HB hx133_2
    replace p133:=eq_true p133
    replace q133:=eq_true q133
    try go_wp2_with (first | ((with_reducible refine Qac (N:=4) rfl ?_); refine bx 4 #[.int .i64 0, .int .i64 0, .int .i64 0] 43 (h := ?_); intro gb134 hg w17 hbox hb; have BK134:=Zz.k (hbox); have GW134:=bz HB hg; have GE134:=bz HB hg; have NB132_134:=bn BK132 hg; have NB134_132:=bm BK132 hg; replace BK132:=bl BK132 hb; replace HB:=bs HB hb; clear hb hbox hg; have hnb18:=NB134_132.out; have hnc18:=NB132_134.out; obtain ⟨_,_,_,_,_,_⟩:=kc3 BK134))
    generalize hgz : (((w17.setCell ⟨gb134,0,none⟩ (.int .i64 ((Qaa l0_7 x8_1).f0))).setCell ⟨gb134,1,none⟩ (.int .i64 ((Qaa l0_7 x8_1).f1))).setCell ⟨gb134,2,none⟩ (.int .i64 ((Qaa l0_7 x8_1).f2))) = w20
    have n0_ : Zz (w20.heap[gb132]? = some (.cells #[.int .i64 a0_0, .int .i64 a0_1, .int .i64 a0_2, .int .i64 a0_3, .int .i64 a0_4, .int .i64 a0_5, .string a0_6, .slice (some ad133) l0_7.length c0_7, .int .i64 a0_8, .int .i64 a0_9, .int .i64 a0_10] 55 (0,0))):=by rw [<- hgz]; exact ⟨kk BK132⟩
    have n1_ : Zz (w20.heap[gb134]? = some (.cells #[.int .i64 ((Qaa l0_7 x8_1).f0), .int .i64 ((Qaa l0_7 x8_1).f1), .int .i64 ((Qaa l0_7 x8_1).f2)] 43 (0,0))):=by rw [<- hgz]; exact ⟨bp (bp (bp (kk BK134) 0) 1) 2⟩
    have n2_ : Zz (Below w.heap.size w w20):=by rw [<- hgz]; exact ⟨bw HB⟩
    (try clear BK132)
    (try clear BK134)
    (try clear HB)
    clear hgz
    have BK132:=n0_
    have BK134:=n1_
    have HB:=n2_
    clear n0_ n1_ n2_
    have n0_:=Zz.k (Qal BK132.out)
    have n1_:=Zz.k (Qal BK134.out)
    have n2_:=Zz.k (Qai HB.out)
    clear BK132
    clear BK134
    clear HB
    have BK132:=n0_
    have BK134:=n1_
    have HB:=n2_
    clear n0_ n1_ n2_
    refine stP (fun w' => B3 w' gb134 (.int .i64 ((Qaa l0_7 x8_1).f0)) (.int .i64 ((Qaa l0_7 x8_1).f1)) (.int .i64 ((Qaa l0_7 x8_1).f2)) (E11 w' gb132 (.int .i64 a0_0) (.int .i64 a0_1) (.int .i64 a0_2) (.int .i64 a0_3) (.int .i64 a0_4) (.int .i64 a0_5) (.string a0_6) (.slice (some ad133) l0_7.length c0_7) (.int .i64 a0_8) (.int .i64 a0_9) (.int .i64 a0_10))) 28 (b3 BK134 (e11 BK132)) (h:=fun hHeld => ?_); refine Qbe op_gone.tab4 op_gone.bits4 (fun HT_ HW_ => ?_)
    generalize w20.drew = w21 at BK132 BK134 HB hHeld ⊢
    refine pu HT_ 1 14 2 (h := ?_)
    refine tk HT_ HW_ hHeld 0 13 3 (h := ?_)
    refine pu HT_ 2 15 7 (h := ?_)
    refine pu HT_ 3 16 15 (h := ?_)
    refine tk HT_ HW_ hHeld 4 17 31 (h := ?_)
    refine on HT_ 5 (some 18) 63 (h:=fun K hK => ?_)
    refine gS Tryd.func97 #[.agg #[.int .i64 ((Qaa l0_7 x8_1).f0), .int .i64 ((Qaa l0_7 x8_1).f1), .int .i64 ((Qaa l0_7 x8_1).f2)]] (h := ?_)
    with_reducible refine (op_IsElem.calls ((Qaa l0_7 x8_1).f0) ((Qaa l0_7 x8_1).f1) ((Qaa l0_7 x8_1).f2) true _ A13.out).mono ?_
    rintro e w22 ⟨rfl,hb⟩
    refine ⟨_,rfl, ?_⟩
    have n0_:=bl BK132 hb
    have n1_:=bl BK134 hb
    have n2_:=bs HB hb
    clear BK132
    clear BK134
    clear HB
    have BK132:=n0_
    have BK134:=n1_
    have HB:=n2_
    clear n0_ n1_ n2_
    (try clear hb)
    (try clear hb2)
    (try clear hk)
    (try clear hi)
    refine hK.out _ _ (b3 BK134 (e11 BK132)) (fun hHeld => ?_)
    clear hK K
    refine nn 18 (h := ?_)
    refine pu HT_ 6 19 127 (h := ?_)
    refine pu HT_ 7 20 255 (h := ?_)
    refine pu HT_ 8 21 511 (h := ?_)
    refine tk HT_ HW_ hHeld 9 22 1023 (h := ?_)
    refine tk HT_ HW_ hHeld 10 23 2047 (h := ?_)
    refine on HT_ 11 (some 24) 4095 (h:=fun K hK => ?_)
    refine gS Tryd.func137 #[.agg #[.int .i64 a0_0, .int .i64 a0_1, .int .i64 a0_2, .int .i64 a0_3, .int .i64 a0_4, .int .i64 a0_5, .string a0_6, .slice (some ad133) l0_7.length c0_7, .int .i64 a0_8, .int .i64 a0_9, .int .i64 a0_10], .agg #[.int .i64 ((Qaa l0_7 x8_1).f0), .int .i64 ((Qaa l0_7 x8_1).f1), .int .i64 ((Qaa l0_7 x8_1).f2)]] (h := ?_)
    with_reducible refine (op_own.calls a0_0 a0_1 a0_2 a0_3 a0_4 a0_5 a0_6 _ _ l0_7 a0_8 a0_9 a0_10 ((Qaa l0_7 x8_1).f0) ((Qaa l0_7 x8_1).f1) ((Qaa l0_7 x8_1).f2) true _ ?side1 ?side2 A15.out).mono ?_
    (case side1 => exact cb HR0_7 HB)
    (case side2 => exact HC0_7.out)
    rintro e w23 ⟨rfl,hb⟩
    refine ⟨_,rfl, ?_⟩
    have n0_:=bl BK132 hb
    have n1_:=bl BK134 hb
    have n2_:=bs HB hb
    clear BK132
    clear BK134
    clear HB
    have BK132:=n0_
    have BK134:=n1_
    have HB:=n2_
    clear n0_ n1_ n2_
    (try clear hb)
    (try clear hb2)
    (try clear hk)
    (try clear hi)
    refine hK.out _ _ (b3 BK134 (e11 BK132)) (fun hHeld => ?_)
    clear hK K
    refine nn 24 (h := ?_)
    refine pu HT_ 12 25 8191 (h := ?_)
    refine pu HT_ 13 26 16383 (h := ?_)
    refine off HT_ 14 27 32767 (h := ?_)
    refine off HT_ 15 28 65535 (h := ?_)
    refine off HT_ 16 29 131071 (h := ?_)
    refine off HT_ 17 30 262143 (h := ?_)
    refine off HT_ 18 31 524287 (h := ?_)
    refine off HT_ 19 32 1048575 (h := ?_)
    refine off HT_ 20 33 2097151 (h := ?_)
    refine off HT_ 21 34 4194303 (h := ?_)
    refine off HT_ 22 35 8388607 (h := ?_)
    refine off HT_ 23 36 16777215 (h := ?_)
    refine off HT_ 24 37 33554431 (h := ?_)
    refine off HT_ 25 38 67108863 (h := ?_)
    refine off HT_ 26 39 134217727 (h := ?_)
    refine pu HT_ 27 40 268435455 (h := ?_)
    refine dn HT_ (h := ?_)
    try go_wp2
    go_ret
    exact ⟨re,bw HB⟩
   replace c16:=Zf c16
   subst c16
   rw [if_neg nft] at H
   by_cases c24 : x8_1 > 0; rotate_left
   ·rw [if_neg c24] at H
    have c24b0:=Ze c24
    clear c24
    have H':=Zz.k H
    clear H
    have p133 : 0 <= (x8_1 : Int):=od
    have q133 : x8_1 < (l0_7.length : Int):=od
    obtain ⟨ad133,e133,hx133_0,hx133_1,hx133_2⟩:=Qat HR0_7.out x8_1 p133 q133
    cases e133
    replace hx133_0:=cl HB hx133_0
    replace hx133_1:=cl HB hx133_1
    replace hx133_2:=cl HB hx133_2
    replace p133:=eq_true p133
    replace q133:=eq_true q133
    try go_wp2_with (first | ((with_reducible refine Qac (N:=4) rfl ?_); refine bx 4 #[.int .i64 0, .int .i64 0, .int .i64 0] 43 (h := ?_); intro gb134 hg w46 hbox hb; have BK134:=Zz.k (hbox); have GW134:=bz HB hg; have GE134:=bz HB hg; have NB132_134:=bn BK132 hg; have NB134_132:=bm BK132 hg; replace BK132:=bl BK132 hb; replace HB:=bs HB hb; clear hb hbox hg; have hnb47:=NB134_132.out; have hnc47:=NB132_134.out; obtain ⟨_,_,_,_,_,_⟩:=kc3 BK134))
    generalize hgz : (((w46.setCell ⟨gb134,0,none⟩ (.int .i64 ((Qaa l0_7 x8_1).f0))).setCell ⟨gb134,1,none⟩ (.int .i64 ((Qaa l0_7 x8_1).f1))).setCell ⟨gb134,2,none⟩ (.int .i64 ((Qaa l0_7 x8_1).f2))) = w49
    have n0_ : Zz (w49.heap[gb132]? = some (.cells #[.int .i64 a0_0, .int .i64 a0_1, .int .i64 a0_2, .int .i64 a0_3, .int .i64 a0_4, .int .i64 a0_5, .string a0_6, .slice (some ad133) l0_7.length c0_7, .int .i64 a0_8, .int .i64 a0_9, .int .i64 a0_10] 55 (0,0))):=by rw [<- hgz]; exact ⟨kk BK132⟩
    have n1_ : Zz (w49.heap[gb134]? = some (.cells #[.int .i64 ((Qaa l0_7 x8_1).f0), .int .i64 ((Qaa l0_7 x8_1).f1), .int .i64 ((Qaa l0_7 x8_1).f2)] 43 (0,0))):=by rw [<- hgz]; exact ⟨bp (bp (bp (kk BK134) 0) 1) 2⟩
    have n2_ : Zz (Below w.heap.size w w49):=by rw [<- hgz]; exact ⟨bw HB⟩
    (try clear BK132)
    (try clear BK134)
    (try clear HB)
    clear hgz
    have BK132:=n0_
    have BK134:=n1_
    have HB:=n2_
    clear n0_ n1_ n2_
    have n0_:=Zz.k (Qal BK132.out)
    have n1_:=Zz.k (Qal BK134.out)
    have n2_:=Zz.k (Qai HB.out)
    clear BK132
    clear BK134
    clear HB
    have BK132:=n0_
    have BK134:=n1_
    have HB:=n2_
    clear n0_ n1_ n2_
    refine stP (fun w' => B3 w' gb134 (.int .i64 ((Qaa l0_7 x8_1).f0)) (.int .i64 ((Qaa l0_7 x8_1).f1)) (.int .i64 ((Qaa l0_7 x8_1).f2)) (E11 w' gb132 (.int .i64 a0_0) (.int .i64 a0_1) (.int .i64 a0_2) (.int .i64 a0_3) (.int .i64 a0_4) (.int .i64 a0_5) (.string a0_6) (.slice (some ad133) l0_7.length c0_7) (.int .i64 a0_8) (.int .i64 a0_9) (.int .i64 a0_10))) 28 (b3 BK134 (e11 BK132)) (h:=fun hHeld => ?_); refine Qbe op_gone.tab4 op_gone.bits4 (fun HT_ HW_ => ?_)
    generalize w49.drew = w50 at BK132 BK134 HB hHeld ⊢
    refine pu HT_ 1 14 2 (h := ?_)
    refine tk HT_ HW_ hHeld 0 13 3 (h := ?_)
    refine pu HT_ 2 15 7 (h := ?_)
    refine pu HT_ 3 16 15 (h := ?_)
    refine tk HT_ HW_ hHeld 4 17 31 (h := ?_)
    refine on HT_ 5 (some 18) 63 (h:=fun K hK => ?_)
    refine gS Tryd.func97 #[.agg #[.int .i64 ((Qaa l0_7 x8_1).f0), .int .i64 ((Qaa l0_7 x8_1).f1), .int .i64 ((Qaa l0_7 x8_1).f2)]] (h := ?_)
    with_reducible refine (op_IsElem.calls ((Qaa l0_7 x8_1).f0) ((Qaa l0_7 x8_1).f1) ((Qaa l0_7 x8_1).f2) true _ A13.out).mono ?_
    rintro e w51 ⟨rfl,hb⟩
    refine ⟨_,rfl, ?_⟩
    have n0_:=bl BK132 hb
    have n1_:=bl BK134 hb
    have n2_:=bs HB hb
    clear BK132
    clear BK134
    clear HB
    have BK132:=n0_
    have BK134:=n1_
    have HB:=n2_
    clear n0_ n1_ n2_
    (try clear hb)
    (try clear hb2)
    (try clear hk)
    (try clear hi)
    refine hK.out _ _ (b3 BK134 (e11 BK132)) (fun hHeld => ?_)
    clear hK K
    refine nn 18 (h := ?_)
    refine pu HT_ 6 19 127 (h := ?_)
    refine pu HT_ 7 20 255 (h := ?_)
    refine pu HT_ 8 21 511 (h := ?_)
    refine tk HT_ HW_ hHeld 9 22 1023 (h := ?_)
    refine tk HT_ HW_ hHeld 10 23 2047 (h := ?_)
    refine on HT_ 11 (some 24) 4095 (h:=fun K hK => ?_)
    refine gS Tryd.func137 #[.agg #[.int .i64 a0_0, .int .i64 a0_1, .int .i64 a0_2, .int .i64 a0_3, .int .i64 a0_4, .int .i64 a0_5, .string a0_6, .slice (some ad133) l0_7.length c0_7, .int .i64 a0_8, .int .i64 a0_9, .int .i64 a0_10], .agg #[.int .i64 ((Qaa l0_7 x8_1).f0), .int .i64 ((Qaa l0_7 x8_1).f1), .int .i64 ((Qaa l0_7 x8_1).f2)]] (h := ?_)
    with_reducible refine (op_own.calls a0_0 a0_1 a0_2 a0_3 a0_4 a0_5 a0_6 _ _ l0_7 a0_8 a0_9 a0_10 ((Qaa l0_7 x8_1).f0) ((Qaa l0_7 x8_1).f1) ((Qaa l0_7 x8_1).f2) false _ ?side1 ?side2 A15.out).mono ?_
    (case side1 => exact cb HR0_7 HB)
    (case side2 => exact HC0_7.out)
    rintro e w52 ⟨rfl,hb⟩
    refine ⟨_,rfl, ?_⟩
    have n0_:=bl BK132 hb
    have n1_:=bl BK134 hb
    have n2_:=bs HB hb
    clear BK132
    clear BK134
    clear HB
    have BK132:=n0_
    have BK134:=n1_
    have HB:=n2_
    clear n0_ n1_ n2_
    (try clear hb)
    (try clear hb2)
    (try clear hk)
    (try clear hi)
    refine hK.out _ _ (b3 BK134 (e11 BK132)) (fun hHeld => ?_)
    clear hK K
    refine nn 24 (h := ?_)
    refine pu HT_ 12 25 8191 (h := ?_)
    refine pu HT_ 13 26 16383 (h := ?_)
    refine pu HT_ 14 27 32767 (h := ?_)
    refine pu HT_ 15 28 65535 (h := ?_)
    refine pu HT_ 16 29 131071 (h := ?_)
    refine off HT_ 17 30 262143 (h := ?_)
    refine off HT_ 18 31 524287 (h := ?_)
    refine off HT_ 19 32 1048575 (h := ?_)
    refine off HT_ 20 33 2097151 (h := ?_)
    refine off HT_ 21 34 4194303 (h := ?_)
    refine off HT_ 22 35 8388607 (h := ?_)
    refine off HT_ 23 36 16777215 (h := ?_)
    refine off HT_ 24 37 33554431 (h := ?_)
    refine off HT_ 25 38 67108863 (h := ?_)
    refine pu HT_ 26 39 134217727 (h := ?_)
    refine pu HT_ 27 40 268435455 (h := ?_)
    refine dn HT_ (h := ?_)
    try go_wp2
    go_roundg k1
    case measure => have:=HK1.out; omega
    case rel => exact ⟨(wrap64 (x8_1 + 1)),rf,H',⟨by have:=HK1.out; omega⟩,⟨kk BK132⟩,⟨bw HB⟩⟩
   rw [if_pos c24] at H
   have c24b0:=Zd c24
   clear c24
   obtain ⟨ji25,hji25⟩ : ∃ j_ : Int,(wrap64 (x8_1 - 1)) = j_:=⟨_,rfl⟩
   replace H : (if 0 <= (ji25) then (if (ji25) < (l0_7.length : Int) then ((op_Less.f k1 ((Qaa l0_7 (ji25)).f0) ((Qaa l0_7 (ji25)).f1) ((Qaa l0_7 (ji25)).f2) ((Qaa l0_7 x8_1).f0) ((Qaa l0_7 x8_1).f1) ((Qaa l0_7 x8_1).f2)).bind fun t138 => (if t138 = true then (op_gone.l0 k1 l0_7 (l0_7.length : Int) (wrap64 (x8_1 + 1)) a0_0 a0_1 a0_2 a0_3 a0_4 a0_5 a0_6 l0_7 a0_8 a0_9 a0_10) else (some false))) else (none)) else (none)) = some r:=by first | (rw [hji25] at H; exact H) | (simp only [hji25] at H ⊢; exact H)
   (try rw [hji25] at A13)
   (try rw [hji25] at A15)
   have hji25w : (IntKind.i64.wrap (x8_1 - 1)) = ji25:=(i64_w _).trans hji25
   by_cases c26 : 0 <= (ji25); rotate_left
   ·rw [if_neg c26] at H
    exact absurd H (by simp)
   rw [if_pos c26] at H
   have c26b0:=Zd c26
   clear c26
   by_cases c27 : (ji25) < (l0_7.length : Int); rotate_left
   ·rw [if_neg c27] at H
    exact absurd H (by simp)
   rw [if_pos c27] at H
   have c27b0:=Zd c27
   clear c27
   obtain ⟨t138,A28,H⟩:=bE H
   by_cases c29 : t138 = true
   ·subst c29
    rw [if_pos rfl] at H
    have H':=Zz.k H
    clear H
    have p133 : 0 <= (x8_1 : Int):=od
    have q133 : x8_1 < (l0_7.length : Int):=od
    obtain ⟨ad133,e133,hx133_0,hx133_1,hx133_2⟩:=Qat HR0_7.out x8_1 p133 q133
    cases e133
    replace hx133_0:=cl HB hx133_0
    replace hx133_1:=cl HB hx133_1
    replace hx133_2:=cl HB hx133_2
    replace p133:=eq_true p133
    replace q133:=eq_true q133
    try go_wp2_with (first | ((with_reducible refine Qac (N:=4) rfl ?_); refine bx 4 #[.int .i64 0, .int .i64 0, .int .i64 0] 43 (h := ?_); intro gb134 hg w30 hbox hb; have BK134:=Zz.k (hbox); have GW134:=bz HB hg; have GE134:=bz HB hg; have NB132_134:=bn BK132 hg; have NB134_132:=bm BK132 hg; replace BK132:=bl BK132 hb; replace HB:=bs HB hb; clear hb hbox hg; have hnb31:=NB134_132.out; have hnc31:=NB132_134.out; obtain ⟨_,_,_,_,_,_⟩:=kc3 BK134))
    generalize hgz : (((w30.setCell ⟨gb134,0,none⟩ (.int .i64 ((Qaa l0_7 x8_1).f0))).setCell ⟨gb134,1,none⟩ (.int .i64 ((Qaa l0_7 x8_1).f1))).setCell ⟨gb134,2,none⟩ (.int .i64 ((Qaa l0_7 x8_1).f2))) = w33
    have n0_ : Zz (w33.heap[gb132]? = some (.cells #[.int .i64 a0_0, .int .i64 a0_1, .int .i64 a0_2, .int .i64 a0_3, .int .i64 a0_4, .int .i64 a0_5, .string a0_6, .slice (some ad133) l0_7.length c0_7, .int .i64 a0_8, .int .i64 a0_9, .int .i64 a0_10] 55 (0,0))):=by rw [<- hgz]; exact ⟨kk BK132⟩
    have n1_ : Zz (w33.heap[gb134]? = some (.cells #[.int .i64 ((Qaa l0_7 x8_1).f0), .int .i64 ((Qaa l0_7 x8_1).f1), .int .i64 ((Qaa l0_7 x8_1).f2)] 43 (0,0))):=by rw [<- hgz]; exact ⟨bp (bp (bp (kk BK134) 0) 1) 2⟩
    have n2_ : Zz (Below w.heap.size w w33):=by rw [<- hgz]; exact ⟨bw HB⟩
    (try clear BK132)
    (try clear BK134)
    (try clear HB)
    clear hgz
    have BK132:=n0_
    have BK134:=n1_
    have HB:=n2_
    clear n0_ n1_ n2_
    have n0_:=Zz.k (Qal BK132.out)
    have n1_:=Zz.k (Qal BK134.out)
    have n2_:=Zz.k (Qai HB.out)
    clear BK132
    clear BK134
    clear HB
    have BK132:=n0_
    have BK134:=n1_
    have HB:=n2_
    clear n0_ n1_ n2_
    have p137 : 0 <= ((ji25) : Int):=od
    have q137 : (ji25) < (l0_7.length : Int):=od
    obtain ⟨ad137,e137,hx137_0,hx137_1,hx137_2⟩:=Qat HR0_7.out (ji25) p137 q137
    have hw137_2:=hx137_2
    have hw137_1:=hx137_1
    have hw137_0:=hx137_0
    obtain rfl : ad133 = ad137:=(by injection e137)
    replace hx137_0:=cl HB hx137_0
    replace hx137_1:=cl HB hx137_1
    replace hx137_2:=cl HB hx137_2
    replace p137:=eq_true p137
    replace q137:=eq_true q137
    refine stP (fun w' => B3 w' gb134 (.int .i64 ((Qaa l0_7 x8_1).f0)) (.int .i64 ((Qaa l0_7 x8_1).f1)) (.int .i64 ((Qaa l0_7 x8_1).f2)) (B11 w' gb132 (.int .i64 a0_0) (.int .i64 a0_1) (.int .i64 a0_2) (.int .i64 a0_3) (.int .i64 a0_4) (.int .i64 a0_5) (.string a0_6) (.slice (some ad133) l0_7.length c0_7) (.int .i64 a0_8) (.int .i64 a0_9) (.int .i64 a0_10) (w'.cell? (ad133.add (((ji25)).toNat * 3)) = some (.int .i64 ((Qaa l0_7 (ji25)).f0)) /\ w'.cell? ⟨(ad133.add (((ji25)).toNat * 3)).block,(ad133.add (((ji25)).toNat * 3)).off + 1,none⟩ = some (.int .i64 ((Qaa l0_7 (ji25)).f1)) /\ w'.cell? ⟨(ad133.add (((ji25)).toNat * 3)).block,(ad133.add (((ji25)).toNat * 3)).off + 2,none⟩ = some (.int .i64 ((Qaa l0_7 (ji25)).f2))))) 28 (b3 BK134 (b11 BK132 ⟨(cW HB hw137_0),(cW HB hw137_1),(cW HB hw137_2)⟩)) (h:=fun hHeld => ?_); refine Qbe op_gone.tab4 op_gone.bits4 (fun HT_ HW_ => ?_)
    generalize w33.drew = w34 at BK132 BK134 HB hx137_0 hx137_1 hx137_2 hHeld ⊢
    refine pu HT_ 1 14 2 (h := ?_)
    refine tk HT_ HW_ hHeld 0 13 3 (h := ?_)
    refine pu HT_ 2 15 7 (h := ?_)
    refine pu HT_ 3 16 15 (h := ?_)
    refine tk HT_ HW_ hHeld 4 17 31 (h := ?_)
    refine on HT_ 5 (some 18) 63 (h:=fun K hK => ?_)
    refine gS Tryd.func97 #[.agg #[.int .i64 ((Qaa l0_7 x8_1).f0), .int .i64 ((Qaa l0_7 x8_1).f1), .int .i64 ((Qaa l0_7 x8_1).f2)]] (h := ?_)
    with_reducible refine (op_IsElem.calls ((Qaa l0_7 x8_1).f0) ((Qaa l0_7 x8_1).f1) ((Qaa l0_7 x8_1).f2) true _ A13.out).mono ?_
    rintro e w35 ⟨rfl,hb⟩
    refine ⟨_,rfl, ?_⟩
    have n0_:=bl BK132 hb
    have n1_:=bl BK134 hb
    have n2_:=bs HB hb
    clear BK132
    clear BK134
    clear HB
    have BK132:=n0_
    have BK134:=n1_
    have HB:=n2_
    clear n0_ n1_ n2_
    (try clear hb)
    (try clear hb2)
    (try clear hk)
    (try clear hi)
    refine hK.out _ _ (b3 BK134 (b11 BK132 ⟨(cW HB hw137_0),(cW HB hw137_1),(cW HB hw137_2)⟩)) (fun hHeld => ?_)
    clear hK K
    refine nn 18 (h := ?_)
    refine pu HT_ 6 19 127 (h := ?_)
    refine pu HT_ 7 20 255 (h := ?_)
    refine pu HT_ 8 21 511 (h := ?_)
    refine tk HT_ HW_ hHeld 9 22 1023 (h := ?_)
    refine tk HT_ HW_ hHeld 10 23 2047 (h := ?_)
    refine on HT_ 11 (some 24) 4095 (h:=fun K hK => ?_)
    refine gS Tryd.func137 #[.agg #[.int .i64 a0_0, .int .i64 a0_1, .int .i64 a0_2, .int .i64 a0_3, .int .i64 a0_4, .int .i64 a0_5, .string a0_6, .slice (some ad133) l0_7.length c0_7, .int .i64 a0_8, .int .i64 a0_9, .int .i64 a0_10], .agg #[.int .i64 ((Qaa l0_7 x8_1).f0), .int .i64 ((Qaa l0_7 x8_1).f1), .int .i64 ((Qaa l0_7 x8_1).f2)]] (h := ?_)
    with_reducible refine (op_own.calls a0_0 a0_1 a0_2 a0_3 a0_4 a0_5 a0_6 _ _ l0_7 a0_8 a0_9 a0_10 ((Qaa l0_7 x8_1).f0) ((Qaa l0_7 x8_1).f1) ((Qaa l0_7 x8_1).f2) false _ ?side1 ?side2 A15.out).mono ?_
    (case side1 => exact cb HR0_7 HB)
    (case side2 => exact HC0_7.out)
    rintro e w36 ⟨rfl,hb⟩
    refine ⟨_,rfl, ?_⟩
    have n0_:=bl BK132 hb
    have n1_:=bl BK134 hb
    have n2_:=bs HB hb
    clear BK132
    clear BK134
    clear HB
    have BK132:=n0_
    have BK134:=n1_
    have HB:=n2_
    clear n0_ n1_ n2_
    (try clear hb)
    (try clear hb2)
    (try clear hk)
    (try clear hi)
    refine hK.out _ _ (b3 BK134 (b11 BK132 ⟨(cW HB hw137_0),(cW HB hw137_1),(cW HB hw137_2)⟩)) (fun hHeld => ?_)
    clear hK K
    refine nn 24 (h := ?_)
    refine pu HT_ 12 25 8191 (h := ?_)
    refine pu HT_ 13 26 16383 (h := ?_)
    refine pu HT_ 14 27 32767 (h := ?_)
    refine pu HT_ 15 28 65535 (h := ?_)
    refine pu HT_ 16 29 131071 (h := ?_)
    refine pu HT_ 17 30 262143 (h := ?_)
    refine pu HT_ 19 32 786431 (h := ?_)
    refine pu HT_ 20 33 1835007 (h := ?_)
    refine tk HT_ HW_ hHeld 18 31 2097151 (h := ?_)
    refine pu HT_ 21 34 4194303 (h := ?_)
    refine tk HT_ HW_ hHeld 22 35 8388607 (h := ?_)
    refine tk HT_ HW_ hHeld 23 36 16777215 (h := ?_)
    refine on HT_ 24 (some 37) 33554431 (h:=fun K hK => ?_)
    refine goes_ Tryd.func54 (by kernel_rfl) rfl #[.agg #[.int .i64 ((Qaa l0_7 (ji25)).f0), .int .i64 ((Qaa l0_7 (ji25)).f1), .int .i64 ((Qaa l0_7 (ji25)).f2)], .agg #[.int .i64 ((Qaa l0_7 x8_1).f0), .int .i64 ((Qaa l0_7 x8_1).f1), .int .i64 ((Qaa l0_7 x8_1).f2)]] (by rfl) rfl rfl (by (try simp only [List.map_toArray,List.map_cons,List.map_nil]); first | done | (simp only [hji25]; rfl) | rfl | (simp only [List.length_drop,List.length_take]; rfl)) ?_
    with_reducible refine (op_Less.calls k1 ((Qaa l0_7 (ji25)).f0) ((Qaa l0_7 (ji25)).f1) ((Qaa l0_7 (ji25)).f2) ((Qaa l0_7 x8_1).f0) ((Qaa l0_7 x8_1).f1) ((Qaa l0_7 x8_1).f2) true _ A28.out).mono ?_
    rintro e w37 ⟨rfl,hb⟩
    refine ⟨_,rfl, ?_⟩
    have n0_:=bl BK132 hb
    have n1_:=bl BK134 hb
    have n2_:=bs HB hb
    clear BK132
    clear BK134
    clear HB
    have BK132:=n0_
    have BK134:=n1_
    have HB:=n2_
    clear n0_ n1_ n2_
    (try clear hb)
    (try clear hb2)
    (try clear hk)
    (try clear hi)
    refine hK.out _ _ (b3 BK134 (b11 BK132 ⟨(cW HB hw137_0),(cW HB hw137_1),(cW HB hw137_2)⟩)) (fun hHeld => ?_)
    clear hK K
    refine nn 37 (h := ?_)
    refine pu HT_ 25 38 67108863 (h := ?_)
    refine pu HT_ 26 39 134217727 (h := ?_)
    refine pu HT_ 27 40 268435455 (h := ?_)
    refine dn HT_ (h := ?_)
    try go_wp2
    go_roundg k1
    case measure => have:=HK1.out; omega
    case rel => exact ⟨(wrap64 (x8_1 + 1)),rf,H',⟨by have:=HK1.out; omega⟩,⟨kk BK132⟩,⟨bw HB⟩⟩
   replace c29:=Zf c29
   subst c29
   rw [if_neg nft] at H
   obtain rfl:=Zo H
   have p133 : 0 <= (x8_1 : Int):=od
   have q133 : x8_1 < (l0_7.length : Int):=od
   obtain ⟨ad133,e133,hx133_0,hx133_1,hx133_2⟩:=Qat HR0_7.out x8_1 p133 q133
   cases e133
   replace hx133_0:=cl HB hx133_0
   replace hx133_1:=cl HB hx133_1
   replace hx133_2:=cl HB hx133_2
   replace p133:=eq_true p133
   replace q133:=eq_true q133
   try go_wp2_with (first | ((with_reducible refine Qac (N:=4) rfl ?_); refine bx 4 #[.int .i64 0, .int .i64 0, .int .i64 0] 43 (h := ?_); intro gb134 hg w38 hbox hb; have BK134:=Zz.k (hbox); have GW134:=bz HB hg; have GE134:=bz HB hg; have NB132_134:=bn BK132 hg; have NB134_132:=bm BK132 hg; replace BK132:=bl BK132 hb; replace HB:=bs HB hb; clear hb hbox hg; have hnb39:=NB134_132.out; have hnc39:=NB132_134.out; obtain ⟨_,_,_,_,_,_⟩:=kc3 BK134))
   generalize hgz : (((w38.setCell ⟨gb134,0,none⟩ (.int .i64 ((Qaa l0_7 x8_1).f0))).setCell ⟨gb134,1,none⟩ (.int .i64 ((Qaa l0_7 x8_1).f1))).setCell ⟨gb134,2,none⟩ (.int .i64 ((Qaa l0_7 x8_1).f2))) = w41
   have n0_ : Zz (w41.heap[gb132]? = some (.cells #[.int .i64 a0_0, .int .i64 a0_1, .int .i64 a0_2, .int .i64 a0_3, .int .i64 a0_4, .int .i64 a0_5, .string a0_6, .slice (some ad133) l0_7.length c0_7, .int .i64 a0_8, .int .i64 a0_9, .int .i64 a0_10] 55 (0,0))):=by rw [<- hgz]; exact ⟨kk BK132⟩
   have n1_ : Zz (w41.heap[gb134]? = some (.cells #[.int .i64 ((Qaa l0_7 x8_1).f0), .int .i64 ((Qaa l0_7 x8_1).f1), .int .i64 ((Qaa l0_7 x8_1).f2)] 43 (0,0))):=by rw [<- hgz]; exact ⟨bp (bp (bp (kk BK134) 0) 1) 2⟩
   have n2_ : Zz (Below w.heap.size w w41):=by rw [<- hgz]; exact ⟨bw HB⟩
   (try clear BK132)
   (try clear BK134)
   (try clear HB)
   clear hgz
   have BK132:=n0_
   have BK134:=n1_
   have HB:=n2_
   clear n0_ n1_ n2_
   have n0_:=Zz.k (Qal BK132.out)
   have n1_:=Zz.k (Qal BK134.out)
   have n2_:=Zz.k (Qai HB.out)
   clear BK132
   clear BK134
   clear HB
   have BK132:=n0_
   have BK134:=n1_
   have HB:=n2_
   clear n0_ n1_ n2_
   have p137 : 0 <= ((ji25) : Int):=od
   have q137 : (ji25) < (l0_7.length : Int):=od
   obtain ⟨ad137,e137,hx137_0,hx137_1,hx137_2⟩:=Qat HR0_7.out (ji25) p137 q137
   have hw137_2:=hx137_2
   have hw137_1:=hx137_1
   have hw137_0:=hx137_0
   obtain rfl : ad133 = ad137:=(by injection e137)
   replace hx137_0:=cl HB hx137_0
   replace hx137_1:=cl HB hx137_1
   replace hx137_2:=cl HB hx137_2
   replace p137:=eq_true p137
   replace q137:=eq_true q137
   refine stP (fun w' => B3 w' gb134 (.int .i64 ((Qaa l0_7 x8_1).f0)) (.int .i64 ((Qaa l0_7 x8_1).f1)) (.int .i64 ((Qaa l0_7 x8_1).f2)) (B11 w' gb132 (.int .i64 a0_0) (.int .i64 a0_1) (.int .i64 a0_2) (.int .i64 a0_3) (.int .i64 a0_4) (.int .i64 a0_5) (.string a0_6) (.slice (some ad133) l0_7.length c0_7) (.int .i64 a0_8) (.int .i64 a0_9) (.int .i64 a0_10) (w'.cell? (ad133.add (((ji25)).toNat * 3)) = some (.int .i64 ((Qaa l0_7 (ji25)).f0)) /\ w'.cell? ⟨(ad133.add (((ji25)).toNat * 3)).block,(ad133.add (((ji25)).toNat * 3)).off + 1,none⟩ = some (.int .i64 ((Qaa l0_7 (ji25)).f1)) /\ w'.cell? ⟨(ad133.add (((ji25)).toNat * 3)).block,(ad133.add (((ji25)).toNat * 3)).off + 2,none⟩ = some (.int .i64 ((Qaa l0_7 (ji25)).f2))))) 28 (b3 BK134 (b11 BK132 ⟨(cW HB hw137_0),(cW HB hw137_1),(cW HB hw137_2)⟩)) (h:=fun hHeld => ?_); refine Qbe op_gone.tab4 op_gone.bits4 (fun HT_ HW_ => ?_)
   generalize w41.drew = w42 at BK132 BK134 HB hx137_0 hx137_1 hx137_2 hHeld ⊢
   refine pu HT_ 1 14 2 (h := ?_)
   refine tk HT_ HW_ hHeld 0 13 3 (h := ?_)
   refine pu HT_ 2 15 7 (h := ?_)
   refine pu HT_ 3 16 15 (h := ?_)
   refine tk HT_ HW_ hHeld 4 17 31 (h := ?_)
   refine on HT_ 5 (some 18) 63 (h:=fun K hK => ?_)
   refine gS Tryd.func97 #[.agg #[.int .i64 ((Qaa l0_7 x8_1).f0), .int .i64 ((Qaa l0_7 x8_1).f1), .int .i64 ((Qaa l0_7 x8_1).f2)]] (h := ?_)
   with_reducible refine (op_IsElem.calls ((Qaa l0_7 x8_1).f0) ((Qaa l0_7 x8_1).f1) ((Qaa l0_7 x8_1).f2) true _ A13.out).mono ?_
   rintro e w43 ⟨rfl,hb⟩
   refine ⟨_,rfl, ?_⟩
   have n0_:=bl BK132 hb
   have n1_:=bl BK134 hb
   have n2_:=bs HB hb
   clear BK132
   clear BK134
   clear HB
   have BK132:=n0_
   have BK134:=n1_
   have HB:=n2_
   clear n0_ n1_ n2_
   (try clear hb)
   (try clear hb2)
   (try clear hk)
   (try clear hi)
   refine hK.out _ _ (b3 BK134 (b11 BK132 ⟨(cW HB hw137_0),(cW HB hw137_1),(cW HB hw137_2)⟩)) (fun hHeld => ?_)
   clear hK K
   refine nn 18 (h := ?_)
   refine pu HT_ 6 19 127 (h := ?_)
   refine pu HT_ 7 20 255 (h := ?_)
   refine pu HT_ 8 21 511 (h := ?_)
   refine tk HT_ HW_ hHeld 9 22 1023 (h := ?_)
   refine tk HT_ HW_ hHeld 10 23 2047 (h := ?_)
   refine on HT_ 11 (some 24) 4095 (h:=fun K hK => ?_)
   refine gS Tryd.func137 #[.agg #[.int .i64 a0_0, .int .i64 a0_1, .int .i64 a0_2, .int .i64 a0_3, .int .i64 a0_4, .int .i64 a0_5, .string a0_6, .slice (some ad133) l0_7.length c0_7, .int .i64 a0_8, .int .i64 a0_9, .int .i64 a0_10], .agg #[.int .i64 ((Qaa l0_7 x8_1).f0), .int .i64 ((Qaa l0_7 x8_1).f1), .int .i64 ((Qaa l0_7 x8_1).f2)]] (h := ?_)
   with_reducible refine (op_own.calls a0_0 a0_1 a0_2 a0_3 a0_4 a0_5 a0_6 _ _ l0_7 a0_8 a0_9 a0_10 ((Qaa l0_7 x8_1).f0) ((Qaa l0_7 x8_1).f1) ((Qaa l0_7 x8_1).f2) false _ ?side1 ?side2 A15.out).mono ?_
   (case side1 => exact cb HR0_7 HB)
   (case side2 => exact HC0_7.out)
   rintro e w44 ⟨rfl,hb⟩
   refine ⟨_,rfl, ?_⟩
   have n0_:=bl BK132 hb
   have n1_:=bl BK134 hb
   have n2_:=bs HB hb
   clear BK132
   clear BK134
   clear HB
   have BK132:=n0_
   have BK134:=n1_
   have HB:=n2_
   clear n0_ n1_ n2_
   (try clear hb)
   (try clear hb2)
   (try clear hk)
   (try clear hi)
   refine hK.out _ _ (b3 BK134 (b11 BK132 ⟨(cW HB hw137_0),(cW HB hw137_1),(cW HB hw137_2)⟩)) (fun hHeld => ?_)
   clear hK K
   refine nn 24 (h := ?_)
   refine pu HT_ 12 25 8191 (h := ?_)
   refine pu HT_ 13 26 16383 (h := ?_)
   refine pu HT_ 14 27 32767 (h := ?_)
   refine pu HT_ 15 28 65535 (h := ?_)
   refine pu HT_ 16 29 131071 (h := ?_)
   refine pu HT_ 17 30 262143 (h := ?_)
   refine pu HT_ 19 32 786431 (h := ?_)
   refine pu HT_ 20 33 1835007 (h := ?_)
   refine tk HT_ HW_ hHeld 18 31 2097151 (h := ?_)
   refine pu HT_ 21 34 4194303 (h := ?_)
   refine tk HT_ HW_ hHeld 22 35 8388607 (h := ?_)
   refine tk HT_ HW_ hHeld 23 36 16777215 (h := ?_)
   refine on HT_ 24 (some 37) 33554431 (h:=fun K hK => ?_)
   refine goes_ Tryd.func54 (by kernel_rfl) rfl #[.agg #[.int .i64 ((Qaa l0_7 (ji25)).f0), .int .i64 ((Qaa l0_7 (ji25)).f1), .int .i64 ((Qaa l0_7 (ji25)).f2)], .agg #[.int .i64 ((Qaa l0_7 x8_1).f0), .int .i64 ((Qaa l0_7 x8_1).f1), .int .i64 ((Qaa l0_7 x8_1).f2)]] (by rfl) rfl rfl (by (try simp only [List.map_toArray,List.map_cons,List.map_nil]); first | done | (simp only [hji25]; rfl) | rfl | (simp only [List.length_drop,List.length_take]; rfl)) ?_
   with_reducible refine (op_Less.calls k1 ((Qaa l0_7 (ji25)).f0) ((Qaa l0_7 (ji25)).f1) ((Qaa l0_7 (ji25)).f2) ((Qaa l0_7 x8_1).f0) ((Qaa l0_7 x8_1).f1) ((Qaa l0_7 x8_1).f2) false _ A28.out).mono ?_
   rintro e w45 ⟨rfl,hb⟩
   refine ⟨_,rfl, ?_⟩
   have n0_:=bl BK132 hb
   have n1_:=bl BK134 hb
   have n2_:=bs HB hb
   clear BK132
   clear BK134
   clear HB
   have BK132:=n0_
   have BK134:=n1_
   have HB:=n2_
   clear n0_ n1_ n2_
   (try clear hb)
   (try clear hb2)
   (try clear hk)
   (try clear hi)
   refine hK.out _ _ (b3 BK134 (b11 BK132 ⟨(cW HB hw137_0),(cW HB hw137_1),(cW HB hw137_2)⟩)) (fun hHeld => ?_)
   clear hK K
   refine nn 37 (h := ?_)
   refine pu HT_ 25 38 67108863 (h := ?_)
   refine pu HT_ 26 39 134217727 (h := ?_)
   refine pu HT_ 27 40 268435455 (h := ?_)
   refine dn HT_ (h := ?_)
   try go_wp2
   go_ret
   exact ⟨by first | rfl | (simp [errW_none,errW_some] <;> rfl) | (simp only [<- hji25]; first | rfl | (simp [errW_none,errW_some] <;> rfl)) | (simp [*,errW_none,errW_some] <;> rfl),bw HB⟩
end
section
attribute [local go_sem] Qbq Qbo Qcd Qcc Qba Qaz Qbp Qbn
attribute [local go_sem high] eqAElem
def op_edit.j0 : Nat -> Bool -> Int -> Int -> Int -> Int -> Int -> Int -> ByteArray -> List (SElem) -> Int -> Int -> Int -> Option (Bool)
 | 0,_,_,_,_,_,_,_,_,_,_,_,_ => none
 | k + 1,x34,x140000,x140001,x140002,x140003,x140004,x140005,x140006,x140007,x140008,x140009,x140010 => if x34 = true then (some false) else ((text_May.f x140006).bind fun t142 => (if t142 = true then ((op_Size.f x140000 x140001 x140002 x140003 x140004 x140005 x140006 x140007 x140008 x140009 x140010).bind fun t143 => (if t143 <= 12 then ((op_gone.f k x140000 x140001 x140002 x140003 x140004 x140005 x140006 x140007 x140008 x140009 x140010).bind fun t144 => (if t144 = true then (if x140008 = 0 then (if x140009 = 0 then (some (x140010 == 0)) else (some false)) else (some false)) else (some false))) else (some false))) else (some false)))
def op_edit.f (k : Nat) (a0_0 : Int) (a0_1 : Int) (a0_2 : Int) (a0_3 : Int) (a0_4 : Int) (a0_5 : Int) (a0_6 : ByteArray) (l0_7 : List (SElem)) (a0_8 : Int) (a0_9 : Int) (a0_10 : Int) : Option (Bool):=(op_IsElem.f a0_3 a0_4 a0_5).bind fun t140 => (if t140 = true then ((op_own.f a0_0 a0_1 a0_2 a0_3 a0_4 a0_5 a0_6 l0_7 a0_8 a0_9 a0_10 a0_3 a0_4 a0_5).bind fun t141 => (if t141 = true then (op_edit.j0 k true a0_0 a0_1 a0_2 a0_3 a0_4 a0_5 a0_6 l0_7 a0_8 a0_9 a0_10) else (if a0_6.toList = ([] : List UInt8) then (if (!(a0_3 == 0) || (!(a0_4 == 0) || (!(a0_5 == 0)))) = true then (op_edit.j0 k true a0_0 a0_1 a0_2 a0_3 a0_4 a0_5 a0_6 l0_7 a0_8 a0_9 a0_10) else (op_edit.j0 k ((l0_7.length : Int) == 0) a0_0 a0_1 a0_2 a0_3 a0_4 a0_5 a0_6 l0_7 a0_8 a0_9 a0_10)) else (op_edit.j0 k false a0_0 a0_1 a0_2 a0_3 a0_4 a0_5 a0_6 l0_7 a0_8 a0_9 a0_10)))) else (op_edit.j0 k true a0_0 a0_1 a0_2 a0_3 a0_4 a0_5 a0_6 l0_7 a0_8 a0_9 a0_10))
theorem op_edit.mono_l : ∀ k,(∀ y0 y1 y2 y3 y4 y5 y6 y7 y8 y9 y10 y11,LeO (op_edit.j0 k y0 y1 y2 y3 y4 y5 y6 y7 y8 y9 y10 y11) (op_edit.j0 (k + 1) y0 y1 y2 y3 y4 y5 y6 y7 y8 y9 y10 y11))
 | 0 => fun _ _ _ _ _ _ _ _ _ _ _ _ r h => by simp [op_edit.j0] at h
 | k + 1 => by
  have ih0:=op_edit.mono_l k
  ·intro y0 y1 y2 y3 y4 y5 y6 y7 y8 y9 y10 y11
   unfold op_edit.j0
   repeat' first
   | (with_reducible exact ih0 _ _ _ _ _ _ _ _ _ _ _ _)
   | (with_reducible exact op_gone.mono _ _ _ _ _ _ _ _ _ _ _ _)
   | (with_reducible exact LeO.refl _)
   | (with_reducible exact LeO.none _)
   | (with_reducible refine LeO.ite ?_ ?_)
   | (with_reducible refine LeO.bind ?_ (fun _ => ?_))
   | exact ih0 _ _ _ _ _ _ _ _ _ _ _ _
   | exact op_gone.mono _ _ _ _ _ _ _ _ _ _ _ _
   | exact LeO.none _
   | refine LeO.ite ?_ ?_
   | refine LeO.bind ?_ (fun _ => ?_)
theorem op_edit.mono : ∀ a0 a1 a2 a3 a4 a5 a6 a7 a8 a9 a10 k,LeO (op_edit.f k a0 a1 a2 a3 a4 a5 a6 a7 a8 a9 a10) (op_edit.f (k + 1) a0 a1 a2 a3 a4 a5 a6 a7 a8 a9 a10):=by
 intro a0 a1 a2 a3 a4 a5 a6 a7 a8 a9 a10 k
 have ih0:=op_edit.mono_l k
 unfold op_edit.f
 repeat' first
   | (with_reducible exact ih0 _ _ _ _ _ _ _ _ _ _ _ _)
   | (with_reducible exact op_gone.mono _ _ _ _ _ _ _ _ _ _ _ _)
   | (with_reducible exact LeO.refl _)
   | (with_reducible exact LeO.none _)
   | (with_reducible refine LeO.ite ?_ ?_)
   | (with_reducible refine LeO.bind ?_ (fun _ => ?_))
   | exact ih0 _ _ _ _ _ _ _ _ _ _ _ _
   | exact op_gone.mono _ _ _ _ _ _ _ _ _ _ _ _
   | exact LeO.none _
   | refine LeO.ite ?_ ?_
   | refine LeO.bind ?_ (fun _ => ?_)
theorem op_edit.calls (k : Nat) (a0_0 : Int) (a0_1 : Int) (a0_2 : Int) (a0_3 : Int) (a0_4 : Int) (a0_5 : Int) (a0_6 : ByteArray) (A0_7 : Option Addr) (c0_7 : Nat) (l0_7 : List (SElem)) (a0_8 : Int) (a0_9 : Int) (a0_10 : Int) (r : Bool) (w : World) (hr0_7 : Kd.C Qam w A0_7 l0_7.length l0_7) (hc0_7 : l0_7.length <= c0_7) (h : op_edit.f k a0_0 a0_1 a0_2 a0_3 a0_4 a0_5 a0_6 l0_7 a0_8 a0_9 a0_10 = some r) :
  Calls Tryd.prog 117 #[.agg #[.int .i64 a0_0, .int .i64 a0_1, .int .i64 a0_2, .int .i64 a0_3, .int .i64 a0_4, .int .i64 a0_5, .string a0_6, .slice A0_7 l0_7.length c0_7, .int .i64 a0_8, .int .i64 a0_9, .int .i64 a0_10]] w fun e w' => e = .returned (.bool r) /\ Below w.heap.size w w':=by
 have hu55:=Tryd.underlying55
 have hu43:=Tryd.underlying43
 have HR0_7:=Zz.k hr0_7
 have HC0_7:=Zz.k hc0_7
 clear hr0_7 hc0_7
 have HB:=Zz.k (Below.refl w.heap.size w)
 unfold op_edit.f at h; have H:=h
 clear h
 have HC2:=Zz.k H
 clear H
 go_enter Tryd.func117,Tryd.ntmps117
 go_upto_region 1 with (first | ((with_reducible refine Qac (N:=1) rfl ?_); (try (refine Qag (by rfl) ?_; dsimp only)); refine bx 1 #[.int .i64 a0_0, .int .i64 a0_1, .int .i64 a0_2, .int .i64 a0_3, .int .i64 a0_4, .int .i64 a0_5, .string a0_6, .slice A0_7 l0_7.length c0_7, .int .i64 a0_8, .int .i64 a0_9, .int .i64 a0_10] 55 (h := ?_); intro gb139 hg w3 hbox hb; have BK139:=Zz.k (hbox); have GW139:=bz HB hg; have GE139:=bz HB hg; replace HB:=bs HB hb; clear hb hbox hg))
 (try simp only [Act.put,List.setIfInBounds_toArray,List.set_cons_zero,List.set_cons_succ])
 go_cut [34] (fun v34 wc => ∃ (kq : Nat) (x34_1 : Bool),v34 = .bool x34_1 /\ Zz (op_edit.j0 kq x34_1 a0_0 a0_1 a0_2 a0_3 a0_4 a0_5 a0_6 l0_7 a0_8 a0_9 a0_10 = some r) /\ Zz (kq <= k) /\ Zz (wc.heap[gb139]? = some (.cells #[.int .i64 a0_0, .int .i64 a0_1, .int .i64 a0_2, .int .i64 a0_3, .int .i64 a0_4, .int .i64 a0_5, .string a0_6,(.slice A0_7 l0_7.length c0_7), .int .i64 a0_8, .int .i64 a0_9, .int .i64 a0_10] 55 (0,0))) /\ Zz (Below w.heap.size w wc))
 case first =>
  have H:=HC2.out
  clear HC2
  obtain ⟨t140,A4,H⟩:=bE H
  by_cases c5 : t140 = true; rotate_left
  ·replace c5:=Zf c5
   subst c5
   rw [if_neg nft] at H
   have H':=Zz.k H
   clear H
   obtain ⟨_,_,_,_,_,_,_,_,_,_,_,_,_,_,_,_,_,_,_,_,_,_⟩:=kc11 BK139
   go_wp2_with (first | ((with_reducible refine Qab (f:=97) rfl ?_); refine gl (some 5) Tryd.func97 #[.agg #[.int .i64 a0_3, .int .i64 a0_4, .int .i64 a0_5]] (h := ?_); (with_reducible refine (op_IsElem.calls a0_3 a0_4 a0_5 false _ A4.out).mono ?_); rintro e w30 ⟨rfl,hb⟩; refine ⟨_,rfl, ?_⟩; replace BK139:=bl BK139 hb; replace HB:=bs HB hb; clear hb))
   go_meet
   case rel => exact ⟨_,(true),rf,H',⟨by first | omega | exact Nat.le_refl _⟩,⟨kk BK139⟩,⟨bw HB⟩⟩
  subst c5
  rw [if_pos rfl] at H
  obtain ⟨t141,A6,H⟩:=bE H
  by_cases c7 : t141 = true
  ·subst c7
   rw [if_pos rfl] at H
   have H':=Zz.k H
   clear H
   obtain ⟨_,_,_,_,_,_,_,_,_,_,_,_,_,_,_,_,_,_,_,_,_,_⟩:=kc11 BK139
   go_wp2_with (first | ((with_reducible refine Qab (f:=97) rfl ?_); refine gl (some 5) Tryd.func97 #[.agg #[.int .i64 a0_3, .int .i64 a0_4, .int .i64 a0_5]] (h := ?_); (with_reducible refine (op_IsElem.calls a0_3 a0_4 a0_5 true _ A4.out).mono ?_); rintro e w9 ⟨rfl,hb⟩; refine ⟨_,rfl, ?_⟩; replace BK139:=bl BK139 hb; replace HB:=bs HB hb; clear hb; obtain ⟨_,_,_,_,_,_,_,_,_,_,_,_,_,_,_,_,_,_,_,_,_,_⟩:=kc11 BK139) | (go_at_call 137; (with_reducible refine (op_own.calls a0_0 a0_1 a0_2 a0_3 a0_4 a0_5 a0_6 _ _ l0_7 a0_8 a0_9 a0_10 a0_3 a0_4 a0_5 true _ ?side1 ?side2 A6.out).mono ?_); (case side1 => exact cb HR0_7 HB); (case side2 => exact HC0_7.out); rintro e w11 ⟨rfl,hb⟩; replace BK139:=bl BK139 hb; replace HB:=bs HB hb; clear hb))
   go_meet
   case rel => exact ⟨_,(true),rf,H',⟨by first | omega | exact Nat.le_refl _⟩,⟨kk BK139⟩,⟨bw HB⟩⟩
  replace c7:=Zf c7
  subst c7
  rw [if_neg nft] at H
  by_cases c12 : a0_6.toList = ([] : List UInt8); rotate_left
  ·rw [if_neg c12] at H
   obtain ⟨c12b0,c12b1⟩:=bF c12
   (first | rw [c12b0] | (simp only [i64_w,i32_w]; rw [c12b0]) | skip)
   have H':=Zz.k H
   clear H
   obtain ⟨_,_,_,_,_,_,_,_,_,_,_,_,_,_,_,_,_,_,_,_,_,_⟩:=kc11 BK139
   go_wp2_with (first | ((with_reducible refine Qab (f:=97) rfl ?_); refine gl (some 5) Tryd.func97 #[.agg #[.int .i64 a0_3, .int .i64 a0_4, .int .i64 a0_5]] (h := ?_); (with_reducible refine (op_IsElem.calls a0_3 a0_4 a0_5 true _ A4.out).mono ?_); rintro e w25 ⟨rfl,hb⟩; refine ⟨_,rfl, ?_⟩; replace BK139:=bl BK139 hb; replace HB:=bs HB hb; clear hb; obtain ⟨_,_,_,_,_,_,_,_,_,_,_,_,_,_,_,_,_,_,_,_,_,_⟩:=kc11 BK139) | (go_at_call 137; (with_reducible refine (op_own.calls a0_0 a0_1 a0_2 a0_3 a0_4 a0_5 a0_6 _ _ l0_7 a0_8 a0_9 a0_10 a0_3 a0_4 a0_5 false _ ?side1 ?side2 A6.out).mono ?_); (case side1 => exact cb HR0_7 HB); (case side2 => exact HC0_7.out); rintro e w27 ⟨rfl,hb⟩; replace BK139:=bl BK139 hb; replace HB:=bs HB hb; clear hb; obtain ⟨_,_,_,_,_,_,_,_,_,_,_,_,_,_,_,_,_,_,_,_,_,_⟩:=kc11 BK139))
   go_meet
   case rel => exact ⟨_,(false),rf,H',⟨by first | omega | exact Nat.le_refl _⟩,⟨kk BK139⟩,⟨bw HB⟩⟩
  rw [if_pos c12] at H
  obtain ⟨c12b0,c12b1⟩:=bT c12
  clear c12
  (first | rw [c12b0] | (simp only [i64_w,i32_w]; rw [c12b0]) | skip)
  by_cases c13 : (!(a0_3 == 0) || (!(a0_4 == 0) || (!(a0_5 == 0)))) = true
  ·rw [if_pos c13] at H
   have c13b0 : (!(a0_3 == 0) || (!(a0_4 == 0) || (!(a0_5 == 0)))) = true:=c13
   clear c13
   have H':=Zz.k H
   clear H
   obtain ⟨_,_,_,_,_,_,_,_,_,_,_,_,_,_,_,_,_,_,_,_,_,_⟩:=kc11 BK139
   go_wp2_with (first | ((with_reducible refine Qab (f:=97) rfl ?_); refine gl (some 5) Tryd.func97 #[.agg #[.int .i64 a0_3, .int .i64 a0_4, .int .i64 a0_5]] (h := ?_); (with_reducible refine (op_IsElem.calls a0_3 a0_4 a0_5 true _ A4.out).mono ?_); rintro e w15 ⟨rfl,hb⟩; refine ⟨_,rfl, ?_⟩; replace BK139:=bl BK139 hb; replace HB:=bs HB hb; clear hb; obtain ⟨_,_,_,_,_,_,_,_,_,_,_,_,_,_,_,_,_,_,_,_,_,_⟩:=kc11 BK139) | (go_at_call 137; (with_reducible refine (op_own.calls a0_0 a0_1 a0_2 a0_3 a0_4 a0_5 a0_6 _ _ l0_7 a0_8 a0_9 a0_10 a0_3 a0_4 a0_5 false _ ?side1 ?side2 A6.out).mono ?_); (case side1 => exact cb HR0_7 HB); (case side2 => exact HC0_7.out); rintro e w17 ⟨rfl,hb⟩; replace BK139:=bl BK139 hb; replace HB:=bs HB hb; clear hb; obtain ⟨_,_,_,_,_,_,_,_,_,_,_,_,_,_,_,_,_,_,_,_,_,_⟩:=kc11 BK139))
   go_meet
   case rel => exact ⟨_,(true),rf,H',⟨by first | omega | exact Nat.le_refl _⟩,⟨kk BK139⟩,⟨bw HB⟩⟩
  rw [if_neg c13] at H
  have c13b0 : (!(a0_3 == 0) || (!(a0_4 == 0) || (!(a0_5 == 0)))) = false:=by simpa using c13
  clear c13
  have H':=Zz.k H
  clear H
  obtain ⟨_,_,_,_,_,_,_,_,_,_,_,_,_,_,_,_,_,_,_,_,_,_⟩:=kc11 BK139
  go_wp2_with (first | ((with_reducible refine Qab (f:=97) rfl ?_); refine gl (some 5) Tryd.func97 #[.agg #[.int .i64 a0_3, .int .i64 a0_4, .int .i64 a0_5]] (h := ?_); (with_reducible refine (op_IsElem.calls a0_3 a0_4 a0_5 true _ A4.out).mono ?_); rintro e w20 ⟨rfl,hb⟩; refine ⟨_,rfl, ?_⟩; replace BK139:=bl BK139 hb; replace HB:=bs HB hb; clear hb; obtain ⟨_,_,_,_,_,_,_,_,_,_,_,_,_,_,_,_,_,_,_,_,_,_⟩:=kc11 BK139) | (go_at_call 137; (with_reducible refine (op_own.calls a0_0 a0_1 a0_2 a0_3 a0_4 a0_5 a0_6 _ _ l0_7 a0_8 a0_9 a0_10 a0_3 a0_4 a0_5 false _ ?side1 ?side2 A6.out).mono ?_); (case side1 => exact cb HR0_7 HB); (case side2 => exact HC0_7.out); rintro e w22 ⟨rfl,hb⟩; replace BK139:=bl BK139 hb; replace HB:=bs HB hb; clear hb; obtain ⟨_,_,_,_,_,_,_,_,_,_,_,_,_,_,_,_,_,_,_,_,_,_⟩:=kc11 BK139))
  go_meet
  case rel => exact ⟨_,(((l0_7.length : Int) == 0)),rf,H',⟨by first | omega | exact Nat.le_refl _⟩,⟨kk BK139⟩,⟨bw HB⟩⟩
 case rest =>
  clear HC2
  obtain ⟨kq,x34_1,rfl,HA,HJ1,BK139,HB⟩:=hcut
  cases kq with
  | zero => exact absurd HA.out (by simp [op_edit.j0])
  | succ kj1 =>
   have H:=HA.out
   clear HA
   simp only [op_edit.j0] at H
   by_cases c31 : x34_1 = true
   ·subst c31
    rw [if_pos rfl] at H
    obtain rfl:=Zo H
    go_wp2
    go_ret
    exact ⟨re,bw HB⟩
   replace c31:=Zf c31
   subst c31
   rw [if_neg nft] at H
   obtain ⟨t142,A32,H⟩:=bE H
   by_cases c33 : t142 = true; rotate_left
   ·replace c33:=Zf c33
    subst c33
    rw [if_neg nft] at H
    obtain rfl:=Zo H
    obtain ⟨_,_,_,_,_,_,_,_,_,_,_,_,_,_,_,_,_,_,_,_,_,_⟩:=kc11 BK139
    go_wp2_with (first | ((with_reducible refine Qab (f:=138) rfl ?_); refine gl (some 37) Tryd.func138 #[.string a0_6] (h := ?_); (with_reducible refine (text_May.calls a0_6 false _ A32.out).mono ?_); rintro e w72 ⟨rfl,hb⟩; refine ⟨_,rfl, ?_⟩; replace BK139:=bl BK139 hb; replace HB:=bs HB hb; clear hb))
    go_ret
    exact ⟨re,bw HB⟩
   subst c33
   rw [if_pos rfl] at H
   obtain ⟨t143,A34,H⟩:=bE H
   by_cases c35 : t143 <= 12; rotate_left
   ·rw [if_neg c35] at H
    have c35b0:=Ze c35
    clear c35
    obtain rfl:=Zo H
    obtain ⟨_,_,_,_,_,_,_,_,_,_,_,_,_,_,_,_,_,_,_,_,_,_⟩:=kc11 BK139
    go_wp2_with (first | ((with_reducible refine Qab (f:=138) rfl ?_); refine gl (some 37) Tryd.func138 #[.string a0_6] (h := ?_); (with_reducible refine (text_May.calls a0_6 true _ A32.out).mono ?_); rintro e w68 ⟨rfl,hb⟩; refine ⟨_,rfl, ?_⟩; replace BK139:=bl BK139 hb; replace HB:=bs HB hb; clear hb; obtain ⟨_,_,_,_,_,_,_,_,_,_,_,_,_,_,_,_,_,_,_,_,_,_⟩:=kc11 BK139) | (go_at_call 95; (with_reducible refine (op_Size.calls a0_0 a0_1 a0_2 a0_3 a0_4 a0_5 a0_6 _ _ l0_7 a0_8 a0_9 a0_10 t143 _ ?side1 ?side2 A34.out).mono ?_); (case side1 => exact cb HR0_7 HB); (case side2 => exact HC0_7.out); rintro e w70 ⟨rfl,hb⟩; replace BK139:=bl BK139 hb; replace HB:=bs HB hb; clear hb))
    go_ret
    exact ⟨re,bw HB⟩
   rw [if_pos c35] at H
   have c35b0:=Zd c35
   clear c35
   obtain ⟨t144,A36,H⟩:=bE H
   by_cases c37 : t144 = true; rotate_left
   ·replace c37:=Zf c37
    subst c37
    rw [if_neg nft] at H
    obtain rfl:=Zo H
    obtain ⟨_,_,_,_,_,_,_,_,_,_,_,_,_,_,_,_,_,_,_,_,_,_⟩:=kc11 BK139
    go_wp2_with (first | ((with_reducible refine Qab (f:=138) rfl ?_); refine gl (some 37) Tryd.func138 #[.string a0_6] (h := ?_); (with_reducible refine (text_May.calls a0_6 true _ A32.out).mono ?_); rintro e w62 ⟨rfl,hb⟩; refine ⟨_,rfl, ?_⟩; replace BK139:=bl BK139 hb; replace HB:=bs HB hb; clear hb; obtain ⟨_,_,_,_,_,_,_,_,_,_,_,_,_,_,_,_,_,_,_,_,_,_⟩:=kc11 BK139) | (go_at_call 95; (with_reducible refine (op_Size.calls a0_0 a0_1 a0_2 a0_3 a0_4 a0_5 a0_6 _ _ l0_7 a0_8 a0_9 a0_10 t143 _ ?side1 ?side2 A34.out).mono ?_); (case side1 => exact cb HR0_7 HB); (case side2 => exact HC0_7.out); rintro e w64 ⟨rfl,hb⟩; replace BK139:=bl BK139 hb; replace HB:=bs HB hb; clear hb; obtain ⟨_,_,_,_,_,_,_,_,_,_,_,_,_,_,_,_,_,_,_,_,_,_⟩:=kc11 BK139) | (go_at_call 139; (with_reducible refine (op_gone.calls kj1 a0_0 a0_1 a0_2 a0_3 a0_4 a0_5 a0_6 _ _ l0_7 a0_8 a0_9 a0_10 false _ ?side1 ?side2 A36.out).mono ?_); (case side1 => exact cb HR0_7 HB); (case side2 => exact HC0_7.out); rintro e w66 ⟨rfl,hb⟩; replace BK139:=bl BK139 hb; replace HB:=bs HB hb; clear hb))
    go_ret
    exact ⟨re,bw HB⟩
   subst c37
   rw [if_pos rfl] at H
   by_cases c38 : a0_8 = 0; rotate_left
   ·rw [if_neg c38] at H
    obtain ⟨c38b0,c38b1⟩:=bF c38
    obtain rfl:=Zo H
    obtain ⟨_,_,_,_,_,_,_,_,_,_,_,_,_,_,_,_,_,_,_,_,_,_⟩:=kc11 BK139
    go_wp2_with (first | ((with_reducible refine Qab (f:=138) rfl ?_); refine gl (some 37) Tryd.func138 #[.string a0_6] (h := ?_); (with_reducible refine (text_May.calls a0_6 true _ A32.out).mono ?_); rintro e w55 ⟨rfl,hb⟩; refine ⟨_,rfl, ?_⟩; replace BK139:=bl BK139 hb; replace HB:=bs HB hb; clear hb; obtain ⟨_,_,_,_,_,_,_,_,_,_,_,_,_,_,_,_,_,_,_,_,_,_⟩:=kc11 BK139) | (go_at_call 95; (with_reducible refine (op_Size.calls a0_0 a0_1 a0_2 a0_3 a0_4 a0_5 a0_6 _ _ l0_7 a0_8 a0_9 a0_10 t143 _ ?side1 ?side2 A34.out).mono ?_); (case side1 => exact cb HR0_7 HB); (case side2 => exact HC0_7.out); rintro e w57 ⟨rfl,hb⟩; replace BK139:=bl BK139 hb; replace HB:=bs HB hb; clear hb; obtain ⟨_,_,_,_,_,_,_,_,_,_,_,_,_,_,_,_,_,_,_,_,_,_⟩:=kc11 BK139) | (go_at_call 139; (with_reducible refine (op_gone.calls kj1 a0_0 a0_1 a0_2 a0_3 a0_4 a0_5 a0_6 _ _ l0_7 a0_8 a0_9 a0_10 true _ ?side1 ?side2 A36.out).mono ?_); (case side1 => exact cb HR0_7 HB); (case side2 => exact HC0_7.out); rintro e w59 ⟨rfl,hb⟩; replace BK139:=bl BK139 hb; replace HB:=bs HB hb; clear hb; obtain ⟨_,_,_,_,_,_,_,_,_,_,_,_,_,_,_,_,_,_,_,_,_,_⟩:=kc11 BK139))
    go_ret
    exact ⟨re,bw HB⟩
   rw [if_pos c38] at H
   obtain ⟨c38b0,c38b1⟩:=bT c38
   clear c38
   by_cases c39 : a0_9 = 0
   ·rw [if_pos c39] at H
    obtain ⟨c39b0,c39b1⟩:=bT c39
    clear c39
    obtain rfl:=Zo H
    obtain ⟨_,_,_,_,_,_,_,_,_,_,_,_,_,_,_,_,_,_,_,_,_,_⟩:=kc11 BK139
    go_wp2_with (first | ((with_reducible refine Qab (f:=138) rfl ?_); refine gl (some 37) Tryd.func138 #[.string a0_6] (h := ?_); (with_reducible refine (text_May.calls a0_6 true _ A32.out).mono ?_); rintro e w41 ⟨rfl,hb⟩; refine ⟨_,rfl, ?_⟩; replace BK139:=bl BK139 hb; replace HB:=bs HB hb; clear hb; obtain ⟨_,_,_,_,_,_,_,_,_,_,_,_,_,_,_,_,_,_,_,_,_,_⟩:=kc11 BK139) | (go_at_call 95; (with_reducible refine (op_Size.calls a0_0 a0_1 a0_2 a0_3 a0_4 a0_5 a0_6 _ _ l0_7 a0_8 a0_9 a0_10 t143 _ ?side1 ?side2 A34.out).mono ?_); (case side1 => exact cb HR0_7 HB); (case side2 => exact HC0_7.out); rintro e w43 ⟨rfl,hb⟩; replace BK139:=bl BK139 hb; replace HB:=bs HB hb; clear hb; obtain ⟨_,_,_,_,_,_,_,_,_,_,_,_,_,_,_,_,_,_,_,_,_,_⟩:=kc11 BK139) | (go_at_call 139; (with_reducible refine (op_gone.calls kj1 a0_0 a0_1 a0_2 a0_3 a0_4 a0_5 a0_6 _ _ l0_7 a0_8 a0_9 a0_10 true _ ?side1 ?side2 A36.out).mono ?_); (case side1 => exact cb HR0_7 HB); (case side2 => exact HC0_7.out); rintro e w45 ⟨rfl,hb⟩; replace BK139:=bl BK139 hb; replace HB:=bs HB hb; clear hb; obtain ⟨_,_,_,_,_,_,_,_,_,_,_,_,_,_,_,_,_,_,_,_,_,_⟩:=kc11 BK139))
    go_ret
    exact ⟨re,bw HB⟩
   rw [if_neg c39] at H
   obtain ⟨c39b0,c39b1⟩:=bF c39
   obtain rfl:=Zo H
   obtain ⟨_,_,_,_,_,_,_,_,_,_,_,_,_,_,_,_,_,_,_,_,_,_⟩:=kc11 BK139
   go_wp2_with (first | ((with_reducible refine Qab (f:=138) rfl ?_); refine gl (some 37) Tryd.func138 #[.string a0_6] (h := ?_); (with_reducible refine (text_May.calls a0_6 true _ A32.out).mono ?_); rintro e w48 ⟨rfl,hb⟩; refine ⟨_,rfl, ?_⟩; replace BK139:=bl BK139 hb; replace HB:=bs HB hb; clear hb; obtain ⟨_,_,_,_,_,_,_,_,_,_,_,_,_,_,_,_,_,_,_,_,_,_⟩:=kc11 BK139) | (go_at_call 95; (with_reducible refine (op_Size.calls a0_0 a0_1 a0_2 a0_3 a0_4 a0_5 a0_6 _ _ l0_7 a0_8 a0_9 a0_10 t143 _ ?side1 ?side2 A34.out).mono ?_); (case side1 => exact cb HR0_7 HB); (case side2 => exact HC0_7.out); rintro e w50 ⟨rfl,hb⟩; replace BK139:=bl BK139 hb; replace HB:=bs HB hb; clear hb; obtain ⟨_,_,_,_,_,_,_,_,_,_,_,_,_,_,_,_,_,_,_,_,_,_⟩:=kc11 BK139) | (go_at_call 139; (with_reducible refine (op_gone.calls kj1 a0_0 a0_1 a0_2 a0_3 a0_4 a0_5 a0_6 _ _ l0_7 a0_8 a0_9 a0_10 true _ ?side1 ?side2 A36.out).mono ?_); (case side1 => exact cb HR0_7 HB); (case side2 => exact HC0_7.out); rintro e w52 ⟨rfl,hb⟩; replace BK139:=bl BK139 hb; replace HB:=bs HB hb; clear hb; obtain ⟨_,_,_,_,_,_,_,_,_,_,_,_,_,_,_,_,_,_,_,_,_,_⟩:=kc11 BK139))
   go_ret
   exact ⟨re,bw HB⟩
end
section
attribute [local go_sem] Qbq Qbo Qcd Qcc Qba Qaz Qbp Qbn
attribute [local go_sem high] eqAElem
def op_toggle.f (a0_0 : Int) (a0_1 : Int) (a0_2 : Int) (a0_3 : Int) (a0_4 : Int) (a0_5 : Int) (a0_6 : ByteArray) (l0_7 : List (SElem)) (a0_8 : Int) (a0_9 : Int) (a0_10 : Int) : Option (Bool):=(op_Name.f a0_8 a0_9).bind fun t146 => (if t146 = true then (if a0_8 = a0_0 then (if a0_9 = a0_1 then (some false) else (if a0_10 < 0 then (some false) else (if a0_10 > 268435456 then (some false) else (if (a0_3 == 0 && (a0_4 == 0 && (a0_5 == 0))) = true then (if a0_6.toList = ([] : List UInt8) then (some ((l0_7.length : Int) == 0)) else (some false)) else (some false))))) else (if a0_10 < 0 then (some false) else (if a0_10 > 268435456 then (some false) else (if (a0_3 == 0 && (a0_4 == 0 && (a0_5 == 0))) = true then (if a0_6.toList = ([] : List UInt8) then (some ((l0_7.length : Int) == 0)) else (some false)) else (some false))))) else (some false))
theorem op_toggle.calls (a0_0 : Int) (a0_1 : Int) (a0_2 : Int) (a0_3 : Int) (a0_4 : Int) (a0_5 : Int) (a0_6 : ByteArray) (A0_7 : Option Addr) (c0_7 : Nat) (l0_7 : List (SElem)) (a0_8 : Int) (a0_9 : Int) (a0_10 : Int) (r : Bool) (w : World) (hr0_7 : Kd.C Qam w A0_7 l0_7.length l0_7) (hc0_7 : l0_7.length <= c0_7) (h : op_toggle.f a0_0 a0_1 a0_2 a0_3 a0_4 a0_5 a0_6 l0_7 a0_8 a0_9 a0_10 = some r) :
  Calls Tryd.prog 118 #[.agg #[.int .i64 a0_0, .int .i64 a0_1, .int .i64 a0_2, .int .i64 a0_3, .int .i64 a0_4, .int .i64 a0_5, .string a0_6, .slice A0_7 l0_7.length c0_7, .int .i64 a0_8, .int .i64 a0_9, .int .i64 a0_10]] w fun e w' => e = .returned (.bool r) /\ Below w.heap.size w w':=by
 have hu55:=Tryd.underlying55
 have hu43:=Tryd.underlying43
 have HR0_7:=Zz.k hr0_7
 have HC0_7:=Zz.k hc0_7
 clear hr0_7 hc0_7
 have HB:=Zz.k (Below.refl w.heap.size w)
 unfold op_toggle.f at h; have H:=h
 clear h
 obtain ⟨t146,A2,H⟩:=bE H
 by_cases c3 : t146 = true; rotate_left
 ·replace c3:=Zf c3
  subst c3
  rw [if_neg nft] at H
  obtain rfl:=Zo H
  go_enter Tryd.func118,Tryd.ntmps118
  go_wp2_with (first | ((with_reducible refine Qac (N:=1) rfl ?_); (try (refine Qag (by rfl) ?_; dsimp only)); refine bx 1 #[.int .i64 a0_0, .int .i64 a0_1, .int .i64 a0_2, .int .i64 a0_3, .int .i64 a0_4, .int .i64 a0_5, .string a0_6, .slice A0_7 l0_7.length c0_7, .int .i64 a0_8, .int .i64 a0_9, .int .i64 a0_10] 55 (h := ?_); intro gb145 hg w36 hbox hb; have BK145:=Zz.k (hbox); have GW145:=bz HB hg; have GE145:=bz HB hg; replace HB:=bs HB hb; clear hb hbox hg; obtain ⟨_,_,_,_,_,_,_,_,_,_,_,_,_,_,_,_,_,_,_,_,_,_⟩:=kc11 BK145) | ((with_reducible refine Qab (f:=116) rfl ?_); refine gl (some 7) Tryd.func116 #[.int .i64 a0_8, .int .i64 a0_9] (h := ?_); (with_reducible refine (op_Name.calls a0_8 a0_9 false _ A2.out).mono ?_); rintro e w' ⟨rfl,⟨nd,rfl⟩⟩; refine ⟨_,rfl, ?_⟩))
  go_ret
  exact ⟨re,bw HB⟩
 subst c3
 rw [if_pos rfl] at H
 by_cases c4 : a0_8 = a0_0; rotate_left
 ·rw [if_neg c4] at H
  obtain ⟨c4b0,c4b1⟩:=bF c4
  by_cases c22 : a0_10 < 0
  ·rw [if_pos c22] at H
   have c22b0:=Zd c22
   clear c22
   obtain rfl:=Zo H
   go_enter Tryd.func118,Tryd.ntmps118
   go_wp2_with (first | ((with_reducible refine Qac (N:=1) rfl ?_); (try (refine Qag (by rfl) ?_; dsimp only)); refine bx 1 #[.int .i64 a0_0, .int .i64 a0_1, .int .i64 a0_2, .int .i64 a0_3, .int .i64 a0_4, .int .i64 a0_5, .string a0_6, .slice A0_7 l0_7.length c0_7, .int .i64 a0_8, .int .i64 a0_9, .int .i64 a0_10] 55 (h := ?_); intro gb145 hg w23 hbox hb; have BK145:=Zz.k (hbox); have GW145:=bz HB hg; have GE145:=bz HB hg; replace HB:=bs HB hb; clear hb hbox hg; obtain ⟨_,_,_,_,_,_,_,_,_,_,_,_,_,_,_,_,_,_,_,_,_,_⟩:=kc11 BK145) | ((with_reducible refine Qab (f:=116) rfl ?_); refine gl (some 7) Tryd.func116 #[.int .i64 a0_8, .int .i64 a0_9] (h := ?_); (with_reducible refine (op_Name.calls a0_8 a0_9 true _ A2.out).mono ?_); rintro e w' ⟨rfl,⟨nd,rfl⟩⟩; refine ⟨_,rfl, ?_⟩))
   go_ret
   exact ⟨re,bw HB⟩
  rw [if_neg c22] at H
  have c22b0:=Ze c22
  clear c22
  by_cases c25 : a0_10 > 268435456
  ·rw [if_pos c25] at H
   have c25b0:=Zd c25
   clear c25
   obtain rfl:=Zo H
   go_enter Tryd.func118,Tryd.ntmps118
   go_wp2_with (first | ((with_reducible refine Qac (N:=1) rfl ?_); (try (refine Qag (by rfl) ?_; dsimp only)); refine bx 1 #[.int .i64 a0_0, .int .i64 a0_1, .int .i64 a0_2, .int .i64 a0_3, .int .i64 a0_4, .int .i64 a0_5, .string a0_6, .slice A0_7 l0_7.length c0_7, .int .i64 a0_8, .int .i64 a0_9, .int .i64 a0_10] 55 (h := ?_); intro gb145 hg w26 hbox hb; have BK145:=Zz.k (hbox); have GW145:=bz HB hg; have GE145:=bz HB hg; replace HB:=bs HB hb; clear hb hbox hg; obtain ⟨_,_,_,_,_,_,_,_,_,_,_,_,_,_,_,_,_,_,_,_,_,_⟩:=kc11 BK145) | ((with_reducible refine Qab (f:=116) rfl ?_); refine gl (some 7) Tryd.func116 #[.int .i64 a0_8, .int .i64 a0_9] (h := ?_); (with_reducible refine (op_Name.calls a0_8 a0_9 true _ A2.out).mono ?_); rintro e w' ⟨rfl,⟨nd,rfl⟩⟩; refine ⟨_,rfl, ?_⟩))
   go_ret
   exact ⟨re,bw HB⟩
  rw [if_neg c25] at H
  have c25b0:=Ze c25
  clear c25
  by_cases c28 : (a0_3 == 0 && (a0_4 == 0 && (a0_5 == 0))) = true; rotate_left
  ·rw [if_neg c28] at H
   have c28b0 : (a0_3 == 0 && (a0_4 == 0 && (a0_5 == 0))) = false:=by simpa using c28
   (try (have c28b1 : decide (a0_3 = 0 && (a0_4 == 0 && (a0_5 == 0))) = false:=by simpa using c28))
   (try (have c28b2 : (a0_3 == 0 && (a0_4 == 0 && (a0_5 == 0))) = false:=by simpa using c28))
   (try (have c28b3 : ¬ (a0_3 = 0 && (a0_4 == 0 && (a0_5 == 0))):=by simpa using c28))
   clear c28
   obtain rfl:=Zo H
   go_enter Tryd.func118,Tryd.ntmps118
   go_wp2_with (first | ((with_reducible refine Qac (N:=1) rfl ?_); (try (refine Qag (by rfl) ?_; dsimp only)); refine bx 1 #[.int .i64 a0_0, .int .i64 a0_1, .int .i64 a0_2, .int .i64 a0_3, .int .i64 a0_4, .int .i64 a0_5, .string a0_6, .slice A0_7 l0_7.length c0_7, .int .i64 a0_8, .int .i64 a0_9, .int .i64 a0_10] 55 (h := ?_); intro gb145 hg w34 hbox hb; have BK145:=Zz.k (hbox); have GW145:=bz HB hg; have GE145:=bz HB hg; replace HB:=bs HB hb; clear hb hbox hg; obtain ⟨_,_,_,_,_,_,_,_,_,_,_,_,_,_,_,_,_,_,_,_,_,_⟩:=kc11 BK145) | ((with_reducible refine Qab (f:=116) rfl ?_); refine gl (some 7) Tryd.func116 #[.int .i64 a0_8, .int .i64 a0_9] (h := ?_); (with_reducible refine (op_Name.calls a0_8 a0_9 true _ A2.out).mono ?_); rintro e w' ⟨rfl,⟨nd,rfl⟩⟩; refine ⟨_,rfl, ?_⟩))
   go_ret
   exact ⟨re,bw HB⟩
  rw [if_pos c28] at H
  have c28b0 : (a0_3 == 0 && (a0_4 == 0 && (a0_5 == 0))) = true:=c28
  (try (have c28b1 : decide (a0_3 = 0 && (a0_4 == 0 && (a0_5 == 0))) = true:=by simpa using c28))
  (try (have c28b2 : (a0_3 == 0 && (a0_4 == 0 && (a0_5 == 0))) = true:=by simpa using c28))
  clear c28
  by_cases c29 : a0_6.toList = ([] : List UInt8)
  ·rw [if_pos c29] at H
   obtain ⟨c29b0,c29b1⟩:=bT c29
   clear c29
   obtain rfl:=Zo H
   go_enter Tryd.func118,Tryd.ntmps118
   go_wp2_with (first | ((with_reducible refine Qac (N:=1) rfl ?_); (try (refine Qag (by rfl) ?_; dsimp only)); refine bx 1 #[.int .i64 a0_0, .int .i64 a0_1, .int .i64 a0_2, .int .i64 a0_3, .int .i64 a0_4, .int .i64 a0_5, .string a0_6, .slice A0_7 l0_7.length c0_7, .int .i64 a0_8, .int .i64 a0_9, .int .i64 a0_10] 55 (h := ?_); intro gb145 hg w30 hbox hb; have BK145:=Zz.k (hbox); have GW145:=bz HB hg; have GE145:=bz HB hg; replace HB:=bs HB hb; clear hb hbox hg; obtain ⟨_,_,_,_,_,_,_,_,_,_,_,_,_,_,_,_,_,_,_,_,_,_⟩:=kc11 BK145) | ((with_reducible refine Qab (f:=116) rfl ?_); refine gl (some 7) Tryd.func116 #[.int .i64 a0_8, .int .i64 a0_9] (h := ?_); (with_reducible refine (op_Name.calls a0_8 a0_9 true _ A2.out).mono ?_); rintro e w' ⟨rfl,⟨nd,rfl⟩⟩; refine ⟨_,rfl, ?_⟩))
   go_ret
   exact ⟨re,bw HB⟩
  rw [if_neg c29] at H
  obtain ⟨c29b0,c29b1⟩:=bF c29
  obtain rfl:=Zo H
  go_enter Tryd.func118,Tryd.ntmps118
  go_wp2_with (first | ((with_reducible refine Qac (N:=1) rfl ?_); (try (refine Qag (by rfl) ?_; dsimp only)); refine bx 1 #[.int .i64 a0_0, .int .i64 a0_1, .int .i64 a0_2, .int .i64 a0_3, .int .i64 a0_4, .int .i64 a0_5, .string a0_6, .slice A0_7 l0_7.length c0_7, .int .i64 a0_8, .int .i64 a0_9, .int .i64 a0_10] 55 (h := ?_); intro gb145 hg w32 hbox hb; have BK145:=Zz.k (hbox); have GW145:=bz HB hg; have GE145:=bz HB hg; replace HB:=bs HB hb; clear hb hbox hg; obtain ⟨_,_,_,_,_,_,_,_,_,_,_,_,_,_,_,_,_,_,_,_,_,_⟩:=kc11 BK145) | ((with_reducible refine Qab (f:=116) rfl ?_); refine gl (some 7) Tryd.func116 #[.int .i64 a0_8, .int .i64 a0_9] (h := ?_); (with_reducible refine (op_Name.calls a0_8 a0_9 true _ A2.out).mono ?_); rintro e w' ⟨rfl,⟨nd,rfl⟩⟩; refine ⟨_,rfl, ?_⟩))
  go_ret
  exact ⟨re,bw HB⟩
 rw [if_pos c4] at H
 obtain ⟨c4b0,c4b1⟩:=bT c4
 clear c4
 by_cases c5 : a0_9 = a0_1
 ·rw [if_pos c5] at H
  obtain ⟨c5b0,c5b1⟩:=bT c5
  clear c5
  obtain rfl:=Zo H
  go_enter Tryd.func118,Tryd.ntmps118
  go_wp2_with (first | ((with_reducible refine Qac (N:=1) rfl ?_); (try (refine Qag (by rfl) ?_; dsimp only)); refine bx 1 #[.int .i64 a0_0, .int .i64 a0_1, .int .i64 a0_2, .int .i64 a0_3, .int .i64 a0_4, .int .i64 a0_5, .string a0_6, .slice A0_7 l0_7.length c0_7, .int .i64 a0_8, .int .i64 a0_9, .int .i64 a0_10] 55 (h := ?_); intro gb145 hg w6 hbox hb; have BK145:=Zz.k (hbox); have GW145:=bz HB hg; have GE145:=bz HB hg; replace HB:=bs HB hb; clear hb hbox hg; obtain ⟨_,_,_,_,_,_,_,_,_,_,_,_,_,_,_,_,_,_,_,_,_,_⟩:=kc11 BK145) | ((with_reducible refine Qab (f:=116) rfl ?_); refine gl (some 7) Tryd.func116 #[.int .i64 a0_8, .int .i64 a0_9] (h := ?_); (with_reducible refine (op_Name.calls a0_8 a0_9 true _ A2.out).mono ?_); rintro e w' ⟨rfl,⟨nd,rfl⟩⟩; refine ⟨_,rfl, ?_⟩))
  go_ret
  exact ⟨re,bw HB⟩
 rw [if_neg c5] at H
 obtain ⟨c5b0,c5b1⟩:=bF c5
 by_cases c8 : a0_10 < 0
 ·rw [if_pos c8] at H
  have c8b0:=Zd c8
  clear c8
  obtain rfl:=Zo H
  go_enter Tryd.func118,Tryd.ntmps118
  go_wp2_with (first | ((with_reducible refine Qac (N:=1) rfl ?_); (try (refine Qag (by rfl) ?_; dsimp only)); refine bx 1 #[.int .i64 a0_0, .int .i64 a0_1, .int .i64 a0_2, .int .i64 a0_3, .int .i64 a0_4, .int .i64 a0_5, .string a0_6, .slice A0_7 l0_7.length c0_7, .int .i64 a0_8, .int .i64 a0_9, .int .i64 a0_10] 55 (h := ?_); intro gb145 hg w9 hbox hb; have BK145:=Zz.k (hbox); have GW145:=bz HB hg; have GE145:=bz HB hg; replace HB:=bs HB hb; clear hb hbox hg; obtain ⟨_,_,_,_,_,_,_,_,_,_,_,_,_,_,_,_,_,_,_,_,_,_⟩:=kc11 BK145) | ((with_reducible refine Qab (f:=116) rfl ?_); refine gl (some 7) Tryd.func116 #[.int .i64 a0_8, .int .i64 a0_9] (h := ?_); (with_reducible refine (op_Name.calls a0_8 a0_9 true _ A2.out).mono ?_); rintro e w' ⟨rfl,⟨nd,rfl⟩⟩; refine ⟨_,rfl, ?_⟩))
  go_ret
  exact ⟨re,bw HB⟩
 rw [if_neg c8] at H
 have c8b0:=Ze c8
 clear c8
 by_cases c11 : a0_10 > 268435456
 ·rw [if_pos c11] at H
  have c11b0:=Zd c11
  clear c11
  obtain rfl:=Zo H
  go_enter Tryd.func118,Tryd.ntmps118
  go_wp2_with (first | ((with_reducible refine Qac (N:=1) rfl ?_); (try (refine Qag (by rfl) ?_; dsimp only)); refine bx 1 #[.int .i64 a0_0, .int .i64 a0_1, .int .i64 a0_2, .int .i64 a0_3, .int .i64 a0_4, .int .i64 a0_5, .string a0_6, .slice A0_7 l0_7.length c0_7, .int .i64 a0_8, .int .i64 a0_9, .int .i64 a0_10] 55 (h := ?_); intro gb145 hg w12 hbox hb; have BK145:=Zz.k (hbox); have GW145:=bz HB hg; have GE145:=bz HB hg; replace HB:=bs HB hb; clear hb hbox hg; obtain ⟨_,_,_,_,_,_,_,_,_,_,_,_,_,_,_,_,_,_,_,_,_,_⟩:=kc11 BK145) | ((with_reducible refine Qab (f:=116) rfl ?_); refine gl (some 7) Tryd.func116 #[.int .i64 a0_8, .int .i64 a0_9] (h := ?_); (with_reducible refine (op_Name.calls a0_8 a0_9 true _ A2.out).mono ?_); rintro e w' ⟨rfl,⟨nd,rfl⟩⟩; refine ⟨_,rfl, ?_⟩))
  go_ret
  exact ⟨re,bw HB⟩
 rw [if_neg c11] at H
 have c11b0:=Ze c11
 clear c11
 by_cases c14 : (a0_3 == 0 && (a0_4 == 0 && (a0_5 == 0))) = true; rotate_left
 ·rw [if_neg c14] at H
  have c14b0 : (a0_3 == 0 && (a0_4 == 0 && (a0_5 == 0))) = false:=by simpa using c14
  (try (have c14b1 : decide (a0_3 = 0 && (a0_4 == 0 && (a0_5 == 0))) = false:=by simpa using c14))
  (try (have c14b2 : (a0_3 == 0 && (a0_4 == 0 && (a0_5 == 0))) = false:=by simpa using c14))
  (try (have c14b3 : ¬ (a0_3 = 0 && (a0_4 == 0 && (a0_5 == 0))):=by simpa using c14))
  clear c14
  obtain rfl:=Zo H
  go_enter Tryd.func118,Tryd.ntmps118
  go_wp2_with (first | ((with_reducible refine Qac (N:=1) rfl ?_); (try (refine Qag (by rfl) ?_; dsimp only)); refine bx 1 #[.int .i64 a0_0, .int .i64 a0_1, .int .i64 a0_2, .int .i64 a0_3, .int .i64 a0_4, .int .i64 a0_5, .string a0_6, .slice A0_7 l0_7.length c0_7, .int .i64 a0_8, .int .i64 a0_9, .int .i64 a0_10] 55 (h := ?_); intro gb145 hg w20 hbox hb; have BK145:=Zz.k (hbox); have GW145:=bz HB hg; have GE145:=bz HB hg; replace HB:=bs HB hb; clear hb hbox hg; obtain ⟨_,_,_,_,_,_,_,_,_,_,_,_,_,_,_,_,_,_,_,_,_,_⟩:=kc11 BK145) | ((with_reducible refine Qab (f:=116) rfl ?_); refine gl (some 7) Tryd.func116 #[.int .i64 a0_8, .int .i64 a0_9] (h := ?_); (with_reducible refine (op_Name.calls a0_8 a0_9 true _ A2.out).mono ?_); rintro e w' ⟨rfl,⟨nd,rfl⟩⟩; refine ⟨_,rfl, ?_⟩))
  go_ret
  exact ⟨re,bw HB⟩
 rw [if_pos c14] at H
 have c14b0 : (a0_3 == 0 && (a0_4 == 0 && (a0_5 == 0))) = true:=c14
 (try (have c14b1 : decide (a0_3 = 0 && (a0_4 == 0 && (a0_5 == 0))) = true:=by simpa using c14))
 (try (have c14b2 : (a0_3 == 0 && (a0_4 == 0 && (a0_5 == 0))) = true:=by simpa using c14))
 clear c14
 by_cases c15 : a0_6.toList = ([] : List UInt8)
 ·rw [if_pos c15] at H
  obtain ⟨c15b0,c15b1⟩:=bT c15
  clear c15
  obtain rfl:=Zo H
  go_enter Tryd.func118,Tryd.ntmps118
  go_wp2_with (first | ((with_reducible refine Qac (N:=1) rfl ?_); (try (refine Qag (by rfl) ?_; dsimp only)); refine bx 1 #[.int .i64 a0_0, .int .i64 a0_1, .int .i64 a0_2, .int .i64 a0_3, .int .i64 a0_4, .int .i64 a0_5, .string a0_6, .slice A0_7 l0_7.length c0_7, .int .i64 a0_8, .int .i64 a0_9, .int .i64 a0_10] 55 (h := ?_); intro gb145 hg w16 hbox hb; have BK145:=Zz.k (hbox); have GW145:=bz HB hg; have GE145:=bz HB hg; replace HB:=bs HB hb; clear hb hbox hg; obtain ⟨_,_,_,_,_,_,_,_,_,_,_,_,_,_,_,_,_,_,_,_,_,_⟩:=kc11 BK145) | ((with_reducible refine Qab (f:=116) rfl ?_); refine gl (some 7) Tryd.func116 #[.int .i64 a0_8, .int .i64 a0_9] (h := ?_); (with_reducible refine (op_Name.calls a0_8 a0_9 true _ A2.out).mono ?_); rintro e w' ⟨rfl,⟨nd,rfl⟩⟩; refine ⟨_,rfl, ?_⟩))
  go_ret
  exact ⟨re,bw HB⟩
 rw [if_neg c15] at H
 obtain ⟨c15b0,c15b1⟩:=bF c15
 obtain rfl:=Zo H
 go_enter Tryd.func118,Tryd.ntmps118
 go_wp2_with (first | ((with_reducible refine Qac (N:=1) rfl ?_); (try (refine Qag (by rfl) ?_; dsimp only)); refine bx 1 #[.int .i64 a0_0, .int .i64 a0_1, .int .i64 a0_2, .int .i64 a0_3, .int .i64 a0_4, .int .i64 a0_5, .string a0_6, .slice A0_7 l0_7.length c0_7, .int .i64 a0_8, .int .i64 a0_9, .int .i64 a0_10] 55 (h := ?_); intro gb145 hg w18 hbox hb; have BK145:=Zz.k (hbox); have GW145:=bz HB hg; have GE145:=bz HB hg; replace HB:=bs HB hb; clear hb hbox hg; obtain ⟨_,_,_,_,_,_,_,_,_,_,_,_,_,_,_,_,_,_,_,_,_,_⟩:=kc11 BK145) | ((with_reducible refine Qab (f:=116) rfl ?_); refine gl (some 7) Tryd.func116 #[.int .i64 a0_8, .int .i64 a0_9] (h := ?_); (with_reducible refine (op_Name.calls a0_8 a0_9 true _ A2.out).mono ?_); rintro e w' ⟨rfl,⟨nd,rfl⟩⟩; refine ⟨_,rfl, ?_⟩))
 go_ret
 exact ⟨re,bw HB⟩
def op_May.f (k : Nat) (a0_0 : Int) (a0_1 : Int) (a0_2 : Int) (a0_3 : Int) (a0_4 : Int) (a0_5 : Int) (a0_6 : ByteArray) (l0_7 : List (SElem)) (a0_8 : Int) (a0_9 : Int) (a0_10 : Int) : Option (Bool):=(op_Name.f a0_0 a0_1).bind fun t148 => (if t148 = true then (if a0_2 = 1 then ((op_edit.f k a0_0 a0_1 a0_2 a0_3 a0_4 a0_5 a0_6 l0_7 a0_8 a0_9 a0_10).bind fun t149 => (some t149)) else (if a0_2 = 2 then ((op_toggle.f a0_0 a0_1 a0_2 a0_3 a0_4 a0_5 a0_6 l0_7 a0_8 a0_9 a0_10).bind fun t150 => (some t150)) else (some false))) else (some false))
theorem op_May.mono : ∀ a0 a1 a2 a3 a4 a5 a6 a7 a8 a9 a10 k,LeO (op_May.f k a0 a1 a2 a3 a4 a5 a6 a7 a8 a9 a10) (op_May.f (k + 1) a0 a1 a2 a3 a4 a5 a6 a7 a8 a9 a10):=by
 intro a0 a1 a2 a3 a4 a5 a6 a7 a8 a9 a10 k
 unfold op_May.f
 repeat' first
   | (with_reducible exact op_edit.mono _ _ _ _ _ _ _ _ _ _ _ _)
   | (with_reducible exact LeO.refl _)
   | (with_reducible exact LeO.none _)
   | (with_reducible refine LeO.ite ?_ ?_)
   | (with_reducible refine LeO.bind ?_ (fun _ => ?_))
   | exact op_edit.mono _ _ _ _ _ _ _ _ _ _ _ _
   | exact LeO.none _
   | refine LeO.ite ?_ ?_
   | refine LeO.bind ?_ (fun _ => ?_)
theorem op_May.calls (k : Nat) (a0_0 : Int) (a0_1 : Int) (a0_2 : Int) (a0_3 : Int) (a0_4 : Int) (a0_5 : Int) (a0_6 : ByteArray) (A0_7 : Option Addr) (c0_7 : Nat) (l0_7 : List (SElem)) (a0_8 : Int) (a0_9 : Int) (a0_10 : Int) (r : Bool) (w : World) (hr0_7 : Kd.C Qam w A0_7 l0_7.length l0_7) (hc0_7 : l0_7.length <= c0_7) (h : op_May.f k a0_0 a0_1 a0_2 a0_3 a0_4 a0_5 a0_6 l0_7 a0_8 a0_9 a0_10 = some r) :
  Calls Tryd.prog 84 #[.agg #[.int .i64 a0_0, .int .i64 a0_1, .int .i64 a0_2, .int .i64 a0_3, .int .i64 a0_4, .int .i64 a0_5, .string a0_6, .slice A0_7 l0_7.length c0_7, .int .i64 a0_8, .int .i64 a0_9, .int .i64 a0_10]] w fun e w' => e = .returned (.bool r) /\ Below w.heap.size w w':=by
 have hu55:=Tryd.underlying55
 have HR0_7:=Zz.k hr0_7
 have HC0_7:=Zz.k hc0_7
 clear hr0_7 hc0_7
 have HB:=Zz.k (Below.refl w.heap.size w)
 unfold op_May.f at h; have H:=h
 clear h
 obtain ⟨t148,A2,H⟩:=bE H
 by_cases c3 : t148 = true; rotate_left
 ·replace c3:=Zf c3
  subst c3
  rw [if_neg nft] at H
  obtain rfl:=Zo H
  go_enter Tryd.func84,Tryd.ntmps84
  go_wp2_with (first | ((with_reducible refine Qac (N:=1) rfl ?_); refine bx 1 #[.int .i64 a0_0, .int .i64 a0_1, .int .i64 a0_2, .int .i64 a0_3, .int .i64 a0_4, .int .i64 a0_5, .string a0_6, .slice A0_7 l0_7.length c0_7, .int .i64 a0_8, .int .i64 a0_9, .int .i64 a0_10] 55 (h := ?_); intro gb147 hg w16 hbox hb; have BK147:=Zz.k (hbox); have GW147:=bz HB hg; have GE147:=bz HB hg; replace HB:=bs HB hb; clear hb hbox hg; obtain ⟨_,_,_,_,_,_,_,_,_,_,_,_,_,_,_,_,_,_,_,_,_,_⟩:=kc11 BK147) | ((with_reducible refine Qab (f:=116) rfl ?_); refine gl (some 8) Tryd.func116 #[.int .i64 a0_0, .int .i64 a0_1] (h := ?_); (with_reducible refine (op_Name.calls a0_0 a0_1 false _ A2.out).mono ?_); rintro e w' ⟨rfl,⟨nd,rfl⟩⟩; refine ⟨_,rfl, ?_⟩))
  go_ret
  exact ⟨re,bw HB⟩
 subst c3
 rw [if_pos rfl] at H
 by_cases c4 : a0_2 = 1
 ·rw [if_pos c4] at H
  obtain ⟨c4b0,c4b1⟩:=bT c4
  clear c4
  obtain ⟨t149,A5,H⟩:=bE H
  obtain rfl:=Zo H
  go_enter Tryd.func84,Tryd.ntmps84
  go_wp2_with (first | ((with_reducible refine Qac (N:=1) rfl ?_); refine bx 1 #[.int .i64 a0_0, .int .i64 a0_1, .int .i64 a0_2, .int .i64 a0_3, .int .i64 a0_4, .int .i64 a0_5, .string a0_6, .slice A0_7 l0_7.length c0_7, .int .i64 a0_8, .int .i64 a0_9, .int .i64 a0_10] 55 (h := ?_); intro gb147 hg w6 hbox hb; have BK147:=Zz.k (hbox); have GW147:=bz HB hg; have GE147:=bz HB hg; replace HB:=bs HB hb; clear hb hbox hg; obtain ⟨_,_,_,_,_,_,_,_,_,_,_,_,_,_,_,_,_,_,_,_,_,_⟩:=kc11 BK147) | ((with_reducible refine Qab (f:=116) rfl ?_); refine gl (some 8) Tryd.func116 #[.int .i64 a0_0, .int .i64 a0_1] (h := ?_); (with_reducible refine (op_Name.calls a0_0 a0_1 true _ A2.out).mono ?_); rintro e w' ⟨rfl,⟨nd,rfl⟩⟩; refine ⟨_,rfl, ?_⟩) | ((with_reducible refine Qab (f:=117) rfl ?_); refine gl (some 15) Tryd.func117 #[.agg #[.int .i64 a0_0, .int .i64 a0_1, .int .i64 a0_2, .int .i64 a0_3, .int .i64 a0_4, .int .i64 a0_5, .string a0_6, .slice A0_7 l0_7.length c0_7, .int .i64 a0_8, .int .i64 a0_9, .int .i64 a0_10]] (h := ?_); (with_reducible refine (op_edit.calls k a0_0 a0_1 a0_2 a0_3 a0_4 a0_5 a0_6 _ _ l0_7 a0_8 a0_9 a0_10 t149 _ ?side1 ?side2 A5.out).mono ?_); (case side1 => repeat (first | exact (Kd.C_below HR0_7.out (bw HB)) | (with_reducible refine Kd.C_alloc ?_ _) | (with_reducible refine Kd.C_drewN ?_ _) | (with_reducible refine Kd.C_drew ?_))); (case side2 => exact HC0_7.out); rintro e w8 ⟨rfl,hb⟩; refine ⟨_,rfl, ?_⟩; replace BK147:=bl BK147 hb; replace HB:=bs HB hb; clear hb))
  go_ret
  exact ⟨re,bw HB⟩
 rw [if_neg c4] at H
 obtain ⟨c4b0,c4b1⟩:=bF c4
 by_cases c9 : a0_2 = 2; rotate_left
 ·rw [if_neg c9] at H
  obtain ⟨c9b0,c9b1⟩:=bF c9
  obtain rfl:=Zo H
  go_enter Tryd.func84,Tryd.ntmps84
  go_wp2_with (first | ((with_reducible refine Qac (N:=1) rfl ?_); refine bx 1 #[.int .i64 a0_0, .int .i64 a0_1, .int .i64 a0_2, .int .i64 a0_3, .int .i64 a0_4, .int .i64 a0_5, .string a0_6, .slice A0_7 l0_7.length c0_7, .int .i64 a0_8, .int .i64 a0_9, .int .i64 a0_10] 55 (h := ?_); intro gb147 hg w14 hbox hb; have BK147:=Zz.k (hbox); have GW147:=bz HB hg; have GE147:=bz HB hg; replace HB:=bs HB hb; clear hb hbox hg; obtain ⟨_,_,_,_,_,_,_,_,_,_,_,_,_,_,_,_,_,_,_,_,_,_⟩:=kc11 BK147) | ((with_reducible refine Qab (f:=116) rfl ?_); refine gl (some 8) Tryd.func116 #[.int .i64 a0_0, .int .i64 a0_1] (h := ?_); (with_reducible refine (op_Name.calls a0_0 a0_1 true _ A2.out).mono ?_); rintro e w' ⟨rfl,⟨nd,rfl⟩⟩; refine ⟨_,rfl, ?_⟩))
  go_ret
  exact ⟨re,bw HB⟩
 rw [if_pos c9] at H
 obtain ⟨c9b0,c9b1⟩:=bT c9
 clear c9
 obtain ⟨t150,A10,H⟩:=bE H
 obtain rfl:=Zo H
 go_enter Tryd.func84,Tryd.ntmps84
 go_wp2_with (first | ((with_reducible refine Qac (N:=1) rfl ?_); refine bx 1 #[.int .i64 a0_0, .int .i64 a0_1, .int .i64 a0_2, .int .i64 a0_3, .int .i64 a0_4, .int .i64 a0_5, .string a0_6, .slice A0_7 l0_7.length c0_7, .int .i64 a0_8, .int .i64 a0_9, .int .i64 a0_10] 55 (h := ?_); intro gb147 hg w11 hbox hb; have BK147:=Zz.k (hbox); have GW147:=bz HB hg; have GE147:=bz HB hg; replace HB:=bs HB hb; clear hb hbox hg; obtain ⟨_,_,_,_,_,_,_,_,_,_,_,_,_,_,_,_,_,_,_,_,_,_⟩:=kc11 BK147) | ((with_reducible refine Qab (f:=116) rfl ?_); refine gl (some 8) Tryd.func116 #[.int .i64 a0_0, .int .i64 a0_1] (h := ?_); (with_reducible refine (op_Name.calls a0_0 a0_1 true _ A2.out).mono ?_); rintro e w' ⟨rfl,⟨nd,rfl⟩⟩; refine ⟨_,rfl, ?_⟩) | (go_at_call 118; (with_reducible refine (op_toggle.calls a0_0 a0_1 a0_2 a0_3 a0_4 a0_5 a0_6 _ _ l0_7 a0_8 a0_9 a0_10 t150 _ ?side1 ?side2 A10.out).mono ?_); (case side1 => repeat (first | exact (Kd.C_below HR0_7.out (bw HB)) | (with_reducible refine Kd.C_alloc ?_ _) | (with_reducible refine Kd.C_drewN ?_ _) | (with_reducible refine Kd.C_drew ?_))); (case side2 => exact HC0_7.out); rintro e w13 ⟨rfl,hb⟩; replace BK147:=bl BK147 hb; replace HB:=bs HB hb; clear hb))
 go_ret
 exact ⟨re,bw HB⟩
def r0_EqElems.l0 : Nat -> List (SElem) -> List (SElem) -> Int -> Option (Bool)
 | 0,_,_,_ => none
 | k + 1,x0,x1,x5 => if x5 < (x0.length : Int) then (if 0 <= x5 then (if x5 < (x1.length : Int) then (if (!(((Qaa x0 x5).f0) == ((Qaa x1 x5).f0)) || (!(((Qaa x0 x5).f1) == ((Qaa x1 x5).f1)) || (!(((Qaa x0 x5).f2) == ((Qaa x1 x5).f2))))) = true then (some false) else (r0_EqElems.l0 k x0 x1 (wrap64 (x5 + 1)))) else (none)) else (none)) else (some true)
def r0_EqElems.f (k : Nat) (l0 : List (SElem)) (l1 : List (SElem)) : Option (Bool):=if (l0.length : Int) = (l1.length : Int) then (r0_EqElems.l0 k l0 l1 0) else (some false)
theorem r0_EqElems.calls (k : Nat) (A0 : Option Addr) (c0 : Nat) (l0 : List (SElem)) (A1 : Option Addr) (c1 : Nat) (l1 : List (SElem)) (r : Bool) (w : World) (hr0 : Kd.C Qam w A0 l0.length l0) (hc0 : l0.length <= c0) (hr1 : Kd.C Qam w A1 l1.length l1) (hc1 : l1.length <= c1) (h : r0_EqElems.f k l0 l1 = some r) :
  Calls Tryd.prog 20 #[.slice A0 l0.length c0, .slice A1 l1.length c1] w fun e w' => e = .returned (.bool r) /\ Drawn0 w w':=by
 have hu43:=Tryd.underlying43
 have HR0:=Zz.k hr0
 have HC0:=Zz.k hc0
 clear hr0 hc0
 have HR1:=Zz.k hr1
 have HC1:=Zz.k hc1
 clear hr1 hc1
 unfold r0_EqElems.f at h; have H:=h
 clear h
 by_cases c3 : (l0.length : Int) = (l1.length : Int); rotate_left
 ·rw [if_neg c3] at H
  obtain ⟨c3b0,c3b1⟩:=bF c3
  have c3b2 : (l0.length == l1.length) = false:=by first | simpa using c3 | (simp at c3 ⊢; omega)
  obtain rfl:=Zo H
  go_enter Tryd.func20,Tryd.ntmps20
  go_wp2
  repeat (go_quiet (fail); try go_wp2)
  go_ret
  exact ⟨rf,by repeat (first | exact Drawn0.refl _ | apply Drawn0.step)⟩
 rw [if_pos c3] at H
 obtain ⟨c3b0,c3b1⟩:=bT c3
 have c3b2 : (l0.length == l1.length) = true:=by first | simpa using c3 | (simp at c3 ⊢; omega)
 clear c3
 have H':=Zz.k H
 clear H
 go_enter Tryd.func20,Tryd.ntmps20
 go_wp2
 repeat (go_quiet (fail); try go_wp2)
 go_loopg [5] k (fun kq v5 w' => ∃ (x5_1 : Int),v5 = .int .i64 x5_1 /\ Zz (r0_EqElems.l0 kq l0 l1 x5_1 = some r) /\ Zz (kq <= k) /\ Drawn0 w w')
 case atStart => exact ⟨(0),rf,H',⟨Nat.le_refl _⟩,by repeat (first | exact Drawn0.refl _ | apply Drawn0.step)⟩
 case round =>
  clear H'
  try clear c1; try clear c3b0; try clear c3b1; try clear c3b2
  obtain ⟨x5_1,rfl,HA,HK1,⟨m1,rfl⟩⟩:=hrel
  cases gk with
  | zero => exact absurd HA.out (by simp [r0_EqElems.l0])
  | succ k1 =>
   have H:=HA.out
   clear HA
   simp only [r0_EqElems.l0] at H
   by_cases c4 : x5_1 < (l0.length : Int); rotate_left
   ·rw [if_neg c4] at H
    have c4b0:=Ze c4
    clear c4
    obtain rfl:=Zo H
    go_wp2
    repeat (go_quiet (fail); try go_wp2)
    go_ret
    exact ⟨rf,by repeat (first | exact Drawn0.refl _ | apply Drawn0.step)⟩
   rw [if_pos c4] at H
   have c4b0:=Zd c4
   clear c4
   by_cases c5 : 0 <= x5_1; rotate_left
   ·rw [if_neg c5] at H
    exact absurd H (by simp)
   rw [if_pos c5] at H
   have c5b0:=Zd c5
   clear c5
   by_cases c6 : x5_1 < (l1.length : Int); rotate_left
   ·rw [if_neg c6] at H
    exact absurd H (by simp)
   rw [if_pos c6] at H
   have c6b0:=Zd c6
   clear c6
   by_cases c7 : (!(((Qaa l0 x5_1).f0) == ((Qaa l1 x5_1).f0)) || (!(((Qaa l0 x5_1).f1) == ((Qaa l1 x5_1).f1)) || (!(((Qaa l0 x5_1).f2) == ((Qaa l1 x5_1).f2))))) = true
   ·rw [if_pos c7] at H
    have c7b0 : (!(((Qaa l0 x5_1).f0) == ((Qaa l1 x5_1).f0)) || (!(((Qaa l0 x5_1).f1) == ((Qaa l1 x5_1).f1)) || (!(((Qaa l0 x5_1).f2) == ((Qaa l1 x5_1).f2))))) = true:=c7
    clear c7
    obtain rfl:=Zo H
    have p151 : 0 <= (x5_1 : Int):=od
    have q151 : x5_1 < (l0.length : Int):=od
    obtain ⟨ad151,e151,hx151_0,hx151_1,hx151_2⟩:=Qat HR0.out x5_1 p151 q151
    cases e151
    replace p151:=eq_true p151
    replace q151:=eq_true q151
    have p152 : 0 <= (x5_1 : Int):=od
    have q152 : x5_1 < (l1.length : Int):=od
    obtain ⟨ad152,e152,hx152_0,hx152_1,hx152_2⟩:=Qat HR1.out x5_1 p152 q152
    cases e152
    replace p152:=eq_true p152
    replace q152:=eq_true q152
    go_wp2
    repeat (go_quiet (fail); try go_wp2)
    go_ret
    exact ⟨rf,by repeat (first | exact Drawn0.refl _ | apply Drawn0.step)⟩
   rw [if_neg c7] at H
   have c7b0 : (!(((Qaa l0 x5_1).f0) == ((Qaa l1 x5_1).f0)) || (!(((Qaa l0 x5_1).f1) == ((Qaa l1 x5_1).f1)) || (!(((Qaa l0 x5_1).f2) == ((Qaa l1 x5_1).f2))))) = false:=by simpa using c7
   clear c7
   have H':=Zz.k H
   clear H
   have p151 : 0 <= (x5_1 : Int):=od
   have q151 : x5_1 < (l0.length : Int):=od
   obtain ⟨ad151,e151,hx151_0,hx151_1,hx151_2⟩:=Qat HR0.out x5_1 p151 q151
   cases e151
   replace p151:=eq_true p151
   replace q151:=eq_true q151
   have p152 : 0 <= (x5_1 : Int):=od
   have q152 : x5_1 < (l1.length : Int):=od
   obtain ⟨ad152,e152,hx152_0,hx152_1,hx152_2⟩:=Qat HR1.out x5_1 p152 q152
   cases e152
   replace p152:=eq_true p152
   replace q152:=eq_true q152
   go_wp2
   repeat (go_quiet (fail); try go_wp2)
   go_roundg k1
   case measure => have:=HK1.out; omega
   case rel => exact ⟨(wrap64 (x5_1 + 1)),rf,H',⟨by have:=HK1.out; omega⟩,by repeat (first | exact Drawn0.refl _ | apply Drawn0.step)⟩
def r0_CopyElems.l0 : Nat -> List (SElem) -> List (SElem) -> Int -> Option ((List (SElem)))
 | 0,_,_,_ => none
 | k + 1,x0,x3,x4 => if x4 < (x0.length : Int) then (if 0 <= x4 then (if x3.length < 5864062014805 then (r0_CopyElems.l0 k x0 (x3 ++ [(⟨(Qaa x0 x4).f0,(Qaa x0 x4).f1,(Qaa x0 x4).f2⟩ : SElem)]) (wrap64 (x4 + 1))) else (none)) else (none)) else (some x3)
def r0_CopyElems.f (k : Nat) (l0 : List (SElem)) : Option ((List (SElem))):=r0_CopyElems.l0 k l0 ([] : List (SElem)) 0
theorem r0_CopyElems.calls (k : Nat) (A0 : Option Addr) (c0 : Nat) (l0 : List (SElem)) (r : List (SElem)) (w : World) (hr0 : Kd.C Qam w A0 l0.length l0) (hc0 : l0.length <= c0) (h : r0_CopyElems.f k l0 = some r) :
  Calls Tryd.prog 83 #[.slice A0 l0.length c0] w fun e w' => ∃ v0_ : Value,e = .returned (v0_) /\ Kd.R Qam 43 w' w.heap.size (fun _ => True) v0_ r /\ Below w.heap.size w w':=by
 have hu43:=Tryd.underlying43
 have HR0:=Zz.k hr0
 have HC0:=Zz.k hc0
 clear hr0 hc0
 have HB:=Zz.k (Below.refl w.heap.size w)
 unfold r0_CopyElems.f at h; have H:=h
 clear h
 have H':=Zz.k H
 clear H
 go_enter Tryd.func83,Tryd.ntmps83
 go_wp2
 go_loopg [3,4] k (fun kq v3 v4 w' => ∃ (x3_1 : List (SElem)) (x4_1 : Int),v4 = .int .i64 x4_1 /\ Zz (r0_CopyElems.l0 kq l0 x3_1 x4_1 = some r) /\ Zz (kq <= k) /\ Zz (Kd.R Qam 43 w' w.heap.size (fun _ => True) v3 x3_1) /\ Zz (Below w.heap.size w w'))
 case atStart => exact ⟨(([] : List (SElem))),(0),rf,H',⟨Nat.le_refl _⟩,⟨by first | exact Kd.R_nil _ _ _ _ _ | exact Kd.N_nil _ _ _ _ _ | exact Kd.V_nil _ _ _ _ _ | exact Kd.Q_nil _ _ _ _ _ | exact Kd.S_nil _ _ _ _ _⟩,⟨bw HB⟩⟩
 case round =>
  clear H'
  obtain ⟨x3_1,x4_1,rfl,HA,HK1,HO_3,HB⟩:=hrel
  cases gk with
  | zero => exact absurd HA.out (by simp [r0_CopyElems.l0])
  | succ k1 =>
   have H:=HA.out
   clear HA
   simp only [r0_CopyElems.l0] at H
   by_cases c2 : x4_1 < (l0.length : Int); rotate_left
   ·rw [if_neg c2] at H
    have c2b0:=Ze c2
    clear c2
    obtain rfl:=Zo H
    go_wp2
    go_ret
    exact ⟨_,re,by (with_reducible repeat (first | apply Kd.R_alloc | apply Kd.R_drewN | apply Kd.R_drew)); exact HO_3.out,bw HB⟩
   rw [if_pos c2] at H
   have c2b0:=Zd c2
   clear c2
   by_cases c3 : 0 <= x4_1; rotate_left
   ·rw [if_neg c3] at H
    exact absurd H (by simp)
   rw [if_pos c3] at H
   have c3b0:=Zd c3
   clear c3
   by_cases c4 : x3_1.length < 5864062014805; rotate_left
   ·rw [if_neg c4] at H
    exact absurd H (by simp)
   rw [if_pos c4] at H
   have LMc4:=Zz.k c4
   clear c4
   obtain ⟨y154,hy154⟩ : ∃ y_ : List (SElem),y_ = (x3_1 ++ [(⟨(Qaa l0 x4_1).f0,(Qaa l0 x4_1).f1,(Qaa l0 x4_1).f2⟩ : SElem)]):=⟨_,rfl⟩
   first | rw [Option.bind_some,<- hy154] at H | rw [<- hy154] at H
   have Ny154:=Zz.k hy154
   clear hy154
   have H':=Zz.k H
   clear H
   have p153 : 0 <= (x4_1 : Int):=od
   have q153 : x4_1 < (l0.length : Int):=od
   obtain ⟨ad153,e153,hx153_0,hx153_1,hx153_2⟩:=Qat HR0.out x4_1 p153 q153
   cases e153
   replace hx153_0:=cl HB hx153_0
   replace hx153_1:=cl HB hx153_1
   replace hx153_2:=cl HB hx153_2
   replace p153:=eq_true p153
   replace q153:=eq_true q153
   go_wp2_with (first | ((with_reducible refine Qbr (b:=.append) (xs:=#[.tmp 11, .tmp 16]) rfl ?_); at_builtin; refine Kd.R_append Qam (w0:=w) w.heap.size rfl (.tmp 11) (.tmp 16) 23 43 (.agg #[(.int .i64 0),(.int .i64 0),(.int .i64 0)]) 24 rfl Tryd.underlying23 info43 rfl (by decide) (by omega) u3 x3_1 (⟨(Qaa l0 x4_1).f0,(Qaa l0 x4_1).f1,(Qaa l0 x4_1).f2⟩ : SElem) [.int .i64 ((Qaa l0 x4_1).f0), .int .i64 ((Qaa l0 x4_1).f1), .int .i64 ((Qaa l0 x4_1).f2)] (fun _ => True) (fun _ => False) rfl rfl ?aP (fun _ hk => hk.elim) ?aF ?aO ?aB ?aS ?aL ?_; (case aP => exact Qan _ _ _ (⟨(Qaa l0 x4_1).f0,(Qaa l0 x4_1).f1,(Qaa l0 x4_1).f2⟩ : SElem)); (case aB => exact (bw HB)); (case aF => exact (fun _ _ => trivial)); (case aO => exact (rk HO_3)); (case aS => exact (Qao (bw HB))); (case aL => have:=LMc4.out; omega); intro v155 w5 ho hb hg hat; rw [<- Ny154.out] at ho; have n0_:=Zz.k (hb); have n1_:=Zz.k (ho); clear HB; clear HO_3; have HB:=n0_; have HO156:=n1_; clear n0_ n1_; clear ho hb hg hat))
   go_roundg k1
   case measure => have:=HK1.out; omega
   case rel => exact ⟨(y154),(wrap64 (x4_1 + 1)),rf,H',⟨by have:=HK1.out; omega⟩,⟨rk HO156⟩,⟨bw HB⟩⟩
def r0_CopyOp.f (k : Nat) (a0_0 : Int) (a0_1 : Int) (a0_2 : Int) (a0_3 : Int) (a0_4 : Int) (a0_5 : Int) (a0_6 : ByteArray) (l0_7 : List (SElem)) (a0_8 : Int) (a0_9 : Int) (a0_10 : Int) : Option (Int × Int × Int × Int × Int × Int × ByteArray × (List (SElem)) × Int × Int × Int):=(r0_CopyElems.f k l0_7).bind fun t160 => (some (a0_0,a0_1,a0_2,a0_3,a0_4,a0_5,a0_6,t160,a0_8,a0_9,a0_10))
theorem r0_CopyOp.calls (k : Nat) (a0_0 : Int) (a0_1 : Int) (a0_2 : Int) (a0_3 : Int) (a0_4 : Int) (a0_5 : Int) (a0_6 : ByteArray) (A0_7 : Option Addr) (c0_7 : Nat) (l0_7 : List (SElem)) (a0_8 : Int) (a0_9 : Int) (a0_10 : Int) (r1 : Int) (r2 : Int) (r3 : Int) (r4 : Int) (r5 : Int) (r6 : Int) (r7 : ByteArray) (r8 : List (SElem)) (r9 : Int) (r10 : Int) (r11 : Int) (w : World) (hr0_7 : Kd.C Qam w A0_7 l0_7.length l0_7) (hc0_7 : l0_7.length <= c0_7) (h : r0_CopyOp.f k a0_0 a0_1 a0_2 a0_3 a0_4 a0_5 a0_6 l0_7 a0_8 a0_9 a0_10 = some (r1,r2,r3,r4,r5,r6,r7,r8,r9,r10,r11)) :
  Calls Tryd.prog 39 #[.agg #[.int .i64 a0_0, .int .i64 a0_1, .int .i64 a0_2, .int .i64 a0_3, .int .i64 a0_4, .int .i64 a0_5, .string a0_6, .slice A0_7 l0_7.length c0_7, .int .i64 a0_8, .int .i64 a0_9, .int .i64 a0_10]] w fun e w' => ∃ v7_ : Value,e = .returned (.agg #[.int .i64 r1, .int .i64 r2, .int .i64 r3, .int .i64 r4, .int .i64 r5, .int .i64 r6, .string r7,v7_, .int .i64 r9, .int .i64 r10, .int .i64 r11]) /\ Kd.R Qam 43 w' w.heap.size (fun _ => True) v7_ r8 /\ Below w.heap.size w w':=by
 have hu55:=Tryd.underlying55
 have HR0_7:=Zz.k hr0_7
 have HC0_7:=Zz.k hc0_7
 clear hr0_7 hc0_7
 have HB:=Zz.k (Below.refl w.heap.size w)
 unfold r0_CopyOp.f at h; have H:=h
 clear h
 obtain ⟨t160,A2,H⟩:=bE H
 simp only [Option.some.injEq,Prod.mk.injEq] at H
 obtain ⟨rfl,rfl,rfl,rfl,rfl,rfl,rfl,rfl,rfl,rfl,rfl⟩:=H
 go_enter Tryd.func39,Tryd.ntmps39
 go_wp2_with (first | ((with_reducible refine Qac (N:=1) rfl ?_); refine bx 1 #[.int .i64 a0_0, .int .i64 a0_1, .int .i64 a0_2, .int .i64 a0_3, .int .i64 a0_4, .int .i64 a0_5, .string a0_6, .slice A0_7 l0_7.length c0_7, .int .i64 a0_8, .int .i64 a0_9, .int .i64 a0_10] 55 (h := ?_); intro gb157 hg w3 hbox hb; have BK157:=Zz.k (hbox); have GW157:=bz HB hg; have GE157:=bz HB hg; replace HB:=bs HB hb; clear hb hbox hg) | ((with_reducible refine Qac (N:=2) rfl ?_); refine bx 2 #[.int .i64 0, .int .i64 0, .int .i64 0, .int .i64 0, .int .i64 0, .int .i64 0, .string (⟨#[]⟩ : ByteArray), .slice none 0 0, .int .i64 0, .int .i64 0, .int .i64 0] 55 (h := ?_); intro gb158 hg w4 hbox hb; have BK158:=Zz.k (hbox); have GW158:=bz HB hg; have GE158:=bz HB hg; have NB157_158:=bn BK157 hg; have NB158_157:=bm BK157 hg; replace BK157:=bl BK157 hb; replace HB:=bs HB hb; clear hb hbox hg; have hnb5:=NB157_158.out; have hnc5:=NB158_157.out; obtain ⟨_,_,_,_,_,_,_,_,_,_,_,_,_,_,_,_,_,_,_,_,_,_⟩:=kc11 BK157) | ((with_reducible refine Qac (N:=3) rfl ?_); refine bx 3 #[.int .i64 0, .int .i64 0, .int .i64 0, .int .i64 0, .int .i64 0, .int .i64 0, .string (⟨#[]⟩ : ByteArray), .slice none 0 0, .int .i64 0, .int .i64 0, .int .i64 0] 55 (h := ?_); intro gb159 hg w7 hbox hb; have BK159:=Zz.k (hbox); have GW159:=bz HB hg; have GE159:=bz HB hg; have NB157_159:=bn BK157 hg; have NB159_157:=bm BK157 hg; have NB158_159:=bn BK158 hg; have NB159_158:=bm BK158 hg; replace BK157:=bl BK157 hb; replace BK158:=bl BK158 hb; replace HB:=bs HB hb; clear hb hbox hg; have hnb8:=NB159_157.out; have hnc8:=NB157_159.out; have hnb9:=NB159_158.out; have hnc9:=NB158_159.out; obtain ⟨_,_,_,_,_,_,_,_,_,_,_,_,_,_,_,_,_,_,_,_,_,_⟩:=kc11 BK159; obtain ⟨_,_,_,_,_,_,_,_,_,_,_,_,_,_,_,_,_,_,_,_,_,_⟩:=kc11 BK157) | ((with_reducible refine Qab (f:=83) rfl ?_); refine gl (some 7) Tryd.func83 #[.slice A0_7 l0_7.length c0_7] (h := ?_); (with_reducible refine (r0_CopyElems.calls k _ _ l0_7 t160 _ ?side1 ?side2 A2.out).mono ?_); (case side1 => exact Kd.C_below HR0_7.out (bw HB)); (case side2 => exact HC0_7.out); rintro e w12 ⟨v161,rfl,ho0,hb⟩; refine ⟨_,rfl, ?_⟩; have HO162:=Zz.k (Kd.R_lower ho0 (Qao (bw HB))); replace BK157:=bl BK157 hb; replace BK158:=bl BK158 hb; replace BK159:=Zz.k (Qbh (bp11 (kk BK159)) hb); replace HB:=bs HB hb; clear hb; clear ho0; obtain ⟨Ao13,co13,eo13⟩:=Kd.R_slice HO162.out; subst eo13; obtain ⟨_,_,_,_,_,_,_,_,_,_,_,_,_,_,_,_,_,_,_,_,_,_⟩:=kc11 BK159; obtain ⟨_,_,_,_,_,_,_,_,_,_,_,_,_,_,_,_,_,_,_,_,_,_⟩:=kc11 BK158))
 refine bodyPost_ret (results_cell_row rfl _ _ gb158 55 #[.int .i64 a0_0, .int .i64 a0_1, .int .i64 a0_2, .int .i64 a0_3, .int .i64 a0_4, .int .i64 a0_5, .string a0_6, .slice Ao13 t160.length co13, .int .i64 a0_8, .int .i64 a0_9, .int .i64 a0_10] (0,0) _ rfl (by (with_reducible repeat (first | refine Qas ?_ _ | refine Qal ?_ | refine blk_alloc ?_ _)); refine Qay (cs:=#[.int .i64 a0_0, .int .i64 a0_1, .int .i64 a0_2, .int .i64 a0_3, .int .i64 a0_4, .int .i64 a0_5, .string a0_6, .slice Ao13 t160.length co13, .int .i64 a0_8, .int .i64 a0_9, .int .i64 0]) ?_ 10 _ rfl; (with_reducible repeat (first | refine Qas ?_ _ | refine Qal ?_ | refine blk_alloc ?_ _)); refine Qay (cs:=#[.int .i64 a0_0, .int .i64 a0_1, .int .i64 a0_2, .int .i64 a0_3, .int .i64 a0_4, .int .i64 a0_5, .string a0_6, .slice Ao13 t160.length co13, .int .i64 a0_8, .int .i64 0, .int .i64 0]) ?_ 9 _ rfl; (with_reducible repeat (first | refine Qas ?_ _ | refine Qal ?_ | refine blk_alloc ?_ _)); refine Qay (cs:=#[.int .i64 a0_0, .int .i64 a0_1, .int .i64 a0_2, .int .i64 a0_3, .int .i64 a0_4, .int .i64 a0_5, .string a0_6, .slice Ao13 t160.length co13, .int .i64 0, .int .i64 0, .int .i64 0]) ?_ 8 _ rfl; (with_reducible repeat (first | refine Qas ?_ _ | refine Qal ?_ | refine blk_alloc ?_ _)); refine Qay (cs:=#[.int .i64 a0_0, .int .i64 a0_1, .int .i64 a0_2, .int .i64 a0_3, .int .i64 a0_4, .int .i64 a0_5, .string a0_6, .slice none 0 0, .int .i64 0, .int .i64 0, .int .i64 0]) ?_ 7 _ rfl; (with_reducible repeat (first | refine Qas ?_ _ | refine Qal ?_ | refine blk_alloc ?_ _)); refine Qay (cs:=#[.int .i64 a0_0, .int .i64 a0_1, .int .i64 a0_2, .int .i64 a0_3, .int .i64 a0_4, .int .i64 a0_5, .string (⟨#[]⟩ : ByteArray), .slice none 0 0, .int .i64 0, .int .i64 0, .int .i64 0]) ?_ 6 _ rfl; (with_reducible repeat (first | refine Qas ?_ _ | refine Qal ?_ | refine blk_alloc ?_ _)); refine Qay (cs:=#[.int .i64 a0_0, .int .i64 a0_1, .int .i64 a0_2, .int .i64 a0_3, .int .i64 a0_4, .int .i64 0, .string (⟨#[]⟩ : ByteArray), .slice none 0 0, .int .i64 0, .int .i64 0, .int .i64 0]) ?_ 5 _ rfl; (with_reducible repeat (first | refine Qas ?_ _ | refine Qal ?_ | refine blk_alloc ?_ _)); refine Qay (cs:=#[.int .i64 a0_0, .int .i64 a0_1, .int .i64 a0_2, .int .i64 a0_3, .int .i64 0, .int .i64 0, .string (⟨#[]⟩ : ByteArray), .slice none 0 0, .int .i64 0, .int .i64 0, .int .i64 0]) ?_ 4 _ rfl; (with_reducible repeat (first | refine Qas ?_ _ | refine Qal ?_ | refine blk_alloc ?_ _)); refine Qay (cs:=#[.int .i64 a0_0, .int .i64 a0_1, .int .i64 a0_2, .int .i64 0, .int .i64 0, .int .i64 0, .string (⟨#[]⟩ : ByteArray), .slice none 0 0, .int .i64 0, .int .i64 0, .int .i64 0]) ?_ 3 _ rfl; (with_reducible repeat (first | refine Qas ?_ _ | refine Qal ?_ | refine blk_alloc ?_ _)); refine Qay (cs:=#[.int .i64 a0_0, .int .i64 a0_1, .int .i64 0, .int .i64 0, .int .i64 0, .int .i64 0, .string (⟨#[]⟩ : ByteArray), .slice none 0 0, .int .i64 0, .int .i64 0, .int .i64 0]) ?_ 2 _ rfl; (with_reducible repeat (first | refine Qas ?_ _ | refine Qal ?_ | refine blk_alloc ?_ _)); refine Qay (cs:=#[.int .i64 a0_0, .int .i64 0, .int .i64 0, .int .i64 0, .int .i64 0, .int .i64 0, .string (⟨#[]⟩ : ByteArray), .slice none 0 0, .int .i64 0, .int .i64 0, .int .i64 0]) ?_ 1 _ rfl; (with_reducible repeat (first | refine Qas ?_ _ | refine Qal ?_ | refine blk_alloc ?_ _)); refine Qay (cs:=#[.int .i64 0, .int .i64 0, .int .i64 0, .int .i64 0, .int .i64 0, .int .i64 0, .string (⟨#[]⟩ : ByteArray), .slice none 0 0, .int .i64 0, .int .i64 0, .int .i64 0]) ?_ 0 _ rfl; (with_reducible repeat (first | refine Qas ?_ _ | refine Qal ?_ | refine blk_alloc ?_ _)); refine blk_far ?_ NB158_159.out _; (with_reducible repeat (first | refine Qas ?_ _ | refine Qal ?_ | refine blk_alloc ?_ _)); exact BK158.out) Tryd.underlying55 rfl (by kernel_rfl)) rfl ?_
 exact ⟨_,re,by (with_reducible repeat (first | apply Kd.R_alloc | apply Kd.R_drewN | apply Kd.R_drew)); exact Kd.R_mono (rf11 (Kd.R_far (p:=⟨gb159,7,none⟩) (Kd.R_types (Kd.R_types HO162.out BK159.out (by decide)) BK158.out (by decide)) (fun _ hk => hk.1.2) (.slice Ao13 t160.length co13))) (fun _ hk => trivial),bw HB⟩
end
section
def Qak (e : SElem) : Bool:=e.f0 == 0 && (e.f1 == 0 && (e.f2 == 0))
def nameOk (s q : Int) : Bool:=decide (1 <= s) && decide (s <= 8) && decide (1 <= q) && decide (q <= 268435456)
def Qbx (e : SElem) : Bool:=Qak e || (nameOk e.f0 e.f1 && decide (0 <= e.f2) && decide (e.f2 < 12))
def ownEl (o : SOp) (e : SElem) : Bool:=e.f0 == o.f0 && e.f1 == o.f1
def Qaq (a b : SElem) : Bool:=decide (a.f0 < b.f0) || (a.f0 == b.f0 && (decide (a.f1 < b.f1) || (a.f1 == b.f1 && decide (a.f2 < b.f2))))
def Qaw (o : SOp) : Option SElem -> List SElem -> Bool
 | _,[] => true
 | p,e :: r => !Qak e && Qbx e && !ownEl o e && (match p with | none => true | some q => Qaq q e) && Qaw o (some e) r
def goneOk (o : SOp) : Bool:=Qaw o none o.f5 && decide (o.f5.length <= 200)
def Qbb (o : SOp) : Nat:=(runesOf o.f4).length
def editOk (o : SOp) : Bool:=Qbx o.f3 && !ownEl o o.f3 && !(o.f4.toList.isEmpty && !Qak o.f3) && !(o.f4.toList.isEmpty && o.f5.isEmpty) && textOk o.f4 && decide (Qbb o <= 12) && goneOk o && o.f6 == 0 && o.f7 == 0 && o.f8 == 0
def toggleOk (o : SOp) : Bool:=nameOk o.f6 o.f7 && !(o.f6 == o.f0 && o.f7 == o.f1) && decide (0 <= o.f8) && decide (o.f8 <= 268435456) && Qak o.f3 && o.f4.toList.isEmpty && o.f5.isEmpty
def opOk (o : SOp) : Bool:=nameOk o.f0 o.f1 && (if o.f2 = 1 then editOk o else o.f2 == 2 && toggleOk o)
def Sm (o : SOp) : Prop:=o.f4.size < 9223372036854775807 /\ o.f5.length <= 9223372036854775807
theorem op_IsSite_f (a : Int) : op_IsSite.f a = some (decide (1 <= a) && decide (a <= 8)):=by
 unfold op_IsSite.f
 by_cases h : 1 <= a <;> simp [h]
theorem op_Name_f (a b : Int) : op_Name.f a b = some (nameOk a b):=by
 unfold op_Name.f nameOk
 rw [op_IsSite_f]
 simp only [Option.bind_some]
 by_cases h1 : 1 <= a <;> by_cases h2 : a <= 8 <;> by_cases h3 : 1 <= b <;> simp [h1,h2,h3]
theorem op_IsElem_f (e : SElem) : op_IsElem.f e.f0 e.f1 e.f2 = some (Qbx e):=by
 unfold op_IsElem.f Qbx
 rw [op_Name_f]
 cases h : Qak e
 ·have h' : (e.f0 == 0 && (e.f1 == 0 && (e.f2 == 0))) = false:=h
  rw [if_neg (by rw [h']; simp)]
  simp only [Option.bind_some,Bool.false_or]
  cases nameOk e.f0 e.f1 <;> by_cases h2 : 0 <= e.f2 <;> simp [h2]
 ·have h' : (e.f0 == 0 && (e.f1 == 0 && (e.f2 == 0))) = true:=h
  rw [if_pos h']
  simp
theorem op_own_f (o : SOp) (e : SElem) : op_own.f o.f0 o.f1 o.f2 o.f3.f0 o.f3.f1 o.f3.f2 o.f4 o.f5 o.f6 o.f7 o.f8 e.f0 e.f1 e.f2 = some (ownEl o e):=by
 unfold op_own.f ownEl
 by_cases h : e.f0 = o.f0 <;> simp [h]
def cmpI (a b : Int) : Int:=if a < b then -1 else if a > b then 1 else 0
theorem Qbu (a b : Int) : cmp_Compare_int.f a b = some (cmpI a b):=by
 unfold cmp_Compare_int.f cmp_isNaN_int.f cmpI
 simp only [Option.bind_some,bne_self_eq_false,Bool.false_eq_true,if_false]
 by_cases h : a < b
 ·simp [h]
 ·by_cases h2 : a > b <;> simp [h,h2]
def cmpE (a b : SElem) : Int:=if cmpI a.f0 b.f0 ≠ 0 then cmpI a.f0 b.f0 else if cmpI a.f1 b.f1 ≠ 0 then cmpI a.f1 b.f1 else cmpI a.f2 b.f2
theorem Qar {i : Int} (h0 : -9223372036854775808 <= i) (h : i <= 9223372036854775807) : wrap64 i = i:=by
 unfold wrap64; omega
theorem cmp_Or_three (x y z : Int) : cmp_Or_int.f 5 [x,y,z] = some (if x ≠ 0 then x else if y ≠ 0 then y else z):=by
 have w1 : wrap64 1 = 1:=Qar (by omega) (by omega)
 have w2 : wrap64 2 = 2:=Qar (by omega) (by omega)
 have w3 : wrap64 3 = 3:=Qar (by omega) (by omega)
 unfold cmp_Or_int.f
 by_cases hx : x = 0
 ·by_cases hy : y = 0
  ·by_cases hz : z = 0
   ·subst hx hy hz; simp [cmp_Or_int.l0,rd,w1,w2,w3]
   ·subst hx hy; simp [cmp_Or_int.l0,rd,w1,w2,w3,hz]
  ·subst hx; simp [cmp_Or_int.l0,rd,w1,w2,w3,hy]
 ·simp [cmp_Or_int.l0,rd,hx]
theorem op_Compare_f (a b : SElem) : op_Compare.f 5 a.f0 a.f1 a.f2 b.f0 b.f1 b.f2 = some (cmpE a b):=by
 unfold op_Compare.f cmpE
 rw [Qbu,Qbu,Qbu]
 simp only [Option.bind_some]
 rw [cmp_Or_three]
 rfl
theorem cmpE_neg (a b : SElem) : decide (cmpE a b < 0) = Qaq a b:=by
 unfold cmpE Qaq cmpI
 by_cases h0 : a.f0 < b.f0
 ·simp [h0]
 ·by_cases h1 : a.f0 > b.f0
  ·have : ¬ a.f0 = b.f0:=by omega
   simp [h0,h1,this]
  ·have e0 : a.f0 = b.f0:=by omega
   by_cases h2 : a.f1 < b.f1
   ·simp [e0,h2]
   ·by_cases h3 : a.f1 > b.f1
    ·have : ¬ a.f1 = b.f1:=by omega
     simp [e0,h2,h3,this]
    ·have e1 : a.f1 = b.f1:=by omega
     by_cases h4 : a.f2 < b.f2
     ·simp [e0,e1,h4]
     ·by_cases h5 : a.f2 > b.f2 <;> simp [e0,e1,h4,h5]
theorem op_Less_f (a b : SElem) : op_Less.f 5 a.f0 a.f1 a.f2 b.f0 b.f1 b.f2 = some (Qaq a b):=by
 unfold op_Less.f
 rw [op_Compare_f]
 simp only [Option.bind_some]
 rw [cmpE_neg]
theorem op_Less_ev (a b : SElem) : Ev (fun k => op_Less.f k a.f0 a.f1 a.f2 b.f0 b.f1 b.f2) (Qaq a b) :=
 Ev.of (op_Less.mono _ _ _ _ _ _) (op_Less_f a b)
theorem op_Size_f (o : SOp) (h : Sm o) : op_Size.f o.f0 o.f1 o.f2 o.f3.f0 o.f3.f1 o.f3.f2 o.f4 o.f5 o.f6 o.f7 o.f8 = some (Qbb o : Int):=by
 unfold op_Size.f utf8_RuneCountInString.f
 rw [if_pos h.1]
 rfl
theorem Qaj (l : List SElem) (i : Nat) (h : i < l.length) : Qaa l (i : Int) = l[i]:=by
 unfold Qaa; simp [List.getD_eq_getElem?_getD,h]
theorem op_gone_ev (o : SOp) (h : Sm o) : ∀ d i,i + d = o.f5.length ->
  Ev (fun k => op_gone.l0 k o.f5 (o.f5.length : Int) (i : Int) o.f0 o.f1 o.f2 o.f3.f0 o.f3.f1 o.f3.f2 o.f4 o.f5 o.f6 o.f7 o.f8)
   (Qaw o (if i = 0 then none else some (Qaa o.f5 ((i : Int) - 1))) (o.f5.drop i) && decide (o.f5.length <= 200)):=by
 intro d
 induction d with
 | zero =>
  intro i hi
  refine Ev.step (f:=fun _ => some (Qaw o (if i = 0 then none else some (Qaa o.f5 ((i : Int) - 1))) (o.f5.drop i) && decide (o.f5.length <= 200))) (fun k => ?_) (Ev.now _)
  have e : o.f5.drop i = []:=List.drop_eq_nil_of_le (by omega)
  simp only [op_gone.l0]
  rw [if_neg (by omega),e]
  simp [Qaw]
  omega
 | succ d ih =>
  intro i hi
  have hlt : i < o.f5.length:=by omega
  have hI : (i : Int) < (o.f5.length : Int):=by omega
  have hw : wrap64 ((i : Int) + 1) = ((i + 1 : Nat) : Int):=by rw [Qar (by omega) (by have:=h.2; omega)]; omega
  have hw1 : wrap64 ((i : Int) - 1) = (i : Int) - 1:=Qar (by omega) (by have:=h.2; omega)
  have ih':=ih (i + 1) (by omega)
  have hd : o.f5.drop i = Qaa o.f5 (i : Int) :: o.f5.drop (i + 1):=by rw [Qaj _ _ hlt]; exact List.drop_eq_getElem_cons hlt
  rw [hd]
  generalize hx : Qaa o.f5 (i : Int) = x
  have hp1 : Qaa o.f5 (((i + 1 : Nat) : Int) - 1) = x:=by rw [show (((i + 1 : Nat) : Int) - 1) = (i : Int) by omega]; exact hx
  rw [if_neg (show ¬ i + 1 = 0 by omega),hp1] at ih'
  have hb0 : (x.f0 == 0 && (x.f1 == 0 && (x.f2 == 0))) = Qak x:=rfl
  have unf : ∀ k,op_gone.l0 (k + 1) o.f5 (o.f5.length : Int) (i : Int) o.f0 o.f1 o.f2 o.f3.f0 o.f3.f1 o.f3.f2 o.f4 o.f5 o.f6 o.f7 o.f8 =
    (if Qak x = true then some false else if Qbx x = true then (if ownEl o x = true then some false else if (i : Int) > 0 then
     ((op_Less.f k (Qaa o.f5 ((i : Int) - 1)).f0 (Qaa o.f5 ((i : Int) - 1)).f1 (Qaa o.f5 ((i : Int) - 1)).f2 x.f0 x.f1 x.f2).bind fun t => if t = true then op_gone.l0 k o.f5 (o.f5.length : Int) ((i + 1 : Nat) : Int) o.f0 o.f1 o.f2 o.f3.f0 o.f3.f1 o.f3.f2 o.f4 o.f5 o.f6 o.f7 o.f8 else some false)
     else op_gone.l0 k o.f5 (o.f5.length : Int) ((i + 1 : Nat) : Int) o.f0 o.f1 o.f2 o.f3.f0 o.f3.f1 o.f3.f2 o.f4 o.f5 o.f6 o.f7 o.f8) else some false):=by
   intro k
   simp only [op_gone.l0]
   rw [if_pos hI,if_pos (show (0 : Int) <= (i : Int) by omega),if_pos hI,hx,hb0,op_IsElem_f,op_own_f,hw,hw1]
   simp only [Option.bind_some]
   by_cases hi0 : (i : Int) > 0
   ·rw [if_pos (show (0 : Int) <= (i : Int) - 1 by omega),if_pos (show (i : Int) - 1 < (o.f5.length : Int) by omega)]
   ·simp only [hi0,if_false]
  refine Ev.step unf ?_
  cases hb : Qak x
  ·cases he : Qbx x
   ·simpa [Qaw,hb,he] using Ev.now false
   ·cases ho : ownEl o x
    ·by_cases hi0 : (i : Int) > 0
     ·have hne : ¬ i = 0:=by omega
      simp only [hi0,if_true,Bool.false_eq_true,if_false,hne]
      refine Ev.bind (op_Less_ev _ _) ?_
      cases hl : Qaq (Qaa o.f5 ((i : Int) - 1)) x
      ·simpa [Qaw,hb,he,ho,hl] using Ev.now false
      ·simpa [Qaw,hb,he,ho,hl] using ih'
     ·have hz : i = 0:=by omega
      subst hz
      simpa [Qaw,hb,he,ho] using ih'
    ·simpa [Qaw,hb,he,ho] using Ev.now false
  ·simpa [Qaw,hb] using Ev.now false
theorem op_gone_f (o : SOp) (h : Sm o) : Ev (fun k => op_gone.f k o.f0 o.f1 o.f2 o.f3.f0 o.f3.f1 o.f3.f2 o.f4 o.f5 o.f6 o.f7 o.f8) (goneOk o):=by
 have:=op_gone_ev o h o.f5.length 0 (by omega)
 simpa [goneOk,op_gone.f] using this
theorem toList_isEmpty (s : ByteArray) : (s.toList = ([] : List UInt8)) ↔ s.toList.isEmpty = true:=by
 cases s.toList <;> simp
theorem isEmpty_len {α : Type} (l : List α) : ((l.length : Int) == 0) = l.isEmpty:=by
 cases l with
 | nil => rfl
 | cons a r => simp; omega
theorem op_toggle_f (o : SOp) : op_toggle.f o.f0 o.f1 o.f2 o.f3.f0 o.f3.f1 o.f3.f2 o.f4 o.f5 o.f6 o.f7 o.f8 = some (toggleOk o):=by
 unfold op_toggle.f toggleOk
 rw [op_Name_f]
 simp only [Option.bind_some,isEmpty_len,toList_isEmpty]
 have hb0 : (o.f3.f0 == 0 && (o.f3.f1 == 0 && (o.f3.f2 == 0))) = Qak o.f3:=rfl
 rw [hb0]
 cases nameOk o.f6 o.f7
 ·simp
 ·by_cases h1 : o.f6 = o.f0
  ·by_cases h2 : o.f7 = o.f1
   ·simp [h1,h2]
   ·by_cases h3 : o.f8 < 0
    ·have : ¬ 0 <= o.f8:=by omega
     simp [h1,h2,h3,this]
    ·have h3' : 0 <= o.f8:=by omega
     by_cases h4 : o.f8 > 268435456
     ·have : ¬ o.f8 <= 268435456:=by omega
      simp [h1,h2,h3,h4,this]
     ·have h4' : o.f8 <= 268435456:=by omega
      cases Qak o.f3 <;> cases o.f4.toList.isEmpty <;> simp [h1,h2,h3,h4,h3',h4']
  ·by_cases h3 : o.f8 < 0
   ·have : ¬ 0 <= o.f8:=by omega
    simp [h1,h3,this]
   ·have h3' : 0 <= o.f8:=by omega
    by_cases h4 : o.f8 > 268435456
    ·have : ¬ o.f8 <= 268435456:=by omega
     simp [h1,h3,h4,this]
    ·have h4' : o.f8 <= 268435456:=by omega
     cases Qak o.f3 <;> cases o.f4.toList.isEmpty <;> simp [h1,h3,h4,h3',h4']
theorem not_begin (e : SElem) : (!(e.f0 == 0) || (!(e.f1 == 0) || (!(e.f2 == 0)))) = !Qak e:=by
 unfold Qak; cases (e.f0 == 0) <;> cases (e.f1 == 0) <;> cases (e.f2 == 0) <;> rfl
def editRest (o : SOp) : Bool:=textOk o.f4 && decide (Qbb o <= 12) && goneOk o && o.f6 == 0 && o.f7 == 0 && o.f8 == 0
theorem op_edit_j (o : SOp) (h : Sm o) (b : Bool) : Ev (fun k => op_edit.j0 k b o.f0 o.f1 o.f2 o.f3.f0 o.f3.f1 o.f3.f2 o.f4 o.f5 o.f6 o.f7 o.f8) (!b && editRest o):=by
 refine Ev.step (f:=fun k => if b = true then some false else if textOk o.f4 = true then (if (Qbb o : Int) <= 12 then (op_gone.f k o.f0 o.f1 o.f2 o.f3.f0 o.f3.f1 o.f3.f2 o.f4 o.f5 o.f6 o.f7 o.f8).bind fun t => if t = true then (if o.f6 = 0 then (if o.f7 = 0 then some (o.f8 == 0) else some false) else some false) else some false else some false) else some false) (fun k => ?_) ?_
 ·simp only [op_edit.j0,text_May.f,Option.bind_some]
  rw [op_Size_f o h]
  simp only [Option.bind_some]
 ·cases b
  ·simp only [Bool.false_eq_true,if_false,Bool.not_false,Bool.true_and]
   unfold editRest
   cases textOk o.f4
   ·simpa using Ev.now false
   ·by_cases hs : (Qbb o : Int) <= 12
    ·have hs' : Qbb o <= 12:=by omega
     simp only [hs,hs',if_true,decide_true,Bool.true_and]
     refine Ev.bind (op_gone_f o h) ?_
     cases goneOk o
     ·simpa using Ev.now false
     ·by_cases h6 : o.f6 = 0
      ·by_cases h7 : o.f7 = 0
       ·simpa [h6,h7] using Ev.now (o.f8 == 0)
       ·have b7 : (o.f7 == 0) = false:=by simpa using h7
        simpa [h6,h7,b7] using Ev.now false
      ·have b6 : (o.f6 == 0) = false:=by simpa using h6
       simpa [h6,b6] using Ev.now false
    ·have hs' : ¬ Qbb o <= 12:=by omega
     simpa [hs,hs'] using Ev.now false
  ·simpa using Ev.now false
theorem op_edit_f (o : SOp) (h : Sm o) : Ev (fun k => op_edit.f k o.f0 o.f1 o.f2 o.f3.f0 o.f3.f1 o.f3.f2 o.f4 o.f5 o.f6 o.f7 o.f8) (editOk o):=by
 have e : editOk o = (!(!Qbx o.f3 || ownEl o o.f3 || (o.f4.toList.isEmpty && !Qak o.f3) || (o.f4.toList.isEmpty && o.f5.isEmpty)) && editRest o):=by
  unfold editOk editRest
  cases Qbx o.f3 <;> cases ownEl o o.f3 <;> cases o.f4.toList.isEmpty <;> cases Qak o.f3 <;> cases o.f5.isEmpty <;> simp
 rw [e]
 unfold op_edit.f
 simp only [op_IsElem_f,op_own_f,Option.bind_some,isEmpty_len,toList_isEmpty,not_begin]
 cases Qbx o.f3
 ·simpa using op_edit_j o h true
 ·cases ownEl o o.f3
  ·cases h4 : o.f4.toList.isEmpty
   ·simpa [h4] using op_edit_j o h false
   ·cases h5 : Qak o.f3
    ·simpa [h4,h5] using op_edit_j o h true
    ·simpa [h4,h5] using op_edit_j o h o.f5.isEmpty
  ·simpa using op_edit_j o h true
theorem op_May_f (o : SOp) (h : Sm o) : Ev (fun k => op_May.f k o.f0 o.f1 o.f2 o.f3.f0 o.f3.f1 o.f3.f2 o.f4 o.f5 o.f6 o.f7 o.f8) (opOk o):=by
 unfold op_May.f opOk
 simp only [op_Name_f,op_toggle_f,Option.bind_some]
 cases nameOk o.f0 o.f1
 ·simpa using Ev.now false
 ·by_cases h1 : o.f2 = 1
  ·simp only [h1,if_true,Bool.true_and]
   have:=op_edit_f o h
   rw [h1] at this
   exact Ev.bind this (Ev.now _)
  ·by_cases h2 : o.f2 = 2
   ·simpa [h1,h2] using Ev.now (toggleOk o)
   ·have b2 : (o.f2 == 2) = false:=by simpa using h2
    simpa [h1,h2,b2] using Ev.now false
end
section
abbrev RE (w : World) (base : Nat) (v : Value) (xs : List SElem) : Prop:=Qam.R 43 w base (fun _ => True) v xs
theorem RE_set {w : World} {base g n c : Nat} {xs : List SElem} (h : RE w base (.slice (some ⟨g,0,none⟩) n c) xs) (i : Nat) (hi : i < n) (x : SElem) :
  RE (((w.setCell ⟨g,i * 3,none⟩ (.int .i64 x.f0)).setCell ⟨g,i * 3 + 1,none⟩ (.int .i64 x.f1)).setCell ⟨g,i * 3 + 2,none⟩ (.int .i64 x.f2)) base (.slice (some ⟨g,0,none⟩) n c) (xs.set i x) /\
   w.grownBy (((w.setCell ⟨g,i * 3,none⟩ (.int .i64 x.f0)).setCell ⟨g,i * 3 + 1,none⟩ (.int .i64 x.f1)).setCell ⟨g,i * 3 + 2,none⟩ (.int .i64 x.f2)) (some g):=by
 obtain ⟨cs,hl,hM,hc,hf⟩:=Kd.R_elem h zElem (i : Int) (by omega) (by omega)
 have hl3 : cs.length = 3:=hl
 have:=Kd.R_seg h (i : Int) (by omega) (by omega) (c:=cs) (seg:=[.int .i64 x.f0, .int .i64 x.f1, .int .i64 x.f2]) (j:=0) (x':=x) (okp:=fun k => True /\ k ≠ g) hl hc (by show 0 + 3 <= 3; omega) (by
  have : cs.take 0 ++ [Value.int .i64 x.f0, .int .i64 x.f1, .int .i64 x.f2] ++ cs.drop (0 + [Value.int .i64 x.f0, .int .i64 x.f1, .int .i64 x.f2].length) = [.int .i64 x.f0, .int .i64 x.f1, .int .i64 x.f2]:=by
   rw [List.take_zero,List.nil_append,List.drop_eq_nil_of_le (by simp; omega),List.append_nil]
  rw [this]; exact Qan _ _ _ x) (fun k hk => hk)
 exact this
theorem grown_then {w w1 w2 : World} {row : Option Nat} (h : w.grownBy w1 row) (k : Below w1.heap.size w1 w2) : w.grownBy w2 row :=
 ⟨k.os.trans h.os,k.tape.trans h.tape,k.output.trans h.output,Nat.le_trans h.size k.size,fun i hi hne => (k.block i (Nat.lt_of_lt_of_le hi h.size)).trans (h.block i hi hne)⟩
theorem Qbd {w w1 w2 : World} {row : Option Nat} (h : w.grownBy w1 row) (k : w1.grownBy w2 row) : w.grownBy w2 row :=
 ⟨k.os.trans h.os,k.tape.trans h.tape,k.output.trans h.output,Nat.le_trans h.size k.size,fun i hi hne => (k.block i (Nat.lt_of_lt_of_le hi h.size) hne).trans (h.block i hi hne)⟩
theorem filter_first (l : List SElem) (p : SElem -> Bool) {i : Nat} (hi : i < l.length) (hpi : p (Qaa l (i : Int)) = true) (hlt : ∀ j,j < i -> p (Qaa l (j : Int)) = false) : l.take i = (l.take (i + 1)).filter (fun x => !p x):=by
 rw [List.take_succ_eq_append_getElem hi,List.filter_append]
 rw [Qaj _ _ hi] at hpi
 have h1 : (l.take i).filter (fun x => !p x) = l.take i:=by
  rw [List.filter_eq_self]
  intro x hx
  obtain ⟨j,hj,rfl⟩:=List.mem_take_iff_getElem.1 hx
  have:=hlt j (by omega)
  rw [Qaj _ _ (by omega)] at this
  simp [this]
 rw [h1]; simp [hpi]
def zs (n : Nat) : List Value:=(Builtin.zeroCells #[.int .i64 0, .int .i64 0, .int .i64 0] n).toList
theorem zs_len (n : Nat) : (zs n).length = n * 3:=by simp [zs,Builtin.zeroCells]
theorem zs_one (n : Nat) : ∀ v ∈ zs n,v.oneCell' = true:=by
 intro v hv
 unfold zs Builtin.zeroCells at hv
 simp only [Array.toList_map,List.mem_map] at hv
 obtain ⟨i,_,rfl⟩:=hv
 have h : i % 3 = 0 \/ i % 3 = 1 \/ i % 3 = 2:=by omega
 show (#[Value.int .i64 0, .int .i64 0, .int .i64 0][i % 3]!).oneCell' = true
 rcases h with h | h | h <;> rw [h] <;> rfl
theorem run_clear_elem (w : World) (ty : TypeId) (b o n c : Nat) (hn : 0 < n) (hc : ∀ j,j < n * 3 -> (w.cell? ⟨b,o + j,none⟩).isSome = true) (hf : ∀ j,j < n * 3 -> w.frozen? ⟨b,o + j,none⟩ = false) :
  (Builtin.clear_ #[23] ty #[.slice (some ⟨b,o,none⟩) n c]).run Tryd.prog w = .ok (.tuple #[]) (w.setCells b o (zs n)):=by
 have hst:=run_storeCells_cells (P:=Tryd.prog) b o (zs n) 0 w (by rw [zs_len]; simpa using hc) (by rw [zs_len]; simpa using hf) (zs_one n)
 simp only [Nat.add_zero] at hst
 have hv:=Tryd.zeroValue43
 obtain ⟨m,rfl⟩ : ∃ m,n = m + 1:=⟨n - 1,by omega⟩
 simp only [Builtin.clear_]
 unfold zs at hst ⊢
 simp [run_underlying Tryd.underlying23,hv,Value.cells,hst]
theorem RE_clear {w : World} {base g n c : Nat} {xs : List SElem} (h : RE w base (.slice (some ⟨g,0,none⟩) n c) xs) (a : Nat) (ha : a <= n) (seg : List Value) (hs : a * 3 + seg.length <= n * 3) :
  RE (w.setCells g (a * 3) seg) base (.slice (some ⟨g,0,none⟩) a c) (xs.take a) /\ w.grownBy (w.setCells g (a * 3) seg) (some g) /\ (∀ j,j < n * 3 -> (w.cell? ⟨g,j,none⟩).isSome = true) /\ ∀ j,w.frozen? ⟨g,j,none⟩ = false:=by
 have hn:=(Kd.R_reads' h).1
 obtain ⟨_,inner0,own0,hr0⟩:=h
 have hT:=Kd.R_take (m:=a) (show RE w base (.slice (some ⟨g,0,none⟩) n c) xs from ⟨fun _ _ => trivial,inner0,own0,hr0⟩) (by omega)
 obtain ⟨hok,inner,ho,hr⟩:=hT
 obtain ⟨ho1,ho2⟩:=ho
 obtain ⟨_,ho02⟩:=own0
 rcases ho02 with ⟨hv,_⟩ | ⟨g0,cap0,cur0,hv0,hb0,hh0,hnc0,hcm0,hcs0,ht0⟩
 ·cases hv
 rcases ho2 with ⟨hv,_⟩ | ⟨g',cap',cur,hv,hb,hh,hnc',hcm,hcs,ht⟩
 ·cases hv
 injection hv with hA _ hc
 injection hA with hA
 injection hA with hg
 subst hg; subst hc
 injection hv0 with hA _ hc
 injection hA with hA
 injection hA with hg
 subst hg; subst hc
 have e : cur0 = cur:=by
  rw [hh] at hh0; injection hh0 with hh0; injection hh0 with hh0; exact hh0.symm
 subst e
 have hfit : a * 3 + seg.length <= cur0.size:=by
  have h3 : Qam.sz = 3:=rfl
  rw [hcs0,h3]; omega
 obtain ⟨cur',h3,h4,h5⟩:=setCells_row seg (a * 3) w cur0 hh hfit
 obtain ⟨s1,s2,s3,s4⟩:=setCells_same g seg (a * 3) w
 refine ⟨⟨hok,inner,⟨ho1, .inr ⟨g,c,cur',by rw [List.length_take,Nat.min_eq_left (by omega)],hb,h3,hnc',hcm,by rw [h4,hcs], ?_⟩⟩,hr⟩,⟨s1,s2,s3,by rw [s4]; exact Nat.le_refl _,fun k _ hk => setCells_far seg _ k (fun he => hk (by rw [he]))⟩,fun j hj => ?_,fun j => blk_frozen hh j⟩
 ·rw [<- ht,h5]
  have hl : (cur0.toList.take (a * 3)).length = a * 3:=by rw [List.length_take,Array.length_toList]; omega
  have h33 : (xs.take a).length * 3 = a * 3:=by rw [List.length_take]; omega
  show List.take ((xs.take a).length * 3) _ = List.take ((xs.take a).length * 3) _
  rw [h33,List.append_assoc,List.take_append_of_le_length (by omega),List.take_take,Nat.min_self]
 ·rw [cell_of_row w g j cur0 _ (0,0) hh,Array.getElem?_eq_getElem (by have h3 : Qam.sz = 3:=rfl; rw [hcs0,h3]; omega)]
  rfl
theorem DeleteFuncElem (gf : Nat) (lb : Array Value) (base c : Nat) (A : Option Addr) (l : List SElem) (p : SElem -> Bool) (w : World) (eg : ∀ args w,(callFunc gf args).run Tryd.prog w = .ok (.enter gf args) w)
  (hm : l.length <= 1000000000) (h0 : RE w base (.slice A l.length c) l)
  (hs : ∀ W x,x ∈ l -> w.grownBy W (Value.slice A l.length c).ownBlock -> Calls Tryd.prog gf (#[elV x] ++ lb) W fun e w' => e = .returned (.bool (p x)) /\ Below W.heap.size W w') :
  Calls Tryd.prog 86 #[.slice A l.length c, .func (.func gf) #[] lb] w fun e w' => ∃ n',e = .returned (.slice A n' c) /\ RE w' base (.slice A n' c) (l.filter fun x => !p x) /\ w.grownBy w' (Value.slice A l.length c).ownBlock:=by
 have hu1:=Tryd.underlying23
 have hu2:=Tryd.underlying43
 have cI:=IndexFuncElem gf lb A c l (fun i => p (Qaa l (i : Int))) (fun _ W => Below w.heap.size w W) (fun _ W => Below w.heap.size w W) w eg (by omega) (Below.refl _ _) (fun i W hb => (Kd.R_reads' (Kd.R_below h0 hb)).2.2) (fun i W hi hb => by
  refine (hs W (Qaa l (i : Int)) (by rw [Qaj _ _ hi]; exact List.getElem_mem hi) (Qbc hb _)).mono ?_
  rintro e w' ⟨rfl,hb'⟩
  have : Below w.heap.size w w':=Qap hb hb'
  exact ⟨rfl,fun _ => this,fun _ => this⟩)
 have HI:=Zz.k (firstAt_cases (fun i : Nat => p (Qaa l (i : Int))) l.length)
 generalize Qbm (fun i : Nat => p (Qaa l (i : Int))) l.length l.length 0 = i0 at cI HI
 have CI:=Zz.k cI
 have HS:=Zz.k hs
 have H0:=Zz.k h0
 clear cI hs h0
 go_enter Tryd.func86,Tryd.ntmps86
 go_wp2_with fail
 refine CI.out.mono ?_
 rintro e w1 ⟨rfl,hpost⟩
 have HP:=Zz.k hpost
 clear hpost CI
 rcases HI.out with ⟨i,hi,hpi,hlt,rfl⟩ | ⟨hno,rfl⟩
 ·have hne : ((i : Int) == -1) = false:=by simp
  obtain ⟨g,cap,hv,hbg,hgl,_⟩:=Kd.R_form H0.out (by omega)
  injection hv with ha _ hcap
  subst ha; subst hcap
  have hb1 : Below w.heap.size w w1:=by rcases HP.out with ⟨_,_,_,_,h⟩ | ⟨_,h⟩ <;> exact h
  have HG1:=Zz.k (Qbc hb1 (some g))
  have HR1:=Zz.k (Kd.R_below H0.out hb1)
  have HFT:=Zz.k (filter_first l p hi hpi hlt)
  clear HP HI hb1 H0
  go_wp2
  go_loopg [5,6,7] l.length (fun gg s5 s6 _ wr => ∃ (a b : Nat) (xs : List SElem),a < b /\ b <= l.length /\ l.length - b <= gg /\ s5 = .int .i64 a /\ s6 = .int .i64 b /\ Zz (xs.length = l.length) /\ Zz (xs.take a = (l.take b).filter (fun x => !p x)) /\ Zz (xs.drop b = l.drop b) /\ Zz (RE wr base (.slice (some ⟨g,0,none⟩) l.length c) xs) /\ Zz (w.grownBy wr (some g)))
  case atStart => exact ⟨i,i + 1,l,by omega,by omega,by omega,rfl,by go_num,⟨rfl⟩,HFT,⟨rfl⟩,HR1,HG1⟩
  case round =>
   clear HFT HR1 HG1
   obtain ⟨a,b,xs,hab,hbn,hgk,rfl,rfl,HL,HF,HD,HR,HG⟩:=hrel
   by_cases hlt2 : b < l.length
   ·obtain ⟨g',rfl⟩ : ∃ g',gk = g' + 1:=⟨gk - 1,by omega⟩
    have hltz : (b : Int) < (l.length : Int):=by omega
    have h0z : (0 : Int) <= (b : Int):=by omega
    obtain ⟨hn,_,hC⟩:=Kd.R_reads' HR.out
    obtain ⟨ad,hA,x0,x1,x2⟩:=Qat hC (b : Int) h0z (by omega)
    injection hA with hA
    subst hA
    clear hC hn
    simp only [Int.toNat_natCast,add_plain] at x0 x1 x2
    have hx : Qaa xs (b : Int) = Qaa l (b : Int):=by
     have hb2 : b < xs.length:=by rw [HL.out]; exact hlt2
     rw [Qaj _ _ hb2,Qaj _ _ hlt2]
     have:=HD.out
     rw [List.drop_eq_getElem_cons hb2,List.drop_eq_getElem_cons hlt2] at this
     injection this
    rw [hx] at x0 x1 x2
    have HM:=Zz.k (show Qaa l (b : Int) ∈ l by rw [Qaj _ _ hlt2]; exact List.getElem_mem hlt2)
    generalize hxe : Qaa l (b : Int) = x at x0 x1 x2 HM
    have HXE:=Zz.k hxe
    clear hxe hx
    have hal : Below wr.heap.size wr (wr.alloc (.cells #[.int .i64 x.f0, .int .i64 x.f1, .int .i64 x.f2] 43)):=Qah (Below.refl _ _) _
    have HC:=Zz.k (HS.out _ x HM.out (grown_then HG.out hal))
    have HG2:=Zz.k (grown_then HG.out hal)
    have HR2:=Zz.k (Kd.R_below HR.out hal)
    have HLT : xs.length = l.length:=HL.out
    have ha1 : a < xs.length:=by omega
    clear hal HG HR
    go_wp2_with fail
    refine HC.out.mono ?_
    rintro e w2 ⟨rfl,hb2⟩
    have d0:=Qad hb2 (show (wr.alloc (.cells #[.int .i64 x.f0, .int .i64 x.f1, .int .i64 x.f2] 43)).cell? ⟨wr.heap.size,0,none⟩ = some (.int .i64 x.f0) by simp)
    have d1:=Qad hb2 (show (wr.alloc (.cells #[.int .i64 x.f0, .int .i64 x.f1, .int .i64 x.f2] 43)).cell? ⟨wr.heap.size,1,none⟩ = some (.int .i64 x.f1) by simp)
    have d2:=Qad hb2 (show (wr.alloc (.cells #[.int .i64 x.f0, .int .i64 x.f1, .int .i64 x.f2] 43)).cell? ⟨wr.heap.size,2,none⟩ = some (.int .i64 x.f2) by simp)
    have HG3:=Zz.k (grown_then HG2.out hb2)
    have HR3:=Zz.k (Kd.R_below HR2.out hb2)
    clear hb2 HG2 HR2 x0 x1 x2 HC
    have hxl : l[b] = x:=by rw [<- Qaj _ _ hlt2]; exact HXE.out
    have hD2 : xs.drop (b + 1) = l.drop (b + 1):=by
     have:=HD.out
     rw [List.drop_eq_getElem_cons (show b < xs.length by omega),List.drop_eq_getElem_cons hlt2] at this
     injection this
    have HD2:=Zz.k hD2
    have hF2:=HF.out
    cases hp : p x with
    | true =>
     have hF3 : xs.take a = (l.take (b + 1)).filter (fun x => !p x):=by
      rw [List.take_succ_eq_append_getElem hlt2,List.filter_append,hxl,<- hF2]; simp [hp]
     have HF3:=Zz.k hF3
     clear hF3 hF2 hD2 hp HF HD hxl
     go_wp2
     go_roundg g'
     case measure => omega
     case rel => exact ⟨a,b + 1,xs,by omega,by omega,by omega,rfl,by go_num,HL,HF3,HD2,HR3,HG3⟩
    | false =>
     have hF3 : (xs.set a x).take (a + 1) = (l.take (b + 1)).filter (fun x => !p x):=by
      rw [List.take_succ_eq_append_getElem hlt2,List.filter_append,hxl,<- hF2,List.take_succ_eq_append_getElem (by simp; omega),List.take_set_of_le (Nat.le_refl a)]; simp [hp]
     have HF3:=Zz.k hF3
     have HL3:=Zz.k (show (xs.set a x).length = l.length by rw [List.length_set]; exact HLT)
     have HD3:=Zz.k (show (xs.set a x).drop (b + 1) = l.drop (b + 1) by rw [List.drop_set_of_lt (by omega)]; exact hD2)
     obtain ⟨cs,hcl,_,hcc,hff⟩:=Kd.R_elem HR3.out zElem (a : Int) (by omega) (by omega)
     have hcl3 : cs.length = 3:=hcl
     have hR4:=RE_set HR3.out a (by omega) x
     have HR4:=Zz.k hR4.1
     have HG4:=Zz.k (Qbd HG3.out hR4.2)
     obtain ⟨q0,q1,q2,rfl⟩ : ∃ q0 q1 q2,cs = [q0,q1,q2]:=by
      match cs,hcl3 with
      | [q0,q1,q2],_ => exact ⟨q0,q1,q2,rfl⟩
     have e0 : w2.cell? ⟨g,a * 3,none⟩ = some q0:=hcc 0 _ rfl
     have e1 : w2.cell? ⟨g,a * 3 + 1,none⟩ = some q1:=hcc 1 _ rfl
     have e2 : w2.cell? ⟨g,a * 3 + 2,none⟩ = some q2:=hcc 2 _ rfl
     have f0 : w2.frozen? ⟨g,a * 3,none⟩ = false:=hff 0
     have f1 : w2.frozen? ⟨g,a * 3 + 1,none⟩ = false:=hff 1
     have f2 : w2.frozen? ⟨g,a * 3 + 2,none⟩ = false:=hff 2
     clear hF3 hF2 hD2 hp HF HD hxl hR4 hcc hff hcl hcl3 HG3 HR3
     go_wp2
     go_roundg g'
     case measure => omega
     case rel => exact ⟨a + 1,b + 1,xs.set a x,by omega,by omega,by omega,by go_num,by go_num,HL3,HF3,HD3,HR4,HG4⟩
   ·obtain rfl : b = l.length:=by omega
    have hltz : ¬ (l.length : Int) < (l.length : Int):=by omega
    obtain ⟨r1,r2,r3,r4⟩:=RE_clear HR.out a (by omega) (zs (l.length - a)) (by rw [zs_len]; omega)
    have HR5:=Zz.k r1
    have HG5:=Zz.k (Qbd HG.out r2)
    have hcl : ∀ ty,(Builtin.clear_ #[23] ty #[.slice (some ⟨g,a * 3,none⟩) (l.length - a) (c - a)]).run Tryd.prog wr = .ok (.tuple #[]) (wr.setCells g (a * 3) (zs (l.length - a))) :=
     fun ty => run_clear_elem wr ty g (a * 3) _ _ (by omega) (fun j hj => r3 _ (by omega)) (fun j hj => r4 _)
    have hF5:=HF.out
    rw [List.take_length] at hF5
    have HF5:=Zz.k hF5
    have hnc:=(Kd.R_reads' HR.out).2.1
    have hac : c ≠ a:=by omega
    have hac1 : (a : Int) <= (c : Int):=by omega
    have hac2 : ¬ (c : Int) < (a : Int):=by omega
    clear r1 r2 r3 r4 HR HG HD HF hF5
    go_wp2
    go_ret
    exact ⟨_,rfl,by rw [<- HF5.out]; exact HR5.out,HG5.out⟩
 ·go_wp2
  go_ret
  have hb1 : Below w.heap.size w w1:=by rcases HP.out with ⟨_,_,_,_,h⟩ | ⟨_,h⟩ <;> exact h
  refine ⟨_,rfl, ?_,Qbc hb1 _⟩
  have : l.filter (fun x => !p x) = l:=by
   rw [List.filter_eq_self]
   intro x hx
   obtain ⟨j,hj,rfl⟩:=List.getElem_of_mem hx
   have:=hno j hj
   rw [Qaj _ _ hj] at this
   simp [this]
  rw [this]
  exact Kd.R_below H0.out hb1
end
section
def t_op_Needs.T3 : Bool × List (List Nat × List Nat):=(true,[([],[]),([0],[0]),([1],[1]),([],[]),([3],[3]),([],[]),([5],[5]),([],[]),([7],[7]),([6,8],[6,8]),([4,9],[4,9]),([2,10,2],[2,10]),([11,11,0,1,2,3,4,5,6,7,8,9,10,11],[11])])
def t_op_Needs.B3 : List Nat:=[0,1,3,0,8,0,32,0,128,480,1016,2047,4095]
theorem t_op_Needs.tab3 : rtab .any (opsOf Tryd.f40 3) = t_op_Needs.T3:=by kernel_rfl
theorem t_op_Needs.bits3 : Qbf t_op_Needs.T3.2 t_op_Needs.B3 = true:=by kernel_rfl
def t_op_Compare.T1 : Bool × List (List Nat × List Nat):=(true,[([],[]),([0],[0]),([],[]),([2],[2]),([1,3],[1,3]),([],[]),([5],[5]),([],[]),([7],[7]),([6,8,4],[6,8]),([],[]),([10],[10]),([],[]),([12],[12]),([11,13,9],[11,13]),([4,9,14],[4,9,14]),([15,14],[15]),([16,16,0,1,2,3,4,5,6,7,8,9,10,11,12,13,14,15,16],[16])])
def t_op_Compare.B1 : List Nat:=[0,1,0,4,15,0,32,0,128,511,0,1024,0,4096,16383,32767,65535,131071]
theorem t_op_Compare.tab1 : rtab .any (opsOf Tryd.f89 1) = t_op_Compare.T1:=by kernel_rfl
theorem t_op_Compare.bits1 : Qbf t_op_Compare.T1.2 t_op_Compare.B1 = true:=by kernel_rfl
def t_api_Elem.T6 : Bool × List (List Nat × List Nat):=(true,[([],[]),([],[]),([0,1],[0,1]),([2],[2]),([],[]),([],[]),([5],[5]),([4,6],[4,6]),([7],[7]),([3,8],[3,8])])
def t_api_Elem.B6 : List Nat:=[0,0,3,7,0,0,32,112,240,511]
theorem t_api_Elem.tab6 : rtab .any (opsOf Tryd.f90 6) = t_api_Elem.T6:=by kernel_rfl
theorem t_api_Elem.bits6 : Qbf t_api_Elem.T6.2 t_api_Elem.B6 = true:=by kernel_rfl
def t_api_Elem.T11 : Bool × List (List Nat × List Nat):=(true,[([],[]),([],[]),([0,1],[0,1]),([2],[2]),([],[]),([],[]),([5],[5]),([4,6],[4,6]),([7],[7]),([3,8],[3,8])])
def t_api_Elem.B11 : List Nat:=[0,0,3,7,0,0,32,112,240,511]
theorem t_api_Elem.tab11 : rtab .any (opsOf Tryd.f90 11) = t_api_Elem.T11:=by kernel_rfl
theorem t_api_Elem.bits11 : Qbf t_api_Elem.T11.2 t_api_Elem.B11 = true:=by kernel_rfl
end
end Go.Proofs.YtonoaflfobajcaaDoor.L
end
