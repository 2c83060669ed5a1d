/- Part 4 of the proof that for every argument the law EditRaces answers true: edits that two sites make of the same row, ordered one behind the other either way, leave what each wrote whole, side by side, and take away what each took -/
import Derived.Test.YtlllghajjamdpaaGreatDoorZER3
import Derived.LoopTactic
import Derived.WalkSpells
import Derived.Maps.OwnSet
import Derived.Maps.OwnOps
import Derived.DeepKeys5
section
namespace Go.Proofs.YtlllghajjamdpaaGreatDoor.L
open Go.RowKit Go.Proofs.YtlllghajjamdpaaGreatDoorW.PrintWords Go.Proofs.YtlllghajjamdpaaGreatDoorW.PrintLast Go.Proofs.YtlllghajjamdpaaGreatDoorW.PrintMore
set_option linter.unusedVariables false
set_option linter.unusedSimpArgs false
set_option maxHeartbeats 40000000
set_option maxRecDepth 1000000
section
attribute [local go_sem] Qbm Qbk Qbu Qbt Qbc Qbb Qbl Qbj
attribute [local go_sem high] eqAElem
def op_gone.l0 : Nat -> List (SElem) -> Int -> Int -> Int -> Int -> Int -> Int -> Int -> Int -> ByteArray -> List (SElem) -> Int -> Int -> Int -> Option (Bool)
 | 0,_,_,_,_,_,_,_,_,_,_,_,_,_,_ => none
 | k + 1,x6,x7,x8,x133000,x133001,x133002,x133003,x133004,x133005,x133006,x133007,x133008,x133009,x133010 => if x8 < x7 then (if 0 <= x8 then (if x8 < (x6.length : Int) then (if (((Qaa x6 x8).f0) == 0 && (((Qaa x6 x8).f1) == 0 && (((Qaa x6 x8).f2) == 0))) = true then (some false) else ((op_IsElem.f ((Qaa x6 x8).f0) ((Qaa x6 x8).f1) ((Qaa x6 x8).f2)).bind fun t135 => (if t135 = true then ((op_own.f x133000 x133001 x133002 x133003 x133004 x133005 x133006 x133007 x133008 x133009 x133010 ((Qaa x6 x8).f0) ((Qaa x6 x8).f1) ((Qaa x6 x8).f2)).bind fun t136 => (if t136 = true then (some false) else (if x8 > 0 then (if 0 <= (wrap64 (x8 - 1)) then (if (wrap64 (x8 - 1)) < (x133007.length : Int) then ((op_Less.f k ((Qaa x133007 (wrap64 (x8 - 1))).f0) ((Qaa x133007 (wrap64 (x8 - 1))).f1) ((Qaa x133007 (wrap64 (x8 - 1))).f2) ((Qaa x6 x8).f0) ((Qaa x6 x8).f1) ((Qaa x6 x8).f2)).bind fun t138 => (if t138 = true then (op_gone.l0 k x6 x7 (wrap64 (x8 + 1)) x133000 x133001 x133002 x133003 x133004 x133005 x133006 x133007 x133008 x133009 x133010) else (some false))) else (none)) else (none)) else (op_gone.l0 k x6 x7 (wrap64 (x8 + 1)) x133000 x133001 x133002 x133003 x133004 x133005 x133006 x133007 x133008 x133009 x133010)))) else (some false)))) else (none)) else (none)) else (some (decide ((x133007.length : Int) <= 200)))
def op_gone.f (k : Nat) (a0_0 : Int) (a0_1 : Int) (a0_2 : Int) (a0_3 : Int) (a0_4 : Int) (a0_5 : Int) (a0_6 : ByteArray) (l0_7 : List (SElem)) (a0_8 : Int) (a0_9 : Int) (a0_10 : Int) : Option (Bool):=op_gone.l0 k l0_7 (l0_7.length : Int) 0 a0_0 a0_1 a0_2 a0_3 a0_4 a0_5 a0_6 l0_7 a0_8 a0_9 a0_10
def op_gone.T4 : Bool × List (List Nat × List Nat):=(true,[([],[]),([],[]),([0,1],[0,1]),([2],[2]),([3],[3]),([4,3,3],[3,4]),([5,3],[3,5]),([3,6],[3,6]),([7,5],[7]),([8],[8]),([8],[8]),([9,10,8,8],[8,9,10]),([8,11],[8,11]),([12,11],[12]),([13],[13]),([14,13],[13,14]),([15,13,13],[13,15]),([16],[16]),([17,16],[16,17]),([16],[16]),([19,16],[16,19]),([18,20,16],[16,18,20]),([21,16],[16,21]),([16],[16]),([22,23,16,16],[16,22,23]),([24,16],[16,24]),([16,25,13],[13,16,25]),([13,26],[13,26])])
def op_gone.B4 : List Nat:=[0,0,3,7,15,31,63,127,255,511,511,2047,4095,8191,16383,32767,65535,131071,262143,131071,655359,2097151,4194303,131071,16777215,33554431,67108863,134217727]
theorem op_gone.tab4 : rtab .any (Qdb Tryz.f141 4) = op_gone.T4:=by kernel_rfl
theorem op_gone.bits4 : Qay op_gone.T4.2 op_gone.B4 = true:=by kernel_rfl
theorem op_gone.calls (k : Nat) (a0_0 : Int) (a0_1 : Int) (a0_2 : Int) (a0_3 : Int) (a0_4 : Int) (a0_5 : Int) (a0_6 : ByteArray) (A0_7 : Option Addr) (c0_7 : Nat) (l0_7 : List (SElem)) (a0_8 : Int) (a0_9 : Int) (a0_10 : Int) (r : Bool) (w : World) (hr0_7 : Kd.C Qap w A0_7 l0_7.length l0_7) (hc0_7 : l0_7.length <= c0_7) (h : op_gone.f k a0_0 a0_1 a0_2 a0_3 a0_4 a0_5 a0_6 l0_7 a0_8 a0_9 a0_10 = some r) :
  Calls Tryz.prog 141 #[.agg #[.int .i64 a0_0, .int .i64 a0_1, .int .i64 a0_2, .int .i64 a0_3, .int .i64 a0_4, .int .i64 a0_5, .string a0_6, .slice A0_7 l0_7.length c0_7, .int .i64 a0_8, .int .i64 a0_9, .int .i64 a0_10]] w fun e w' => e = .returned (.bool r) /\ Below w.heap.size w w':=by
 have hu34:=Tryz.underlying34
 have hu32:=Tryz.underlying32
 have HR0_7:=Zz.k hr0_7
 have HC0_7:=Zz.k hc0_7
 clear hr0_7 hc0_7
 have HB:=Zz.k (Below.refl w.heap.size w)
 unfold op_gone.f at h; have H:=h
 clear h
 have H':=Zz.k H
 clear H
 go_enter Tryz.func141,Tryz.ntmps141
 go_wp2_with (first | ((with_reducible refine Qaf (N:=1) rfl ?_); refine bx 1 #[.int .i64 a0_0, .int .i64 a0_1, .int .i64 a0_2, .int .i64 a0_3, .int .i64 a0_4, .int .i64 a0_5, .string a0_6, .slice A0_7 l0_7.length c0_7, .int .i64 a0_8, .int .i64 a0_9, .int .i64 a0_10] 34 (h := ?_); intro gb132 hg w2 hbox hb; have BK132:=Zz.k (hbox); have GW132:=bz HB hg; have GE132:=bz HB hg; replace HB:=bs HB hb; clear hb hbox hg; obtain ⟨_,_,_,_,_,_,_,_,_,_,_,_,_,_,_,_,_,_,_,_,_,_⟩:=kc11 BK132))
 go_loopg [8] k (fun kq v8 w' => ∃ (x8_1 : Int),v8 = .int .i64 x8_1 /\ Zz (op_gone.l0 kq l0_7 (l0_7.length : Int) x8_1 a0_0 a0_1 a0_2 a0_3 a0_4 a0_5 a0_6 l0_7 a0_8 a0_9 a0_10 = some r) /\ Zz (kq <= k) /\ Zz (w'.heap[gb132]? = some (.cells #[.int .i64 a0_0, .int .i64 a0_1, .int .i64 a0_2, .int .i64 a0_3, .int .i64 a0_4, .int .i64 a0_5, .string a0_6,(.slice A0_7 l0_7.length c0_7), .int .i64 a0_8, .int .i64 a0_9, .int .i64 a0_10] 34 (0,0))) /\ Zz (Below w.heap.size w w'))
 case atStart => exact ⟨(0),rf,H',⟨Nat.le_refl _⟩,⟨kk BK132⟩,⟨bw HB⟩⟩
 case round =>
  clear H'
  obtain ⟨x8_1,rfl,HA,HK1,BK132,HB⟩:=hrel
  cases gk with
  | zero => exact absurd HA.out (by simp [op_gone.l0])
  | succ k1 =>
   have H:=HA.out
   clear HA
   simp only [op_gone.l0] at H
   by_cases c4 : x8_1 < (l0_7.length : Int); rotate_left
   ·rw [if_neg c4] at H
    have c4b0:=Ze c4
    clear c4
    obtain rfl:=Zo H
    obtain ⟨_,_,_,_,_,_,_,_,_,_,_,_,_,_,_,_,_,_,_,_,_,_⟩:=kc11 BK132
    go_wp2
    go_ret
    exact ⟨re,bw HB⟩
   rw [if_pos c4] at H
   have c4b0:=Zd c4
   clear c4
   by_cases c5 : 0 <= x8_1; rotate_left
   ·rw [if_neg c5] at H
    exact absurd H (by simp)
   rw [if_pos c5] at H
   have c5b0:=Zd c5
   clear c5
   by_cases c6 : x8_1 < (l0_7.length : Int); rotate_left
   ·rw [if_neg c6] at H
    exact absurd H (by simp)
   rw [if_pos c6] at H
   have c6b0:=Zd c6
   clear c6
   by_cases c7 : (((Qaa l0_7 x8_1).f0) == 0 && (((Qaa l0_7 x8_1).f1) == 0 && (((Qaa l0_7 x8_1).f2) == 0))) = true
   ·rw [if_pos c7] at H
    have c7b0 : (((Qaa l0_7 x8_1).f0) == 0 && (((Qaa l0_7 x8_1).f1) == 0 && (((Qaa l0_7 x8_1).f2) == 0))) = true:=c7
    (try (have c7b1 : decide (((Qaa l0_7 x8_1).f0) = 0 && (((Qaa l0_7 x8_1).f1) == 0 && (((Qaa l0_7 x8_1).f2) == 0))) = true:=by simpa using c7))
    (try (have c7b2 : (((Qaa l0_7 x8_1).f0) == 0 && (((Qaa l0_7 x8_1).f1) == 0 && (((Qaa l0_7 x8_1).f2) == 0))) = true:=by simpa using c7))
    clear c7
    obtain rfl:=Zo H
    have p133 : 0 <= (x8_1 : Int):=od
    have q133 : x8_1 < (l0_7.length : Int):=od
    obtain ⟨ad133,e133,hx133_0,hx133_1,hx133_2⟩:=Qbd HR0_7.out x8_1 p133 q133
    cases e133
    replace hx133_0:=cl HB hx133_0
    replace hx133_1:=cl HB hx133_1
    replace hx133_2:=cl HB hx133_2
    replace p133:=eq_true p133
    replace q133:=eq_true q133
    try go_wp2_with (first | ((with_reducible refine Qaf (N:=4) rfl ?_); refine bx 4 #[.int .i64 0, .int .i64 0, .int .i64 0] 32 (h := ?_); intro gb134 hg w8 hbox hb; have BK134:=Zz.k (hbox); have GW134:=bz HB hg; have GE134:=bz HB hg; have NB132_134:=bn BK132 hg; have NB134_132:=bm BK132 hg; replace BK132:=bl BK132 hb; replace HB:=bs HB hb; clear hb hbox hg; have hnb9:=NB134_132.out; have hnc9:=NB132_134.out; obtain ⟨_,_,_,_,_,_⟩:=kc3 BK134))
    generalize hgz : (((w8.setCell ⟨gb134,0,none⟩ (.int .i64 ((Qaa l0_7 x8_1).f0))).setCell ⟨gb134,1,none⟩ (.int .i64 ((Qaa l0_7 x8_1).f1))).setCell ⟨gb134,2,none⟩ (.int .i64 ((Qaa l0_7 x8_1).f2))) = w11
    have n0_ : Zz (w11.heap[gb132]? = some (.cells #[.int .i64 a0_0, .int .i64 a0_1, .int .i64 a0_2, .int .i64 a0_3, .int .i64 a0_4, .int .i64 a0_5, .string a0_6, .slice (some ad133) l0_7.length c0_7, .int .i64 a0_8, .int .i64 a0_9, .int .i64 a0_10] 34 (0,0))):=by rw [<- hgz]; exact ⟨kk BK132⟩
    have n1_ : Zz (w11.heap[gb134]? = some (.cells #[.int .i64 ((Qaa l0_7 x8_1).f0), .int .i64 ((Qaa l0_7 x8_1).f1), .int .i64 ((Qaa l0_7 x8_1).f2)] 32 (0,0))):=by rw [<- hgz]; exact ⟨bp (bp (bp (kk BK134) 0) 1) 2⟩
    have n2_ : Zz (Below w.heap.size w w11):=by rw [<- hgz]; exact ⟨bw HB⟩
    (try clear BK132)
    (try clear BK134)
    (try clear HB)
    clear hgz
    have BK132:=n0_
    have BK134:=n1_
    have HB:=n2_
    clear n0_ n1_ n2_
    have n0_:=Zz.k (Qao BK132.out)
    have n1_:=Zz.k (Qao BK134.out)
    have n2_:=Zz.k (Qae HB.out)
    clear BK132
    clear BK134
    clear HB
    have BK132:=n0_
    have BK134:=n1_
    have HB:=n2_
    clear n0_ n1_ n2_
    refine stP (fun w' => E3 w' gb134 (.int .i64 ((Qaa l0_7 x8_1).f0)) (.int .i64 ((Qaa l0_7 x8_1).f1)) (.int .i64 ((Qaa l0_7 x8_1).f2))) 28 (e3 BK134) (h:=fun hHeld => ?_); refine Qaw op_gone.tab4 op_gone.bits4 (fun HT_ HW_ => ?_)
    generalize w11.drew = w12 at BK132 BK134 HB hHeld ⊢
    refine pu HT_ 1 14 2 (h := ?_)
    refine tk HT_ HW_ hHeld 0 13 3 (h := ?_)
    refine pu HT_ 2 15 7 (h := ?_)
    refine pu HT_ 3 16 15 (h := ?_)
    refine off HT_ 4 17 31 (h := ?_)
    refine off HT_ 5 18 63 (h := ?_)
    refine off HT_ 6 19 127 (h := ?_)
    refine pu HT_ 7 20 255 (h := ?_)
    refine pu HT_ 8 21 511 (h := ?_)
    refine off HT_ 9 22 1023 (h := ?_)
    refine off HT_ 10 23 2047 (h := ?_)
    refine off HT_ 11 24 4095 (h := ?_)
    refine pu HT_ 12 25 8191 (h := ?_)
    refine pu HT_ 13 26 16383 (h := ?_)
    refine off HT_ 14 27 32767 (h := ?_)
    refine off HT_ 15 28 65535 (h := ?_)
    refine off HT_ 16 29 131071 (h := ?_)
    refine off HT_ 17 30 262143 (h := ?_)
    refine off HT_ 18 31 524287 (h := ?_)
    refine off HT_ 19 32 1048575 (h := ?_)
    refine off HT_ 20 33 2097151 (h := ?_)
    refine off HT_ 21 34 4194303 (h := ?_)
    refine off HT_ 22 35 8388607 (h := ?_)
    refine off HT_ 23 36 16777215 (h := ?_)
    refine off HT_ 24 37 33554431 (h := ?_)
    refine off HT_ 25 38 67108863 (h := ?_)
    refine off HT_ 26 39 134217727 (h := ?_)
    refine pu HT_ 27 40 268435455 (h := ?_)
    refine dn HT_ (h := ?_)
    try go_wp2
    go_ret
    exact ⟨re,bw HB⟩
   rw [if_neg c7] at H
   have c7b0 : (((Qaa l0_7 x8_1).f0) == 0 && (((Qaa l0_7 x8_1).f1) == 0 && (((Qaa l0_7 x8_1).f2) == 0))) = false:=by simpa using c7
   (try (have c7b1 : decide (((Qaa l0_7 x8_1).f0) = 0 && (((Qaa l0_7 x8_1).f1) == 0 && (((Qaa l0_7 x8_1).f2) == 0))) = false:=by simpa using c7))
   (try (have c7b2 : (((Qaa l0_7 x8_1).f0) == 0 && (((Qaa l0_7 x8_1).f1) == 0 && (((Qaa l0_7 x8_1).f2) == 0))) = false:=by simpa using c7))
   (try (have c7b3 : ¬ (((Qaa l0_7 x8_1).f0) = 0 && (((Qaa l0_7 x8_1).f1) == 0 && (((Qaa l0_7 x8_1).f2) == 0))):=by simpa using c7))
   clear c7
   obtain ⟨t135,A13,H⟩:=bE H
   by_cases c14 : t135 = true; rotate_left
   ·replace c14:=Zf c14
    subst c14
    rw [if_neg nft] at H
    obtain rfl:=Zo H
    have p133 : 0 <= (x8_1 : Int):=od
    have q133 : x8_1 < (l0_7.length : Int):=od
    obtain ⟨ad133,e133,hx133_0,hx133_1,hx133_2⟩:=Qbd HR0_7.out x8_1 p133 q133
    cases e133
    replace hx133_0:=cl HB hx133_0
    replace hx133_1:=cl HB hx133_1
    replace hx133_2:=cl HB hx133_2
    replace p133:=eq_true p133
    replace q133:=eq_true q133
    try go_wp2_with (first | ((with_reducible refine Qaf (N:=4) rfl ?_); refine bx 4 #[.int .i64 0, .int .i64 0, .int .i64 0] 32 (h := ?_); intro gb134 hg w53 hbox hb; have BK134:=Zz.k (hbox); have GW134:=bz HB hg; have GE134:=bz HB hg; have NB132_134:=bn BK132 hg; have NB134_132:=bm BK132 hg; replace BK132:=bl BK132 hb; replace HB:=bs HB hb; clear hb hbox hg; have hnb54:=NB134_132.out; have hnc54:=NB132_134.out; obtain ⟨_,_,_,_,_,_⟩:=kc3 BK134))
    generalize hgz : (((w53.setCell ⟨gb134,0,none⟩ (.int .i64 ((Qaa l0_7 x8_1).f0))).setCell ⟨gb134,1,none⟩ (.int .i64 ((Qaa l0_7 x8_1).f1))).setCell ⟨gb134,2,none⟩ (.int .i64 ((Qaa l0_7 x8_1).f2))) = w56
    have n0_ : Zz (w56.heap[gb132]? = some (.cells #[.int .i64 a0_0, .int .i64 a0_1, .int .i64 a0_2, .int .i64 a0_3, .int .i64 a0_4, .int .i64 a0_5, .string a0_6, .slice (some ad133) l0_7.length c0_7, .int .i64 a0_8, .int .i64 a0_9, .int .i64 a0_10] 34 (0,0))):=by rw [<- hgz]; exact ⟨kk BK132⟩
    have n1_ : Zz (w56.heap[gb134]? = some (.cells #[.int .i64 ((Qaa l0_7 x8_1).f0), .int .i64 ((Qaa l0_7 x8_1).f1), .int .i64 ((Qaa l0_7 x8_1).f2)] 32 (0,0))):=by rw [<- hgz]; exact ⟨bp (bp (bp (kk BK134) 0) 1) 2⟩
    have n2_ : Zz (Below w.heap.size w w56):=by rw [<- hgz]; exact ⟨bw HB⟩
    (try clear BK132)
    (try clear BK134)
    (try clear HB)
    clear hgz
    have BK132:=n0_
    have BK134:=n1_
    have HB:=n2_
    clear n0_ n1_ n2_
    have n0_:=Zz.k (Qao BK132.out)
    have n1_:=Zz.k (Qao BK134.out)
    have n2_:=Zz.k (Qae HB.out)
    clear BK132
    clear BK134
    clear HB
    have BK132:=n0_
    have BK134:=n1_
    have HB:=n2_
    clear n0_ n1_ n2_
    refine stP (fun w' => E3 w' gb134 (.int .i64 ((Qaa l0_7 x8_1).f0)) (.int .i64 ((Qaa l0_7 x8_1).f1)) (.int .i64 ((Qaa l0_7 x8_1).f2))) 28 (e3 BK134) (h:=fun hHeld => ?_); refine Qaw op_gone.tab4 op_gone.bits4 (fun HT_ HW_ => ?_)
    generalize w56.drew = w57 at BK132 BK134 HB hHeld ⊢
    refine pu HT_ 1 14 2 (h := ?_)
    refine tk HT_ HW_ hHeld 0 13 3 (h := ?_)
    refine pu HT_ 2 15 7 (h := ?_)
    refine pu HT_ 3 16 15 (h := ?_)
    refine tk HT_ HW_ hHeld 4 17 31 (h := ?_)
    refine on HT_ 5 (some 18) 63 (h:=fun K hK => ?_)
    refine gS Tryz.func139 #[.agg #[.int .i64 ((Qaa l0_7 x8_1).f0), .int .i64 ((Qaa l0_7 x8_1).f1), .int .i64 ((Qaa l0_7 x8_1).f2)]] (h := ?_)
    with_reducible refine (op_IsElem.calls ((Qaa l0_7 x8_1).f0) ((Qaa l0_7 x8_1).f1) ((Qaa l0_7 x8_1).f2) false _ A13.out).mono ?_
    rintro e w58 ⟨rfl,hb⟩
    refine ⟨_,rfl, ?_⟩
    have n0_:=bl BK132 hb
    have n1_:=bl BK134 hb
    have n2_:=bs HB hb
    clear BK132
    clear BK134
    clear HB
    have BK132:=n0_
    have BK134:=n1_
    have HB:=n2_
    clear n0_ n1_ n2_
    (try clear hb)
    (try clear hb2)
    (try clear hk)
    (try clear hi)
    refine hK.out _ _ (e3 BK134) (fun hHeld => ?_)
    clear hK K
    refine nn 18 (h := ?_)
    refine pu HT_ 6 19 127 (h := ?_)
    refine pu HT_ 7 20 255 (h := ?_)
    refine pu HT_ 8 21 511 (h := ?_)
    refine off HT_ 9 22 1023 (h := ?_)
    refine off HT_ 10 23 2047 (h := ?_)
    refine off HT_ 11 24 4095 (h := ?_)
    refine pu HT_ 12 25 8191 (h := ?_)
    refine pu HT_ 13 26 16383 (h := ?_)
    refine off HT_ 14 27 32767 (h := ?_)
    refine off HT_ 15 28 65535 (h := ?_)
    refine off HT_ 16 29 131071 (h := ?_)
    refine off HT_ 17 30 262143 (h := ?_)
    refine off HT_ 18 31 524287 (h := ?_)
    refine off HT_ 19 32 1048575 (h := ?_)
    refine off HT_ 20 33 2097151 (h := ?_)
    refine off HT_ 21 34 4194303 (h := ?_)
    refine off HT_ 22 35 8388607 (h := ?_)
    refine off HT_ 23 36 16777215 (h := ?_)
    refine off HT_ 24 37 33554431 (h := ?_)
    refine off HT_ 25 38 67108863 (h := ?_)
    refine off HT_ 26 39 134217727 (h := ?_)
    refine pu HT_ 27 40 268435455 (h := ?_)
    refine dn HT_ (h := ?_)
    try go_wp2
    go_ret
    exact ⟨re,bw HB⟩
   subst c14
   rw [if_pos rfl] at H
   obtain ⟨t136,A15,H⟩:=bE H
   by_cases c16 : t136 = true
   ·subst c16
    rw [if_pos rfl] at H
    obtain rfl:=Zo H
    have p133 : 0 <= (x8_1 : Int):=od
    have q133 : x8_1 < (l0_7.length : Int):=od
    obtain ⟨ad133,e133,hx133_0,hx133_1,hx133_2⟩:=Qbd HR0_7.out x8_1 p133 q133
    cases e133
    replace hx133_0:=cl HB hx133_0
    replace hx133_1:=cl HB hx133_1
    replace hx133_2:=cl HB hx133_2
    replace p133:=eq_true p133
    replace q133:=eq_true q133
    try go_wp2_with (first | ((with_reducible refine Qaf (N:=4) rfl ?_); refine bx 4 #[.int .i64 0, .int .i64 0, .int .i64 0] 32 (h := ?_); intro gb134 hg w17 hbox hb; have BK134:=Zz.k (hbox); have GW134:=bz HB hg; have GE134:=bz HB hg; have NB132_134:=bn BK132 hg; have NB134_132:=bm BK132 hg; replace BK132:=bl BK132 hb; replace HB:=bs HB hb; clear hb hbox hg; have hnb18:=NB134_132.out; have hnc18:=NB132_134.out; obtain ⟨_,_,_,_,_,_⟩:=kc3 BK134))
    generalize hgz : (((w17.setCell ⟨gb134,0,none⟩ (.int .i64 ((Qaa l0_7 x8_1).f0))).setCell ⟨gb134,1,none⟩ (.int .i64 ((Qaa l0_7 x8_1).f1))).setCell ⟨gb134,2,none⟩ (.int .i64 ((Qaa l0_7 x8_1).f2))) = w20
    have n0_ : Zz (w20.heap[gb132]? = some (.cells #[.int .i64 a0_0, .int .i64 a0_1, .int .i64 a0_2, .int .i64 a0_3, .int .i64 a0_4, .int .i64 a0_5, .string a0_6, .slice (some ad133) l0_7.length c0_7, .int .i64 a0_8, .int .i64 a0_9, .int .i64 a0_10] 34 (0,0))):=by rw [<- hgz]; exact ⟨kk BK132⟩
    have n1_ : Zz (w20.heap[gb134]? = some (.cells #[.int .i64 ((Qaa l0_7 x8_1).f0), .int .i64 ((Qaa l0_7 x8_1).f1), .int .i64 ((Qaa l0_7 x8_1).f2)] 32 (0,0))):=by rw [<- hgz]; exact ⟨bp (bp (bp (kk BK134) 0) 1) 2⟩
    have n2_ : Zz (Below w.heap.size w w20):=by rw [<- hgz]; exact ⟨bw HB⟩
    (try clear BK132)
    (try clear BK134)
    (try clear HB)
    clear hgz
    have BK132:=n0_
    have BK134:=n1_
    have HB:=n2_
    clear n0_ n1_ n2_
    have n0_:=Zz.k (Qao BK132.out)
    have n1_:=Zz.k (Qao BK134.out)
    have n2_:=Zz.k (Qae HB.out)
    clear BK132
    clear BK134
    clear HB
    have BK132:=n0_
    have BK134:=n1_
    have HB:=n2_
    clear n0_ n1_ n2_
    refine stP (fun w' => B3 w' gb134 (.int .i64 ((Qaa l0_7 x8_1).f0)) (.int .i64 ((Qaa l0_7 x8_1).f1)) (.int .i64 ((Qaa l0_7 x8_1).f2)) (E11 w' gb132 (.int .i64 a0_0) (.int .i64 a0_1) (.int .i64 a0_2) (.int .i64 a0_3) (.int .i64 a0_4) (.int .i64 a0_5) (.string a0_6) (.slice (some ad133) l0_7.length c0_7) (.int .i64 a0_8) (.int .i64 a0_9) (.int .i64 a0_10))) 28 (b3 BK134 (e11 BK132)) (h:=fun hHeld => ?_); refine Qaw op_gone.tab4 op_gone.bits4 (fun HT_ HW_ => ?_)
    generalize w20.drew = w21 at BK132 BK134 HB hHeld ⊢
    refine pu HT_ 1 14 2 (h := ?_)
    refine tk HT_ HW_ hHeld 0 13 3 (h := ?_)
    refine pu HT_ 2 15 7 (h := ?_)
    refine pu HT_ 3 16 15 (h := ?_)
    refine tk HT_ HW_ hHeld 4 17 31 (h := ?_)
    refine on HT_ 5 (some 18) 63 (h:=fun K hK => ?_)
    refine gS Tryz.func139 #[.agg #[.int .i64 ((Qaa l0_7 x8_1).f0), .int .i64 ((Qaa l0_7 x8_1).f1), .int .i64 ((Qaa l0_7 x8_1).f2)]] (h := ?_)
    with_reducible refine (op_IsElem.calls ((Qaa l0_7 x8_1).f0) ((Qaa l0_7 x8_1).f1) ((Qaa l0_7 x8_1).f2) true _ A13.out).mono ?_
    rintro e w22 ⟨rfl,hb⟩
    refine ⟨_,rfl, ?_⟩
    have n0_:=bl BK132 hb
    have n1_:=bl BK134 hb
    have n2_:=bs HB hb
    clear BK132
    clear BK134
    clear HB
    have BK132:=n0_
    have BK134:=n1_
    have HB:=n2_
    clear n0_ n1_ n2_
    (try clear hb)
    (try clear hb2)
    (try clear hk)
    (try clear hi)
    refine hK.out _ _ (b3 BK134 (e11 BK132)) (fun hHeld => ?_)
    clear hK K
    refine nn 18 (h := ?_)
    refine pu HT_ 6 19 127 (h := ?_)
    refine pu HT_ 7 20 255 (h := ?_)
    refine pu HT_ 8 21 511 (h := ?_)
    refine tk HT_ HW_ hHeld 9 22 1023 (h := ?_)
    refine tk HT_ HW_ hHeld 10 23 2047 (h := ?_)
    refine on HT_ 11 (some 24) 4095 (h:=fun K hK => ?_)
    refine gS Tryz.func140 #[.agg #[.int .i64 a0_0, .int .i64 a0_1, .int .i64 a0_2, .int .i64 a0_3, .int .i64 a0_4, .int .i64 a0_5, .string a0_6, .slice (some ad133) l0_7.length c0_7, .int .i64 a0_8, .int .i64 a0_9, .int .i64 a0_10], .agg #[.int .i64 ((Qaa l0_7 x8_1).f0), .int .i64 ((Qaa l0_7 x8_1).f1), .int .i64 ((Qaa l0_7 x8_1).f2)]] (h := ?_)
    with_reducible refine (op_own.calls a0_0 a0_1 a0_2 a0_3 a0_4 a0_5 a0_6 _ _ l0_7 a0_8 a0_9 a0_10 ((Qaa l0_7 x8_1).f0) ((Qaa l0_7 x8_1).f1) ((Qaa l0_7 x8_1).f2) true _ ?side1 ?side2 A15.out).mono ?_
    (case side1 => exact cb HR0_7 HB)
    (case side2 => exact HC0_7.out)
    rintro e w23 ⟨rfl,hb⟩
    refine ⟨_,rfl, ?_⟩
    have n0_:=bl BK132 hb
    have n1_:=bl BK134 hb
    have n2_:=bs HB hb
    clear BK132
    clear BK134
    clear HB
    have BK132:=n0_
    have BK134:=n1_
    have HB:=n2_
    clear n0_ n1_ n2_
    (try clear hb)
    (try clear hb2)
    (try clear hk)
    (try clear hi)
    refine hK.out _ _ (b3 BK134 (e11 BK132)) (fun hHeld => ?_)
    clear hK K
    refine nn 24 (h := ?_)
    refine pu HT_ 12 25 8191 (h := ?_)
    refine pu HT_ 13 26 16383 (h := ?_)
    refine off HT_ 14 27 32767 (h := ?_)
    refine off HT_ 15 28 65535 (h := ?_)
    refine off HT_ 16 29 131071 (h := ?_)
    refine off HT_ 17 30 262143 (h := ?_)
    refine off HT_ 18 31 524287 (h := ?_)
    refine off HT_ 19 32 1048575 (h := ?_)
    refine off HT_ 20 33 2097151 (h := ?_)
    refine off HT_ 21 34 4194303 (h := ?_)
    refine off HT_ 22 35 8388607 (h := ?_)
    refine off HT_ 23 36 16777215 (h := ?_)
    refine off HT_ 24 37 33554431 (h := ?_)
    refine off HT_ 25 38 67108863 (h := ?_)
    refine off HT_ 26 39 134217727 (h := ?_)
    refine pu HT_ 27 40 268435455 (h := ?_)
    refine dn HT_ (h := ?_)
    try go_wp2
    go_ret
    exact ⟨re,bw HB⟩
   replace c16:=Zf c16
   subst c16
   rw [if_neg nft] at H
   by_cases c24 : x8_1 > 0; rotate_left
   ·rw [if_neg c24] at H
    have c24b0:=Ze c24
    clear c24
    have H':=Zz.k H
    clear H
    have p133 : 0 <= (x8_1 : Int):=od
    have q133 : x8_1 < (l0_7.length : Int):=od
    obtain ⟨ad133,e133,hx133_0,hx133_1,hx133_2⟩:=Qbd HR0_7.out x8_1 p133 q133
    cases e133
    replace hx133_0:=cl HB hx133_0
    replace hx133_1:=cl HB hx133_1
    replace hx133_2:=cl HB hx133_2
    replace p133:=eq_true p133
    replace q133:=eq_true q133
    try go_wp2_with (first | ((with_reducible refine Qaf (N:=4) rfl ?_); refine bx 4 #[.int .i64 0, .int .i64 0, .int .i64 0] 32 (h := ?_); intro gb134 hg w46 hbox hb; have BK134:=Zz.k (hbox); have GW134:=bz HB hg; have GE134:=bz HB hg; have NB132_134:=bn BK132 hg; have NB134_132:=bm BK132 hg; replace BK132:=bl BK132 hb; replace HB:=bs HB hb; clear hb hbox hg; have hnb47:=NB134_132.out; have hnc47:=NB132_134.out; obtain ⟨_,_,_,_,_,_⟩:=kc3 BK134))
    generalize hgz : (((w46.setCell ⟨gb134,0,none⟩ (.int .i64 ((Qaa l0_7 x8_1).f0))).setCell ⟨gb134,1,none⟩ (.int .i64 ((Qaa l0_7 x8_1).f1))).setCell ⟨gb134,2,none⟩ (.int .i64 ((Qaa l0_7 x8_1).f2))) = w49
    have n0_ : Zz (w49.heap[gb132]? = some (.cells #[.int .i64 a0_0, .int .i64 a0_1, .int .i64 a0_2, .int .i64 a0_3, .int .i64 a0_4, .int .i64 a0_5, .string a0_6, .slice (some ad133) l0_7.length c0_7, .int .i64 a0_8, .int .i64 a0_9, .int .i64 a0_10] 34 (0,0))):=by rw [<- hgz]; exact ⟨kk BK132⟩
    have n1_ : Zz (w49.heap[gb134]? = some (.cells #[.int .i64 ((Qaa l0_7 x8_1).f0), .int .i64 ((Qaa l0_7 x8_1).f1), .int .i64 ((Qaa l0_7 x8_1).f2)] 32 (0,0))):=by rw [<- hgz]; exact ⟨bp (bp (bp (kk BK134) 0) 1) 2⟩
    have n2_ : Zz (Below w.heap.size w w49):=by rw [<- hgz]; exact ⟨bw HB⟩
    (try clear BK132)
    (try clear BK134)
    (try clear HB)
    clear hgz
    have BK132:=n0_
    have BK134:=n1_
    have HB:=n2_
    clear n0_ n1_ n2_
    have n0_:=Zz.k (Qao BK132.out)
    have n1_:=Zz.k (Qao BK134.out)
    have n2_:=Zz.k (Qae HB.out)
    clear BK132
    clear BK134
    clear HB
    have BK132:=n0_
    have BK134:=n1_
    have HB:=n2_
    clear n0_ n1_ n2_
    refine stP (fun w' => B3 w' gb134 (.int .i64 ((Qaa l0_7 x8_1).f0)) (.int .i64 ((Qaa l0_7 x8_1).f1)) (.int .i64 ((Qaa l0_7 x8_1).f2)) (E11 w' gb132 (.int .i64 a0_0) (.int .i64 a0_1) (.int .i64 a0_2) (.int .i64 a0_3) (.int .i64 a0_4) (.int .i64 a0_5) (.string a0_6) (.slice (some ad133) l0_7.length c0_7) (.int .i64 a0_8) (.int .i64 a0_9) (.int .i64 a0_10))) 28 (b3 BK134 (e11 BK132)) (h:=fun hHeld => ?_); refine Qaw op_gone.tab4 op_gone.bits4 (fun HT_ HW_ => ?_)
    generalize w49.drew = w50 at BK132 BK134 HB hHeld ⊢
    refine pu HT_ 1 14 2 (h := ?_)
    refine tk HT_ HW_ hHeld 0 13 3 (h := ?_)
    refine pu HT_ 2 15 7 (h := ?_)
    refine pu HT_ 3 16 15 (h := ?_)
    refine tk HT_ HW_ hHeld 4 17 31 (h := ?_)
    refine on HT_ 5 (some 18) 63 (h:=fun K hK => ?_)
    refine gS Tryz.func139 #[.agg #[.int .i64 ((Qaa l0_7 x8_1).f0), .int .i64 ((Qaa l0_7 x8_1).f1), .int .i64 ((Qaa l0_7 x8_1).f2)]] (h := ?_)
    with_reducible refine (op_IsElem.calls ((Qaa l0_7 x8_1).f0) ((Qaa l0_7 x8_1).f1) ((Qaa l0_7 x8_1).f2) true _ A13.out).mono ?_
    rintro e w51 ⟨rfl,hb⟩
    refine ⟨_,rfl, ?_⟩
    have n0_:=bl BK132 hb
    have n1_:=bl BK134 hb
    have n2_:=bs HB hb
    clear BK132
    clear BK134
    clear HB
    have BK132:=n0_
    have BK134:=n1_
    have HB:=n2_
    clear n0_ n1_ n2_
    (try clear hb)
    (try clear hb2)
    (try clear hk)
    (try clear hi)
    refine hK.out _ _ (b3 BK134 (e11 BK132)) (fun hHeld => ?_)
    clear hK K
    refine nn 18 (h := ?_)
    refine pu HT_ 6 19 127 (h := ?_)
    refine pu HT_ 7 20 255 (h := ?_)
    refine pu HT_ 8 21 511 (h := ?_)
    refine tk HT_ HW_ hHeld 9 22 1023 (h := ?_)
    refine tk HT_ HW_ hHeld 10 23 2047 (h := ?_)
    refine on HT_ 11 (some 24) 4095 (h:=fun K hK => ?_)
    refine gS Tryz.func140 #[.agg #[.int .i64 a0_0, .int .i64 a0_1, .int .i64 a0_2, .int .i64 a0_3, .int .i64 a0_4, .int .i64 a0_5, .string a0_6, .slice (some ad133) l0_7.length c0_7, .int .i64 a0_8, .int .i64 a0_9, .int .i64 a0_10], .agg #[.int .i64 ((Qaa l0_7 x8_1).f0), .int .i64 ((Qaa l0_7 x8_1).f1), .int .i64 ((Qaa l0_7 x8_1).f2)]] (h := ?_)
    with_reducible refine (op_own.calls a0_0 a0_1 a0_2 a0_3 a0_4 a0_5 a0_6 _ _ l0_7 a0_8 a0_9 a0_10 ((Qaa l0_7 x8_1).f0) ((Qaa l0_7 x8_1).f1) ((Qaa l0_7 x8_1).f2) false _ ?side1 ?side2 A15.out).mono ?_
    (case side1 => exact cb HR0_7 HB)
    (case side2 => exact HC0_7.out)
    rintro e w52 ⟨rfl,hb⟩
    refine ⟨_,rfl, ?_⟩
    have n0_:=bl BK132 hb
    have n1_:=bl BK134 hb
    have n2_:=bs HB hb
    clear BK132
    clear BK134
    clear HB
    have BK132:=n0_
    have BK134:=n1_
    have HB:=n2_
    clear n0_ n1_ n2_
    (try clear hb)
    (try clear hb2)
    (try clear hk)
    (try clear hi)
    refine hK.out _ _ (b3 BK134 (e11 BK132)) (fun hHeld => ?_)
    clear hK K
    refine nn 24 (h := ?_)
    refine pu HT_ 12 25 8191 (h := ?_)
    refine pu HT_ 13 26 16383 (h := ?_)
    refine pu HT_ 14 27 32767 (h := ?_)
    refine pu HT_ 15 28 65535 (h := ?_)
    refine pu HT_ 16 29 131071 (h := ?_)
    refine off HT_ 17 30 262143 (h := ?_)
    refine off HT_ 18 31 524287 (h := ?_)
    refine off HT_ 19 32 1048575 (h := ?_)
    refine off HT_ 20 33 2097151 (h := ?_)
    refine off HT_ 21 34 4194303 (h := ?_)
    refine off HT_ 22 35 8388607 (h := ?_)
    refine off HT_ 23 36 16777215 (h := ?_)
    refine off HT_ 24 37 33554431 (h := ?_)
    refine off HT_ 25 38 67108863 (h := ?_)
    refine pu HT_ 26 39 134217727 (h := ?_)
    refine pu HT_ 27 40 268435455 (h := ?_)
    refine dn HT_ (h := ?_)
    try go_wp2
    go_roundg k1
    case measure => have:=HK1.out; omega
    case rel => exact ⟨(wrap64 (x8_1 + 1)),rf,H',⟨by have:=HK1.out; omega⟩,⟨kk BK132⟩,⟨bw HB⟩⟩
   rw [if_pos c24] at H
   have c24b0:=Zd c24
   clear c24
   obtain ⟨ji25,hji25⟩ : ∃ j_ : Int,(wrap64 (x8_1 - 1)) = j_:=⟨_,rfl⟩
   replace H : (if 0 <= (ji25) then (if (ji25) < (l0_7.length : Int) then ((op_Less.f k1 ((Qaa l0_7 (ji25)).f0) ((Qaa l0_7 (ji25)).f1) ((Qaa l0_7 (ji25)).f2) ((Qaa l0_7 x8_1).f0) ((Qaa l0_7 x8_1).f1) ((Qaa l0_7 x8_1).f2)).bind fun t138 => (if t138 = true then (op_gone.l0 k1 l0_7 (l0_7.length : Int) (wrap64 (x8_1 + 1)) a0_0 a0_1 a0_2 a0_3 a0_4 a0_5 a0_6 l0_7 a0_8 a0_9 a0_10) else (some false))) else (none)) else (none)) = some r:=by first | (rw [hji25] at H; exact H) | (simp only [hji25] at H ⊢; exact H)
   (try rw [hji25] at A13)
   (try rw [hji25] at A15)
   have hji25w : (IntKind.i64.wrap (x8_1 - 1)) = ji25:=(Qbe _).trans hji25
   by_cases c26 : 0 <= (ji25); rotate_left
   ·rw [if_neg c26] at H
    exact absurd H (by simp)
   rw [if_pos c26] at H
   have c26b0:=Zd c26
   clear c26
   by_cases c27 : (ji25) < (l0_7.length : Int); rotate_left
   ·rw [if_neg c27] at H
    exact absurd H (by simp)
   rw [if_pos c27] at H
   have c27b0:=Zd c27
   clear c27
   obtain ⟨t138,A28,H⟩:=bE H
   by_cases c29 : t138 = true
   ·subst c29
    rw [if_pos rfl] at H
    have H':=Zz.k H
    clear H
    have p133 : 0 <= (x8_1 : Int):=od
    have q133 : x8_1 < (l0_7.length : Int):=od
    obtain ⟨ad133,e133,hx133_0,hx133_1,hx133_2⟩:=Qbd HR0_7.out x8_1 p133 q133
    cases e133
    replace hx133_0:=cl HB hx133_0
    replace hx133_1:=cl HB hx133_1
    replace hx133_2:=cl HB hx133_2
    replace p133:=eq_true p133
    replace q133:=eq_true q133
    try go_wp2_with (first | ((with_reducible refine Qaf (N:=4) rfl ?_); refine bx 4 #[.int .i64 0, .int .i64 0, .int .i64 0] 32 (h := ?_); intro gb134 hg w30 hbox hb; have BK134:=Zz.k (hbox); have GW134:=bz HB hg; have GE134:=bz HB hg; have NB132_134:=bn BK132 hg; have NB134_132:=bm BK132 hg; replace BK132:=bl BK132 hb; replace HB:=bs HB hb; clear hb hbox hg; have hnb31:=NB134_132.out; have hnc31:=NB132_134.out; obtain ⟨_,_,_,_,_,_⟩:=kc3 BK134))
    generalize hgz : (((w30.setCell ⟨gb134,0,none⟩ (.int .i64 ((Qaa l0_7 x8_1).f0))).setCell ⟨gb134,1,none⟩ (.int .i64 ((Qaa l0_7 x8_1).f1))).setCell ⟨gb134,2,none⟩ (.int .i64 ((Qaa l0_7 x8_1).f2))) = w33
    have n0_ : Zz (w33.heap[gb132]? = some (.cells #[.int .i64 a0_0, .int .i64 a0_1, .int .i64 a0_2, .int .i64 a0_3, .int .i64 a0_4, .int .i64 a0_5, .string a0_6, .slice (some ad133) l0_7.length c0_7, .int .i64 a0_8, .int .i64 a0_9, .int .i64 a0_10] 34 (0,0))):=by rw [<- hgz]; exact ⟨kk BK132⟩
    have n1_ : Zz (w33.heap[gb134]? = some (.cells #[.int .i64 ((Qaa l0_7 x8_1).f0), .int .i64 ((Qaa l0_7 x8_1).f1), .int .i64 ((Qaa l0_7 x8_1).f2)] 32 (0,0))):=by rw [<- hgz]; exact ⟨bp (bp (bp (kk BK134) 0) 1) 2⟩
    have n2_ : Zz (Below w.heap.size w w33):=by rw [<- hgz]; exact ⟨bw HB⟩
    (try clear BK132)
    (try clear BK134)
    (try clear HB)
    clear hgz
    have BK132:=n0_
    have BK134:=n1_
    have HB:=n2_
    clear n0_ n1_ n2_
    have n0_:=Zz.k (Qao BK132.out)
    have n1_:=Zz.k (Qao BK134.out)
    have n2_:=Zz.k (Qae HB.out)
    clear BK132
    clear BK134
    clear HB
    have BK132:=n0_
    have BK134:=n1_
    have HB:=n2_
    clear n0_ n1_ n2_
    have p137 : 0 <= ((ji25) : Int):=od
    have q137 : (ji25) < (l0_7.length : Int):=od
    obtain ⟨ad137,e137,hx137_0,hx137_1,hx137_2⟩:=Qbd HR0_7.out (ji25) p137 q137
    have hw137_2:=hx137_2
    have hw137_1:=hx137_1
    have hw137_0:=hx137_0
    obtain rfl : ad133 = ad137:=(by injection e137)
    replace hx137_0:=cl HB hx137_0
    replace hx137_1:=cl HB hx137_1
    replace hx137_2:=cl HB hx137_2
    replace p137:=eq_true p137
    replace q137:=eq_true q137
    refine stP (fun w' => B3 w' gb134 (.int .i64 ((Qaa l0_7 x8_1).f0)) (.int .i64 ((Qaa l0_7 x8_1).f1)) (.int .i64 ((Qaa l0_7 x8_1).f2)) (B11 w' gb132 (.int .i64 a0_0) (.int .i64 a0_1) (.int .i64 a0_2) (.int .i64 a0_3) (.int .i64 a0_4) (.int .i64 a0_5) (.string a0_6) (.slice (some ad133) l0_7.length c0_7) (.int .i64 a0_8) (.int .i64 a0_9) (.int .i64 a0_10) (w'.cell? (ad133.add (((ji25)).toNat * 3)) = some (.int .i64 ((Qaa l0_7 (ji25)).f0)) /\ w'.cell? ⟨(ad133.add (((ji25)).toNat * 3)).block,(ad133.add (((ji25)).toNat * 3)).off + 1,none⟩ = some (.int .i64 ((Qaa l0_7 (ji25)).f1)) /\ w'.cell? ⟨(ad133.add (((ji25)).toNat * 3)).block,(ad133.add (((ji25)).toNat * 3)).off + 2,none⟩ = some (.int .i64 ((Qaa l0_7 (ji25)).f2))))) 28 (b3 BK134 (b11 BK132 ⟨(cW HB hw137_0),(cW HB hw137_1),(cW HB hw137_2)⟩)) (h:=fun hHeld => ?_); refine Qaw op_gone.tab4 op_gone.bits4 (fun HT_ HW_ => ?_)
    generalize w33.drew = w34 at BK132 BK134 HB hx137_0 hx137_1 hx137_2 hHeld ⊢
    refine pu HT_ 1 14 2 (h := ?_)
    refine tk HT_ HW_ hHeld 0 13 3 (h := ?_)
    refine pu HT_ 2 15 7 (h := ?_)
    refine pu HT_ 3 16 15 (h := ?_)
    refine tk HT_ HW_ hHeld 4 17 31 (h := ?_)
    refine on HT_ 5 (some 18) 63 (h:=fun K hK => ?_)
    refine gS Tryz.func139 #[.agg #[.int .i64 ((Qaa l0_7 x8_1).f0), .int .i64 ((Qaa l0_7 x8_1).f1), .int .i64 ((Qaa l0_7 x8_1).f2)]] (h := ?_)
    with_reducible refine (op_IsElem.calls ((Qaa l0_7 x8_1).f0) ((Qaa l0_7 x8_1).f1) ((Qaa l0_7 x8_1).f2) true _ A13.out).mono ?_
    rintro e w35 ⟨rfl,hb⟩
    refine ⟨_,rfl, ?_⟩
    have n0_:=bl BK132 hb
    have n1_:=bl BK134 hb
    have n2_:=bs HB hb
    clear BK132
    clear BK134
    clear HB
    have BK132:=n0_
    have BK134:=n1_
    have HB:=n2_
    clear n0_ n1_ n2_
    (try clear hb)
    (try clear hb2)
    (try clear hk)
    (try clear hi)
    refine hK.out _ _ (b3 BK134 (b11 BK132 ⟨(cW HB hw137_0),(cW HB hw137_1),(cW HB hw137_2)⟩)) (fun hHeld => ?_)
    clear hK K
    refine nn 18 (h := ?_)
    refine pu HT_ 6 19 127 (h := ?_)
    refine pu HT_ 7 20 255 (h := ?_)
    refine pu HT_ 8 21 511 (h := ?_)
    refine tk HT_ HW_ hHeld 9 22 1023 (h := ?_)
    refine tk HT_ HW_ hHeld 10 23 2047 (h := ?_)
    refine on HT_ 11 (some 24) 4095 (h:=fun K hK => ?_)
    refine gS Tryz.func140 #[.agg #[.int .i64 a0_0, .int .i64 a0_1, .int .i64 a0_2, .int .i64 a0_3, .int .i64 a0_4, .int .i64 a0_5, .string a0_6, .slice (some ad133) l0_7.length c0_7, .int .i64 a0_8, .int .i64 a0_9, .int .i64 a0_10], .agg #[.int .i64 ((Qaa l0_7 x8_1).f0), .int .i64 ((Qaa l0_7 x8_1).f1), .int .i64 ((Qaa l0_7 x8_1).f2)]] (h := ?_)
    with_reducible refine (op_own.calls a0_0 a0_1 a0_2 a0_3 a0_4 a0_5 a0_6 _ _ l0_7 a0_8 a0_9 a0_10 ((Qaa l0_7 x8_1).f0) ((Qaa l0_7 x8_1).f1) ((Qaa l0_7 x8_1).f2) false _ ?side1 ?side2 A15.out).mono ?_
    (case side1 => exact cb HR0_7 HB)
    (case side2 => exact HC0_7.out)
    rintro e w36 ⟨rfl,hb⟩
    refine ⟨_,rfl, ?_⟩
    have n0_:=bl BK132 hb
    have n1_:=bl BK134 hb
    have n2_:=bs HB hb
    clear BK132
    clear BK134
    clear HB
    have BK132:=n0_
    have BK134:=n1_
    have HB:=n2_
    clear n0_ n1_ n2_
    (try clear hb)
    (try clear hb2)
    (try clear hk)
    (try clear hi)
    refine hK.out _ _ (b3 BK134 (b11 BK132 ⟨(cW HB hw137_0),(cW HB hw137_1),(cW HB hw137_2)⟩)) (fun hHeld => ?_)
    clear hK K
    refine nn 24 (h := ?_)
    refine pu HT_ 12 25 8191 (h := ?_)
    refine pu HT_ 13 26 16383 (h := ?_)
    refine pu HT_ 14 27 32767 (h := ?_)
    refine pu HT_ 15 28 65535 (h := ?_)
    refine pu HT_ 16 29 131071 (h := ?_)
    refine pu HT_ 17 30 262143 (h := ?_)
    refine pu HT_ 19 32 786431 (h := ?_)
    refine pu HT_ 20 33 1835007 (h := ?_)
    refine tk HT_ HW_ hHeld 18 31 2097151 (h := ?_)
    refine pu HT_ 21 34 4194303 (h := ?_)
    refine tk HT_ HW_ hHeld 22 35 8388607 (h := ?_)
    refine tk HT_ HW_ hHeld 23 36 16777215 (h := ?_)
    refine on HT_ 24 (some 37) 33554431 (h:=fun K hK => ?_)
    refine goes_ Tryz.func146 (by kernel_rfl) rfl #[.agg #[.int .i64 ((Qaa l0_7 (ji25)).f0), .int .i64 ((Qaa l0_7 (ji25)).f1), .int .i64 ((Qaa l0_7 (ji25)).f2)], .agg #[.int .i64 ((Qaa l0_7 x8_1).f0), .int .i64 ((Qaa l0_7 x8_1).f1), .int .i64 ((Qaa l0_7 x8_1).f2)]] (by rfl) rfl rfl (by (try simp only [List.map_toArray,List.map_cons,List.map_nil]); first | done | (simp only [hji25]; rfl) | rfl | (simp only [List.length_drop,List.length_take]; rfl)) ?_
    with_reducible refine (op_Less.calls k1 ((Qaa l0_7 (ji25)).f0) ((Qaa l0_7 (ji25)).f1) ((Qaa l0_7 (ji25)).f2) ((Qaa l0_7 x8_1).f0) ((Qaa l0_7 x8_1).f1) ((Qaa l0_7 x8_1).f2) true _ A28.out).mono ?_
    rintro e w37 ⟨rfl,hb⟩
    refine ⟨_,rfl, ?_⟩
    have n0_:=bl BK132 hb
    have n1_:=bl BK134 hb
    have n2_:=bs HB hb
    clear BK132
    clear BK134
    clear HB
    have BK132:=n0_
    have BK134:=n1_
    have HB:=n2_
    clear n0_ n1_ n2_
    (try clear hb)
    (try clear hb2)
    (try clear hk)
    (try clear hi)
    refine hK.out _ _ (b3 BK134 (b11 BK132 ⟨(cW HB hw137_0),(cW HB hw137_1),(cW HB hw137_2)⟩)) (fun hHeld => ?_)
    clear hK K
    refine nn 37 (h := ?_)
    refine pu HT_ 25 38 67108863 (h := ?_)
    refine pu HT_ 26 39 134217727 (h := ?_)
    refine pu HT_ 27 40 268435455 (h := ?_)
    refine dn HT_ (h := ?_)
    try go_wp2
    go_roundg k1
    case measure => have:=HK1.out; omega
    case rel => exact ⟨(wrap64 (x8_1 + 1)),rf,H',⟨by have:=HK1.out; omega⟩,⟨kk BK132⟩,⟨bw HB⟩⟩
   replace c29:=Zf c29
   subst c29
   rw [if_neg nft] at H
   obtain rfl:=Zo H
   have p133 : 0 <= (x8_1 : Int):=od
   have q133 : x8_1 < (l0_7.length : Int):=od
   obtain ⟨ad133,e133,hx133_0,hx133_1,hx133_2⟩:=Qbd HR0_7.out x8_1 p133 q133
   cases e133
   replace hx133_0:=cl HB hx133_0
   replace hx133_1:=cl HB hx133_1
   replace hx133_2:=cl HB hx133_2
   replace p133:=eq_true p133
   replace q133:=eq_true q133
   try go_wp2_with (first | ((with_reducible refine Qaf (N:=4) rfl ?_); refine bx 4 #[.int .i64 0, .int .i64 0, .int .i64 0] 32 (h := ?_); intro gb134 hg w38 hbox hb; have BK134:=Zz.k (hbox); have GW134:=bz HB hg; have GE134:=bz HB hg; have NB132_134:=bn BK132 hg; have NB134_132:=bm BK132 hg; replace BK132:=bl BK132 hb; replace HB:=bs HB hb; clear hb hbox hg; have hnb39:=NB134_132.out; have hnc39:=NB132_134.out; obtain ⟨_,_,_,_,_,_⟩:=kc3 BK134))
   generalize hgz : (((w38.setCell ⟨gb134,0,none⟩ (.int .i64 ((Qaa l0_7 x8_1).f0))).setCell ⟨gb134,1,none⟩ (.int .i64 ((Qaa l0_7 x8_1).f1))).setCell ⟨gb134,2,none⟩ (.int .i64 ((Qaa l0_7 x8_1).f2))) = w41
   have n0_ : Zz (w41.heap[gb132]? = some (.cells #[.int .i64 a0_0, .int .i64 a0_1, .int .i64 a0_2, .int .i64 a0_3, .int .i64 a0_4, .int .i64 a0_5, .string a0_6, .slice (some ad133) l0_7.length c0_7, .int .i64 a0_8, .int .i64 a0_9, .int .i64 a0_10] 34 (0,0))):=by rw [<- hgz]; exact ⟨kk BK132⟩
   have n1_ : Zz (w41.heap[gb134]? = some (.cells #[.int .i64 ((Qaa l0_7 x8_1).f0), .int .i64 ((Qaa l0_7 x8_1).f1), .int .i64 ((Qaa l0_7 x8_1).f2)] 32 (0,0))):=by rw [<- hgz]; exact ⟨bp (bp (bp (kk BK134) 0) 1) 2⟩
   have n2_ : Zz (Below w.heap.size w w41):=by rw [<- hgz]; exact ⟨bw HB⟩
   (try clear BK132)
   (try clear BK134)
   (try clear HB)
   clear hgz
   have BK132:=n0_
   have BK134:=n1_
   have HB:=n2_
   clear n0_ n1_ n2_
   have n0_:=Zz.k (Qao BK132.out)
   have n1_:=Zz.k (Qao BK134.out)
   have n2_:=Zz.k (Qae HB.out)
   clear BK132
   clear BK134
   clear HB
   have BK132:=n0_
   have BK134:=n1_
   have HB:=n2_
   clear n0_ n1_ n2_
   have p137 : 0 <= ((ji25) : Int):=od
   have q137 : (ji25) < (l0_7.length : Int):=od
   obtain ⟨ad137,e137,hx137_0,hx137_1,hx137_2⟩:=Qbd HR0_7.out (ji25) p137 q137
   have hw137_2:=hx137_2
   have hw137_1:=hx137_1
   have hw137_0:=hx137_0
   obtain rfl : ad133 = ad137:=(by injection e137)
   replace hx137_0:=cl HB hx137_0
   replace hx137_1:=cl HB hx137_1
   replace hx137_2:=cl HB hx137_2
   replace p137:=eq_true p137
   replace q137:=eq_true q137
   refine stP (fun w' => B3 w' gb134 (.int .i64 ((Qaa l0_7 x8_1).f0)) (.int .i64 ((Qaa l0_7 x8_1).f1)) (.int .i64 ((Qaa l0_7 x8_1).f2)) (B11 w' gb132 (.int .i64 a0_0) (.int .i64 a0_1) (.int .i64 a0_2) (.int .i64 a0_3) (.int .i64 a0_4) (.int .i64 a0_5) (.string a0_6) (.slice (some ad133) l0_7.length c0_7) (.int .i64 a0_8) (.int .i64 a0_9) (.int .i64 a0_10) (w'.cell? (ad133.add (((ji25)).toNat * 3)) = some (.int .i64 ((Qaa l0_7 (ji25)).f0)) /\ w'.cell? ⟨(ad133.add (((ji25)).toNat * 3)).block,(ad133.add (((ji25)).toNat * 3)).off + 1,none⟩ = some (.int .i64 ((Qaa l0_7 (ji25)).f1)) /\ w'.cell? ⟨(ad133.add (((ji25)).toNat * 3)).block,(ad133.add (((ji25)).toNat * 3)).off + 2,none⟩ = some (.int .i64 ((Qaa l0_7 (ji25)).f2))))) 28 (b3 BK134 (b11 BK132 ⟨(cW HB hw137_0),(cW HB hw137_1),(cW HB hw137_2)⟩)) (h:=fun hHeld => ?_); refine Qaw op_gone.tab4 op_gone.bits4 (fun HT_ HW_ => ?_)
   generalize w41.drew = w42 at BK132 BK134 HB hx137_0 hx137_1 hx137_2 hHeld ⊢
   refine pu HT_ 1 14 2 (h := ?_)
   refine tk HT_ HW_ hHeld 0 13 3 (h := ?_)
   refine pu HT_ 2 15 7 (h := ?_)
   refine pu HT_ 3 16 15 (h := ?_)
   refine tk HT_ HW_ hHeld 4 17 31 (h := ?_)
   refine on HT_ 5 (some 18) 63 (h:=fun K hK => ?_)
   refine gS Tryz.func139 #[.agg #[.int .i64 ((Qaa l0_7 x8_1).f0), .int .i64 ((Qaa l0_7 x8_1).f1), .int .i64 ((Qaa l0_7 x8_1).f2)]] (h := ?_)
   with_reducible refine (op_IsElem.calls ((Qaa l0_7 x8_1).f0) ((Qaa l0_7 x8_1).f1) ((Qaa l0_7 x8_1).f2) true _ A13.out).mono ?_
   rintro e w43 ⟨rfl,hb⟩
   refine ⟨_,rfl, ?_⟩
   have n0_:=bl BK132 hb
   have n1_:=bl BK134 hb
   have n2_:=bs HB hb
   clear BK132
   clear BK134
   clear HB
   have BK132:=n0_
   have BK134:=n1_
   have HB:=n2_
   clear n0_ n1_ n2_
   (try clear hb)
   (try clear hb2)
   (try clear hk)
   (try clear hi)
   refine hK.out _ _ (b3 BK134 (b11 BK132 ⟨(cW HB hw137_0),(cW HB hw137_1),(cW HB hw137_2)⟩)) (fun hHeld => ?_)
   clear hK K
   refine nn 18 (h := ?_)
   refine pu HT_ 6 19 127 (h := ?_)
   refine pu HT_ 7 20 255 (h := ?_)
   refine pu HT_ 8 21 511 (h := ?_)
   refine tk HT_ HW_ hHeld 9 22 1023 (h := ?_)
   refine tk HT_ HW_ hHeld 10 23 2047 (h := ?_)
   refine on HT_ 11 (some 24) 4095 (h:=fun K hK => ?_)
   refine gS Tryz.func140 #[.agg #[.int .i64 a0_0, .int .i64 a0_1, .int .i64 a0_2, .int .i64 a0_3, .int .i64 a0_4, .int .i64 a0_5, .string a0_6, .slice (some ad133) l0_7.length c0_7, .int .i64 a0_8, .int .i64 a0_9, .int .i64 a0_10], .agg #[.int .i64 ((Qaa l0_7 x8_1).f0), .int .i64 ((Qaa l0_7 x8_1).f1), .int .i64 ((Qaa l0_7 x8_1).f2)]] (h := ?_)
   with_reducible refine (op_own.calls a0_0 a0_1 a0_2 a0_3 a0_4 a0_5 a0_6 _ _ l0_7 a0_8 a0_9 a0_10 ((Qaa l0_7 x8_1).f0) ((Qaa l0_7 x8_1).f1) ((Qaa l0_7 x8_1).f2) false _ ?side1 ?side2 A15.out).mono ?_
   (case side1 => exact cb HR0_7 HB)
   (case side2 => exact HC0_7.out)
   rintro e w44 ⟨rfl,hb⟩
   refine ⟨_,rfl, ?_⟩
   have n0_:=bl BK132 hb
   have n1_:=bl BK134 hb
   have n2_:=bs HB hb
   clear BK132
   clear BK134
   clear HB
   have BK132:=n0_
   have BK134:=n1_
   have HB:=n2_
   clear n0_ n1_ n2_
   (try clear hb)
   (try clear hb2)
   (try clear hk)
   (try clear hi)
   refine hK.out _ _ (b3 BK134 (b11 BK132 ⟨(cW HB hw137_0),(cW HB hw137_1),(cW HB hw137_2)⟩)) (fun hHeld => ?_)
   clear hK K
   refine nn 24 (h := ?_)
   refine pu HT_ 12 25 8191 (h := ?_)
   refine pu HT_ 13 26 16383 (h := ?_)
   refine pu HT_ 14 27 32767 (h := ?_)
   refine pu HT_ 15 28 65535 (h := ?_)
   refine pu HT_ 16 29 131071 (h := ?_)
   refine pu HT_ 17 30 262143 (h := ?_)
   refine pu HT_ 19 32 786431 (h := ?_)
   refine pu HT_ 20 33 1835007 (h := ?_)
   refine tk HT_ HW_ hHeld 18 31 2097151 (h := ?_)
   refine pu HT_ 21 34 4194303 (h := ?_)
   refine tk HT_ HW_ hHeld 22 35 8388607 (h := ?_)
   refine tk HT_ HW_ hHeld 23 36 16777215 (h := ?_)
   refine on HT_ 24 (some 37) 33554431 (h:=fun K hK => ?_)
   refine goes_ Tryz.func146 (by kernel_rfl) rfl #[.agg #[.int .i64 ((Qaa l0_7 (ji25)).f0), .int .i64 ((Qaa l0_7 (ji25)).f1), .int .i64 ((Qaa l0_7 (ji25)).f2)], .agg #[.int .i64 ((Qaa l0_7 x8_1).f0), .int .i64 ((Qaa l0_7 x8_1).f1), .int .i64 ((Qaa l0_7 x8_1).f2)]] (by rfl) rfl rfl (by (try simp only [List.map_toArray,List.map_cons,List.map_nil]); first | done | (simp only [hji25]; rfl) | rfl | (simp only [List.length_drop,List.length_take]; rfl)) ?_
   with_reducible refine (op_Less.calls k1 ((Qaa l0_7 (ji25)).f0) ((Qaa l0_7 (ji25)).f1) ((Qaa l0_7 (ji25)).f2) ((Qaa l0_7 x8_1).f0) ((Qaa l0_7 x8_1).f1) ((Qaa l0_7 x8_1).f2) false _ A28.out).mono ?_
   rintro e w45 ⟨rfl,hb⟩
   refine ⟨_,rfl, ?_⟩
   have n0_:=bl BK132 hb
   have n1_:=bl BK134 hb
   have n2_:=bs HB hb
   clear BK132
   clear BK134
   clear HB
   have BK132:=n0_
   have BK134:=n1_
   have HB:=n2_
   clear n0_ n1_ n2_
   (try clear hb)
   (try clear hb2)
   (try clear hk)
   (try clear hi)
   refine hK.out _ _ (b3 BK134 (b11 BK132 ⟨(cW HB hw137_0),(cW HB hw137_1),(cW HB hw137_2)⟩)) (fun hHeld => ?_)
   clear hK K
   refine nn 37 (h := ?_)
   refine pu HT_ 25 38 67108863 (h := ?_)
   refine pu HT_ 26 39 134217727 (h := ?_)
   refine pu HT_ 27 40 268435455 (h := ?_)
   refine dn HT_ (h := ?_)
   try go_wp2
   go_ret
   exact ⟨by first | rfl | (simp [errW_none,errW_some] <;> rfl) | (simp only [<- hji25]; first | rfl | (simp [errW_none,errW_some] <;> rfl)) | (simp [*,errW_none,errW_some] <;> rfl),bw HB⟩
end
section
attribute [local go_sem] Qbm Qbk Qbu Qbt Qbc Qbb Qbl Qbj
attribute [local go_sem high] eqAElem
def op_edit.j0 : Nat -> Bool -> Int -> Int -> Int -> Int -> Int -> Int -> ByteArray -> List (SElem) -> Int -> Int -> Int -> Option (Bool)
 | 0,_,_,_,_,_,_,_,_,_,_,_,_ => none
 | k + 1,x34,x140000,x140001,x140002,x140003,x140004,x140005,x140006,x140007,x140008,x140009,x140010 => if x34 = true then (some false) else ((text_May.f x140006).bind fun t142 => (if t142 = true then ((op_Size.f x140000 x140001 x140002 x140003 x140004 x140005 x140006 x140007 x140008 x140009 x140010).bind fun t143 => (if t143 <= 12 then ((op_gone.f k x140000 x140001 x140002 x140003 x140004 x140005 x140006 x140007 x140008 x140009 x140010).bind fun t144 => (if t144 = true then (if x140008 = 0 then (if x140009 = 0 then (some (x140010 == 0)) else (some false)) else (some false)) else (some false))) else (some false))) else (some false)))
def op_edit.f (k : Nat) (a0_0 : Int) (a0_1 : Int) (a0_2 : Int) (a0_3 : Int) (a0_4 : Int) (a0_5 : Int) (a0_6 : ByteArray) (l0_7 : List (SElem)) (a0_8 : Int) (a0_9 : Int) (a0_10 : Int) : Option (Bool):=(op_IsElem.f a0_3 a0_4 a0_5).bind fun t140 => (if t140 = true then ((op_own.f a0_0 a0_1 a0_2 a0_3 a0_4 a0_5 a0_6 l0_7 a0_8 a0_9 a0_10 a0_3 a0_4 a0_5).bind fun t141 => (if t141 = true then (op_edit.j0 k true a0_0 a0_1 a0_2 a0_3 a0_4 a0_5 a0_6 l0_7 a0_8 a0_9 a0_10) else (if a0_6.toList = ([] : List UInt8) then (if (!(a0_3 == 0) || (!(a0_4 == 0) || (!(a0_5 == 0)))) = true then (op_edit.j0 k true a0_0 a0_1 a0_2 a0_3 a0_4 a0_5 a0_6 l0_7 a0_8 a0_9 a0_10) else (op_edit.j0 k ((l0_7.length : Int) == 0) a0_0 a0_1 a0_2 a0_3 a0_4 a0_5 a0_6 l0_7 a0_8 a0_9 a0_10)) else (op_edit.j0 k false a0_0 a0_1 a0_2 a0_3 a0_4 a0_5 a0_6 l0_7 a0_8 a0_9 a0_10)))) else (op_edit.j0 k true a0_0 a0_1 a0_2 a0_3 a0_4 a0_5 a0_6 l0_7 a0_8 a0_9 a0_10))
theorem op_edit.calls (k : Nat) (a0_0 : Int) (a0_1 : Int) (a0_2 : Int) (a0_3 : Int) (a0_4 : Int) (a0_5 : Int) (a0_6 : ByteArray) (A0_7 : Option Addr) (c0_7 : Nat) (l0_7 : List (SElem)) (a0_8 : Int) (a0_9 : Int) (a0_10 : Int) (r : Bool) (w : World) (hr0_7 : Kd.C Qap w A0_7 l0_7.length l0_7) (hc0_7 : l0_7.length <= c0_7) (h : op_edit.f k a0_0 a0_1 a0_2 a0_3 a0_4 a0_5 a0_6 l0_7 a0_8 a0_9 a0_10 = some r) :
  Calls Tryz.prog 127 #[.agg #[.int .i64 a0_0, .int .i64 a0_1, .int .i64 a0_2, .int .i64 a0_3, .int .i64 a0_4, .int .i64 a0_5, .string a0_6, .slice A0_7 l0_7.length c0_7, .int .i64 a0_8, .int .i64 a0_9, .int .i64 a0_10]] w fun e w' => e = .returned (.bool r) /\ Below w.heap.size w w':=by
 have hu34:=Tryz.underlying34
 have hu32:=Tryz.underlying32
 have HR0_7:=Zz.k hr0_7
 have HC0_7:=Zz.k hc0_7
 clear hr0_7 hc0_7
 have HB:=Zz.k (Below.refl w.heap.size w)
 unfold op_edit.f at h; have H:=h
 clear h
 have HC2:=Zz.k H
 clear H
 go_enter Tryz.func127,Tryz.ntmps127
 go_upto_region 1 with (first | ((with_reducible refine Qaf (N:=1) rfl ?_); (try (refine Qah (by rfl) ?_; dsimp only)); refine bx 1 #[.int .i64 a0_0, .int .i64 a0_1, .int .i64 a0_2, .int .i64 a0_3, .int .i64 a0_4, .int .i64 a0_5, .string a0_6, .slice A0_7 l0_7.length c0_7, .int .i64 a0_8, .int .i64 a0_9, .int .i64 a0_10] 34 (h := ?_); intro gb139 hg w3 hbox hb; have BK139:=Zz.k (hbox); have GW139:=bz HB hg; have GE139:=bz HB hg; replace HB:=bs HB hb; clear hb hbox hg))
 (try simp only [Act.put,List.setIfInBounds_toArray,List.set_cons_zero,List.set_cons_succ])
 go_cut [34] (fun v34 wc => ∃ (kq : Nat) (x34_1 : Bool),v34 = .bool x34_1 /\ Zz (op_edit.j0 kq x34_1 a0_0 a0_1 a0_2 a0_3 a0_4 a0_5 a0_6 l0_7 a0_8 a0_9 a0_10 = some r) /\ Zz (kq <= k) /\ Zz (wc.heap[gb139]? = some (.cells #[.int .i64 a0_0, .int .i64 a0_1, .int .i64 a0_2, .int .i64 a0_3, .int .i64 a0_4, .int .i64 a0_5, .string a0_6,(.slice A0_7 l0_7.length c0_7), .int .i64 a0_8, .int .i64 a0_9, .int .i64 a0_10] 34 (0,0))) /\ Zz (Below w.heap.size w wc))
 case first =>
  have H:=HC2.out
  clear HC2
  obtain ⟨t140,A4,H⟩:=bE H
  by_cases c5 : t140 = true; rotate_left
  ·replace c5:=Zf c5
   subst c5
   rw [if_neg nft] at H
   have H':=Zz.k H
   clear H
   obtain ⟨_,_,_,_,_,_,_,_,_,_,_,_,_,_,_,_,_,_,_,_,_,_⟩:=kc11 BK139
   go_wp2_with (first | ((with_reducible refine Qac (f:=139) rfl ?_); refine gl (some 5) Tryz.func139 #[.agg #[.int .i64 a0_3, .int .i64 a0_4, .int .i64 a0_5]] (h := ?_); (with_reducible refine (op_IsElem.calls a0_3 a0_4 a0_5 false _ A4.out).mono ?_); rintro e w30 ⟨rfl,hb⟩; refine ⟨_,rfl, ?_⟩; replace BK139:=bl BK139 hb; replace HB:=bs HB hb; clear hb))
   go_meet
   case rel => exact ⟨_,(true),rf,H',⟨by first | omega | exact Nat.le_refl _⟩,⟨kk BK139⟩,⟨bw HB⟩⟩
  subst c5
  rw [if_pos rfl] at H
  obtain ⟨t141,A6,H⟩:=bE H
  by_cases c7 : t141 = true
  ·subst c7
   rw [if_pos rfl] at H
   have H':=Zz.k H
   clear H
   obtain ⟨_,_,_,_,_,_,_,_,_,_,_,_,_,_,_,_,_,_,_,_,_,_⟩:=kc11 BK139
   go_wp2_with (first | ((with_reducible refine Qac (f:=139) rfl ?_); refine gl (some 5) Tryz.func139 #[.agg #[.int .i64 a0_3, .int .i64 a0_4, .int .i64 a0_5]] (h := ?_); (with_reducible refine (op_IsElem.calls a0_3 a0_4 a0_5 true _ A4.out).mono ?_); rintro e w9 ⟨rfl,hb⟩; refine ⟨_,rfl, ?_⟩; replace BK139:=bl BK139 hb; replace HB:=bs HB hb; clear hb; obtain ⟨_,_,_,_,_,_,_,_,_,_,_,_,_,_,_,_,_,_,_,_,_,_⟩:=kc11 BK139) | (go_at_call 140; (with_reducible refine (op_own.calls a0_0 a0_1 a0_2 a0_3 a0_4 a0_5 a0_6 _ _ l0_7 a0_8 a0_9 a0_10 a0_3 a0_4 a0_5 true _ ?side1 ?side2 A6.out).mono ?_); (case side1 => exact cb HR0_7 HB); (case side2 => exact HC0_7.out); rintro e w11 ⟨rfl,hb⟩; replace BK139:=bl BK139 hb; replace HB:=bs HB hb; clear hb))
   go_meet
   case rel => exact ⟨_,(true),rf,H',⟨by first | omega | exact Nat.le_refl _⟩,⟨kk BK139⟩,⟨bw HB⟩⟩
  replace c7:=Zf c7
  subst c7
  rw [if_neg nft] at H
  by_cases c12 : a0_6.toList = ([] : List UInt8); rotate_left
  ·rw [if_neg c12] at H
   obtain ⟨c12b0,c12b1⟩:=bF c12
   (first | rw [c12b0] | (simp only [Qbe,Qbi]; rw [c12b0]) | skip)
   have H':=Zz.k H
   clear H
   obtain ⟨_,_,_,_,_,_,_,_,_,_,_,_,_,_,_,_,_,_,_,_,_,_⟩:=kc11 BK139
   go_wp2_with (first | ((with_reducible refine Qac (f:=139) rfl ?_); refine gl (some 5) Tryz.func139 #[.agg #[.int .i64 a0_3, .int .i64 a0_4, .int .i64 a0_5]] (h := ?_); (with_reducible refine (op_IsElem.calls a0_3 a0_4 a0_5 true _ A4.out).mono ?_); rintro e w25 ⟨rfl,hb⟩; refine ⟨_,rfl, ?_⟩; replace BK139:=bl BK139 hb; replace HB:=bs HB hb; clear hb; obtain ⟨_,_,_,_,_,_,_,_,_,_,_,_,_,_,_,_,_,_,_,_,_,_⟩:=kc11 BK139) | (go_at_call 140; (with_reducible refine (op_own.calls a0_0 a0_1 a0_2 a0_3 a0_4 a0_5 a0_6 _ _ l0_7 a0_8 a0_9 a0_10 a0_3 a0_4 a0_5 false _ ?side1 ?side2 A6.out).mono ?_); (case side1 => exact cb HR0_7 HB); (case side2 => exact HC0_7.out); rintro e w27 ⟨rfl,hb⟩; replace BK139:=bl BK139 hb; replace HB:=bs HB hb; clear hb; obtain ⟨_,_,_,_,_,_,_,_,_,_,_,_,_,_,_,_,_,_,_,_,_,_⟩:=kc11 BK139))
   go_meet
   case rel => exact ⟨_,(false),rf,H',⟨by first | omega | exact Nat.le_refl _⟩,⟨kk BK139⟩,⟨bw HB⟩⟩
  rw [if_pos c12] at H
  obtain ⟨c12b0,c12b1⟩:=bT c12
  clear c12
  (first | rw [c12b0] | (simp only [Qbe,Qbi]; rw [c12b0]) | skip)
  by_cases c13 : (!(a0_3 == 0) || (!(a0_4 == 0) || (!(a0_5 == 0)))) = true
  ·rw [if_pos c13] at H
   have c13b0 : (!(a0_3 == 0) || (!(a0_4 == 0) || (!(a0_5 == 0)))) = true:=c13
   clear c13
   have H':=Zz.k H
   clear H
   obtain ⟨_,_,_,_,_,_,_,_,_,_,_,_,_,_,_,_,_,_,_,_,_,_⟩:=kc11 BK139
   go_wp2_with (first | ((with_reducible refine Qac (f:=139) rfl ?_); refine gl (some 5) Tryz.func139 #[.agg #[.int .i64 a0_3, .int .i64 a0_4, .int .i64 a0_5]] (h := ?_); (with_reducible refine (op_IsElem.calls a0_3 a0_4 a0_5 true _ A4.out).mono ?_); rintro e w15 ⟨rfl,hb⟩; refine ⟨_,rfl, ?_⟩; replace BK139:=bl BK139 hb; replace HB:=bs HB hb; clear hb; obtain ⟨_,_,_,_,_,_,_,_,_,_,_,_,_,_,_,_,_,_,_,_,_,_⟩:=kc11 BK139) | (go_at_call 140; (with_reducible refine (op_own.calls a0_0 a0_1 a0_2 a0_3 a0_4 a0_5 a0_6 _ _ l0_7 a0_8 a0_9 a0_10 a0_3 a0_4 a0_5 false _ ?side1 ?side2 A6.out).mono ?_); (case side1 => exact cb HR0_7 HB); (case side2 => exact HC0_7.out); rintro e w17 ⟨rfl,hb⟩; replace BK139:=bl BK139 hb; replace HB:=bs HB hb; clear hb; obtain ⟨_,_,_,_,_,_,_,_,_,_,_,_,_,_,_,_,_,_,_,_,_,_⟩:=kc11 BK139))
   go_meet
   case rel => exact ⟨_,(true),rf,H',⟨by first | omega | exact Nat.le_refl _⟩,⟨kk BK139⟩,⟨bw HB⟩⟩
  rw [if_neg c13] at H
  have c13b0 : (!(a0_3 == 0) || (!(a0_4 == 0) || (!(a0_5 == 0)))) = false:=by simpa using c13
  clear c13
  have H':=Zz.k H
  clear H
  obtain ⟨_,_,_,_,_,_,_,_,_,_,_,_,_,_,_,_,_,_,_,_,_,_⟩:=kc11 BK139
  go_wp2_with (first | ((with_reducible refine Qac (f:=139) rfl ?_); refine gl (some 5) Tryz.func139 #[.agg #[.int .i64 a0_3, .int .i64 a0_4, .int .i64 a0_5]] (h := ?_); (with_reducible refine (op_IsElem.calls a0_3 a0_4 a0_5 true _ A4.out).mono ?_); rintro e w20 ⟨rfl,hb⟩; refine ⟨_,rfl, ?_⟩; replace BK139:=bl BK139 hb; replace HB:=bs HB hb; clear hb; obtain ⟨_,_,_,_,_,_,_,_,_,_,_,_,_,_,_,_,_,_,_,_,_,_⟩:=kc11 BK139) | (go_at_call 140; (with_reducible refine (op_own.calls a0_0 a0_1 a0_2 a0_3 a0_4 a0_5 a0_6 _ _ l0_7 a0_8 a0_9 a0_10 a0_3 a0_4 a0_5 false _ ?side1 ?side2 A6.out).mono ?_); (case side1 => exact cb HR0_7 HB); (case side2 => exact HC0_7.out); rintro e w22 ⟨rfl,hb⟩; replace BK139:=bl BK139 hb; replace HB:=bs HB hb; clear hb; obtain ⟨_,_,_,_,_,_,_,_,_,_,_,_,_,_,_,_,_,_,_,_,_,_⟩:=kc11 BK139))
  go_meet
  case rel => exact ⟨_,(((l0_7.length : Int) == 0)),rf,H',⟨by first | omega | exact Nat.le_refl _⟩,⟨kk BK139⟩,⟨bw HB⟩⟩
 case rest =>
  clear HC2
  obtain ⟨kq,x34_1,rfl,HA,HJ1,BK139,HB⟩:=hcut
  cases kq with
  | zero => exact absurd HA.out (by simp [op_edit.j0])
  | succ kj1 =>
   have H:=HA.out
   clear HA
   simp only [op_edit.j0] at H
   by_cases c31 : x34_1 = true
   ·subst c31
    rw [if_pos rfl] at H
    obtain rfl:=Zo H
    go_wp2
    go_ret
    exact ⟨re,bw HB⟩
   replace c31:=Zf c31
   subst c31
   rw [if_neg nft] at H
   obtain ⟨t142,A32,H⟩:=bE H
   by_cases c33 : t142 = true; rotate_left
   ·replace c33:=Zf c33
    subst c33
    rw [if_neg nft] at H
    obtain rfl:=Zo H
    obtain ⟨_,_,_,_,_,_,_,_,_,_,_,_,_,_,_,_,_,_,_,_,_,_⟩:=kc11 BK139
    go_wp2_with (first | ((with_reducible refine Qac (f:=46) rfl ?_); refine gl (some 37) Tryz.func46 #[.string a0_6] (h := ?_); (with_reducible refine (text_May.calls a0_6 false _ A32.out).mono ?_); rintro e w72 ⟨rfl,hb⟩; refine ⟨_,rfl, ?_⟩; replace BK139:=bl BK139 hb; replace HB:=bs HB hb; clear hb))
    go_ret
    exact ⟨re,bw HB⟩
   subst c33
   rw [if_pos rfl] at H
   obtain ⟨t143,A34,H⟩:=bE H
   by_cases c35 : t143 <= 12; rotate_left
   ·rw [if_neg c35] at H
    have c35b0:=Ze c35
    clear c35
    obtain rfl:=Zo H
    obtain ⟨_,_,_,_,_,_,_,_,_,_,_,_,_,_,_,_,_,_,_,_,_,_⟩:=kc11 BK139
    go_wp2_with (first | ((with_reducible refine Qac (f:=46) rfl ?_); refine gl (some 37) Tryz.func46 #[.string a0_6] (h := ?_); (with_reducible refine (text_May.calls a0_6 true _ A32.out).mono ?_); rintro e w68 ⟨rfl,hb⟩; refine ⟨_,rfl, ?_⟩; replace BK139:=bl BK139 hb; replace HB:=bs HB hb; clear hb; obtain ⟨_,_,_,_,_,_,_,_,_,_,_,_,_,_,_,_,_,_,_,_,_,_⟩:=kc11 BK139) | (go_at_call 106; (with_reducible refine (op_Size.calls a0_0 a0_1 a0_2 a0_3 a0_4 a0_5 a0_6 _ _ l0_7 a0_8 a0_9 a0_10 t143 _ ?side1 ?side2 A34.out).mono ?_); (case side1 => exact cb HR0_7 HB); (case side2 => exact HC0_7.out); rintro e w70 ⟨rfl,hb⟩; replace BK139:=bl BK139 hb; replace HB:=bs HB hb; clear hb))
    go_ret
    exact ⟨re,bw HB⟩
   rw [if_pos c35] at H
   have c35b0:=Zd c35
   clear c35
   obtain ⟨t144,A36,H⟩:=bE H
   by_cases c37 : t144 = true; rotate_left
   ·replace c37:=Zf c37
    subst c37
    rw [if_neg nft] at H
    obtain rfl:=Zo H
    obtain ⟨_,_,_,_,_,_,_,_,_,_,_,_,_,_,_,_,_,_,_,_,_,_⟩:=kc11 BK139
    go_wp2_with (first | ((with_reducible refine Qac (f:=46) rfl ?_); refine gl (some 37) Tryz.func46 #[.string a0_6] (h := ?_); (with_reducible refine (text_May.calls a0_6 true _ A32.out).mono ?_); rintro e w62 ⟨rfl,hb⟩; refine ⟨_,rfl, ?_⟩; replace BK139:=bl BK139 hb; replace HB:=bs HB hb; clear hb; obtain ⟨_,_,_,_,_,_,_,_,_,_,_,_,_,_,_,_,_,_,_,_,_,_⟩:=kc11 BK139) | (go_at_call 106; (with_reducible refine (op_Size.calls a0_0 a0_1 a0_2 a0_3 a0_4 a0_5 a0_6 _ _ l0_7 a0_8 a0_9 a0_10 t143 _ ?side1 ?side2 A34.out).mono ?_); (case side1 => exact cb HR0_7 HB); (case side2 => exact HC0_7.out); rintro e w64 ⟨rfl,hb⟩; replace BK139:=bl BK139 hb; replace HB:=bs HB hb; clear hb; obtain ⟨_,_,_,_,_,_,_,_,_,_,_,_,_,_,_,_,_,_,_,_,_,_⟩:=kc11 BK139) | (go_at_call 141; (with_reducible refine (op_gone.calls kj1 a0_0 a0_1 a0_2 a0_3 a0_4 a0_5 a0_6 _ _ l0_7 a0_8 a0_9 a0_10 false _ ?side1 ?side2 A36.out).mono ?_); (case side1 => exact cb HR0_7 HB); (case side2 => exact HC0_7.out); rintro e w66 ⟨rfl,hb⟩; replace BK139:=bl BK139 hb; replace HB:=bs HB hb; clear hb))
    go_ret
    exact ⟨re,bw HB⟩
   subst c37
   rw [if_pos rfl] at H
   by_cases c38 : a0_8 = 0; rotate_left
   ·rw [if_neg c38] at H
    obtain ⟨c38b0,c38b1⟩:=bF c38
    obtain rfl:=Zo H
    obtain ⟨_,_,_,_,_,_,_,_,_,_,_,_,_,_,_,_,_,_,_,_,_,_⟩:=kc11 BK139
    go_wp2_with (first | ((with_reducible refine Qac (f:=46) rfl ?_); refine gl (some 37) Tryz.func46 #[.string a0_6] (h := ?_); (with_reducible refine (text_May.calls a0_6 true _ A32.out).mono ?_); rintro e w55 ⟨rfl,hb⟩; refine ⟨_,rfl, ?_⟩; replace BK139:=bl BK139 hb; replace HB:=bs HB hb; clear hb; obtain ⟨_,_,_,_,_,_,_,_,_,_,_,_,_,_,_,_,_,_,_,_,_,_⟩:=kc11 BK139) | (go_at_call 106; (with_reducible refine (op_Size.calls a0_0 a0_1 a0_2 a0_3 a0_4 a0_5 a0_6 _ _ l0_7 a0_8 a0_9 a0_10 t143 _ ?side1 ?side2 A34.out).mono ?_); (case side1 => exact cb HR0_7 HB); (case side2 => exact HC0_7.out); rintro e w57 ⟨rfl,hb⟩; replace BK139:=bl BK139 hb; replace HB:=bs HB hb; clear hb; obtain ⟨_,_,_,_,_,_,_,_,_,_,_,_,_,_,_,_,_,_,_,_,_,_⟩:=kc11 BK139) | (go_at_call 141; (with_reducible refine (op_gone.calls kj1 a0_0 a0_1 a0_2 a0_3 a0_4 a0_5 a0_6 _ _ l0_7 a0_8 a0_9 a0_10 true _ ?side1 ?side2 A36.out).mono ?_); (case side1 => exact cb HR0_7 HB); (case side2 => exact HC0_7.out); rintro e w59 ⟨rfl,hb⟩; replace BK139:=bl BK139 hb; replace HB:=bs HB hb; clear hb; obtain ⟨_,_,_,_,_,_,_,_,_,_,_,_,_,_,_,_,_,_,_,_,_,_⟩:=kc11 BK139))
    go_ret
    exact ⟨re,bw HB⟩
   rw [if_pos c38] at H
   obtain ⟨c38b0,c38b1⟩:=bT c38
   clear c38
   by_cases c39 : a0_9 = 0
   ·rw [if_pos c39] at H
    obtain ⟨c39b0,c39b1⟩:=bT c39
    clear c39
    obtain rfl:=Zo H
    obtain ⟨_,_,_,_,_,_,_,_,_,_,_,_,_,_,_,_,_,_,_,_,_,_⟩:=kc11 BK139
    go_wp2_with (first | ((with_reducible refine Qac (f:=46) rfl ?_); refine gl (some 37) Tryz.func46 #[.string a0_6] (h := ?_); (with_reducible refine (text_May.calls a0_6 true _ A32.out).mono ?_); rintro e w41 ⟨rfl,hb⟩; refine ⟨_,rfl, ?_⟩; replace BK139:=bl BK139 hb; replace HB:=bs HB hb; clear hb; obtain ⟨_,_,_,_,_,_,_,_,_,_,_,_,_,_,_,_,_,_,_,_,_,_⟩:=kc11 BK139) | (go_at_call 106; (with_reducible refine (op_Size.calls a0_0 a0_1 a0_2 a0_3 a0_4 a0_5 a0_6 _ _ l0_7 a0_8 a0_9 a0_10 t143 _ ?side1 ?side2 A34.out).mono ?_); (case side1 => exact cb HR0_7 HB); (case side2 => exact HC0_7.out); rintro e w43 ⟨rfl,hb⟩; replace BK139:=bl BK139 hb; replace HB:=bs HB hb; clear hb; obtain ⟨_,_,_,_,_,_,_,_,_,_,_,_,_,_,_,_,_,_,_,_,_,_⟩:=kc11 BK139) | (go_at_call 141; (with_reducible refine (op_gone.calls kj1 a0_0 a0_1 a0_2 a0_3 a0_4 a0_5 a0_6 _ _ l0_7 a0_8 a0_9 a0_10 true _ ?side1 ?side2 A36.out).mono ?_); (case side1 => exact cb HR0_7 HB); (case side2 => exact HC0_7.out); rintro e w45 ⟨rfl,hb⟩; replace BK139:=bl BK139 hb; replace HB:=bs HB hb; clear hb; obtain ⟨_,_,_,_,_,_,_,_,_,_,_,_,_,_,_,_,_,_,_,_,_,_⟩:=kc11 BK139))
    go_ret
    exact ⟨re,bw HB⟩
   rw [if_neg c39] at H
   obtain ⟨c39b0,c39b1⟩:=bF c39
   obtain rfl:=Zo H
   obtain ⟨_,_,_,_,_,_,_,_,_,_,_,_,_,_,_,_,_,_,_,_,_,_⟩:=kc11 BK139
   go_wp2_with (first | ((with_reducible refine Qac (f:=46) rfl ?_); refine gl (some 37) Tryz.func46 #[.string a0_6] (h := ?_); (with_reducible refine (text_May.calls a0_6 true _ A32.out).mono ?_); rintro e w48 ⟨rfl,hb⟩; refine ⟨_,rfl, ?_⟩; replace BK139:=bl BK139 hb; replace HB:=bs HB hb; clear hb; obtain ⟨_,_,_,_,_,_,_,_,_,_,_,_,_,_,_,_,_,_,_,_,_,_⟩:=kc11 BK139) | (go_at_call 106; (with_reducible refine (op_Size.calls a0_0 a0_1 a0_2 a0_3 a0_4 a0_5 a0_6 _ _ l0_7 a0_8 a0_9 a0_10 t143 _ ?side1 ?side2 A34.out).mono ?_); (case side1 => exact cb HR0_7 HB); (case side2 => exact HC0_7.out); rintro e w50 ⟨rfl,hb⟩; replace BK139:=bl BK139 hb; replace HB:=bs HB hb; clear hb; obtain ⟨_,_,_,_,_,_,_,_,_,_,_,_,_,_,_,_,_,_,_,_,_,_⟩:=kc11 BK139) | (go_at_call 141; (with_reducible refine (op_gone.calls kj1 a0_0 a0_1 a0_2 a0_3 a0_4 a0_5 a0_6 _ _ l0_7 a0_8 a0_9 a0_10 true _ ?side1 ?side2 A36.out).mono ?_); (case side1 => exact cb HR0_7 HB); (case side2 => exact HC0_7.out); rintro e w52 ⟨rfl,hb⟩; replace BK139:=bl BK139 hb; replace HB:=bs HB hb; clear hb; obtain ⟨_,_,_,_,_,_,_,_,_,_,_,_,_,_,_,_,_,_,_,_,_,_⟩:=kc11 BK139))
   go_ret
   exact ⟨re,bw HB⟩
end
section
attribute [local go_sem] Qbm Qbk Qbu Qbt Qbc Qbb Qbl Qbj
attribute [local go_sem high] eqAElem
def op_toggle.f (a0_0 : Int) (a0_1 : Int) (a0_2 : Int) (a0_3 : Int) (a0_4 : Int) (a0_5 : Int) (a0_6 : ByteArray) (l0_7 : List (SElem)) (a0_8 : Int) (a0_9 : Int) (a0_10 : Int) : Option (Bool):=(op_Name.f a0_8 a0_9).bind fun t146 => (if t146 = true then (if a0_8 = a0_0 then (if a0_9 = a0_1 then (some false) else (if a0_10 < 0 then (some false) else (if a0_10 > 268435456 then (some false) else (if (a0_3 == 0 && (a0_4 == 0 && (a0_5 == 0))) = true then (if a0_6.toList = ([] : List UInt8) then (some ((l0_7.length : Int) == 0)) else (some false)) else (some false))))) else (if a0_10 < 0 then (some false) else (if a0_10 > 268435456 then (some false) else (if (a0_3 == 0 && (a0_4 == 0 && (a0_5 == 0))) = true then (if a0_6.toList = ([] : List UInt8) then (some ((l0_7.length : Int) == 0)) else (some false)) else (some false))))) else (some false))
theorem op_toggle.calls (a0_0 : Int) (a0_1 : Int) (a0_2 : Int) (a0_3 : Int) (a0_4 : Int) (a0_5 : Int) (a0_6 : ByteArray) (A0_7 : Option Addr) (c0_7 : Nat) (l0_7 : List (SElem)) (a0_8 : Int) (a0_9 : Int) (a0_10 : Int) (r : Bool) (w : World) (hr0_7 : Kd.C Qap w A0_7 l0_7.length l0_7) (hc0_7 : l0_7.length <= c0_7) (h : op_toggle.f a0_0 a0_1 a0_2 a0_3 a0_4 a0_5 a0_6 l0_7 a0_8 a0_9 a0_10 = some r) :
  Calls Tryz.prog 128 #[.agg #[.int .i64 a0_0, .int .i64 a0_1, .int .i64 a0_2, .int .i64 a0_3, .int .i64 a0_4, .int .i64 a0_5, .string a0_6, .slice A0_7 l0_7.length c0_7, .int .i64 a0_8, .int .i64 a0_9, .int .i64 a0_10]] w fun e w' => e = .returned (.bool r) /\ Below w.heap.size w w':=by
 have hu34:=Tryz.underlying34
 have hu32:=Tryz.underlying32
 have HR0_7:=Zz.k hr0_7
 have HC0_7:=Zz.k hc0_7
 clear hr0_7 hc0_7
 have HB:=Zz.k (Below.refl w.heap.size w)
 unfold op_toggle.f at h; have H:=h
 clear h
 obtain ⟨t146,A2,H⟩:=bE H
 by_cases c3 : t146 = true; rotate_left
 ·replace c3:=Zf c3
  subst c3
  rw [if_neg nft] at H
  obtain rfl:=Zo H
  go_enter Tryz.func128,Tryz.ntmps128
  go_wp2_with (first | ((with_reducible refine Qaf (N:=1) rfl ?_); (try (refine Qah (by rfl) ?_; dsimp only)); refine bx 1 #[.int .i64 a0_0, .int .i64 a0_1, .int .i64 a0_2, .int .i64 a0_3, .int .i64 a0_4, .int .i64 a0_5, .string a0_6, .slice A0_7 l0_7.length c0_7, .int .i64 a0_8, .int .i64 a0_9, .int .i64 a0_10] 34 (h := ?_); intro gb145 hg w36 hbox hb; have BK145:=Zz.k (hbox); have GW145:=bz HB hg; have GE145:=bz HB hg; replace HB:=bs HB hb; clear hb hbox hg; obtain ⟨_,_,_,_,_,_,_,_,_,_,_,_,_,_,_,_,_,_,_,_,_,_⟩:=kc11 BK145) | ((with_reducible refine Qac (f:=126) rfl ?_); refine gl (some 7) Tryz.func126 #[.int .i64 a0_8, .int .i64 a0_9] (h := ?_); (with_reducible refine (op_Name.calls a0_8 a0_9 false _ A2.out).mono ?_); rintro e w' ⟨rfl,⟨nd,rfl⟩⟩; refine ⟨_,rfl, ?_⟩))
  go_ret
  exact ⟨re,bw HB⟩
 subst c3
 rw [if_pos rfl] at H
 by_cases c4 : a0_8 = a0_0; rotate_left
 ·rw [if_neg c4] at H
  obtain ⟨c4b0,c4b1⟩:=bF c4
  by_cases c22 : a0_10 < 0
  ·rw [if_pos c22] at H
   have c22b0:=Zd c22
   clear c22
   obtain rfl:=Zo H
   go_enter Tryz.func128,Tryz.ntmps128
   go_wp2_with (first | ((with_reducible refine Qaf (N:=1) rfl ?_); (try (refine Qah (by rfl) ?_; dsimp only)); refine bx 1 #[.int .i64 a0_0, .int .i64 a0_1, .int .i64 a0_2, .int .i64 a0_3, .int .i64 a0_4, .int .i64 a0_5, .string a0_6, .slice A0_7 l0_7.length c0_7, .int .i64 a0_8, .int .i64 a0_9, .int .i64 a0_10] 34 (h := ?_); intro gb145 hg w23 hbox hb; have BK145:=Zz.k (hbox); have GW145:=bz HB hg; have GE145:=bz HB hg; replace HB:=bs HB hb; clear hb hbox hg; obtain ⟨_,_,_,_,_,_,_,_,_,_,_,_,_,_,_,_,_,_,_,_,_,_⟩:=kc11 BK145) | ((with_reducible refine Qac (f:=126) rfl ?_); refine gl (some 7) Tryz.func126 #[.int .i64 a0_8, .int .i64 a0_9] (h := ?_); (with_reducible refine (op_Name.calls a0_8 a0_9 true _ A2.out).mono ?_); rintro e w' ⟨rfl,⟨nd,rfl⟩⟩; refine ⟨_,rfl, ?_⟩))
   go_ret
   exact ⟨re,bw HB⟩
  rw [if_neg c22] at H
  have c22b0:=Ze c22
  clear c22
  by_cases c25 : a0_10 > 268435456
  ·rw [if_pos c25] at H
   have c25b0:=Zd c25
   clear c25
   obtain rfl:=Zo H
   go_enter Tryz.func128,Tryz.ntmps128
   go_wp2_with (first | ((with_reducible refine Qaf (N:=1) rfl ?_); (try (refine Qah (by rfl) ?_; dsimp only)); refine bx 1 #[.int .i64 a0_0, .int .i64 a0_1, .int .i64 a0_2, .int .i64 a0_3, .int .i64 a0_4, .int .i64 a0_5, .string a0_6, .slice A0_7 l0_7.length c0_7, .int .i64 a0_8, .int .i64 a0_9, .int .i64 a0_10] 34 (h := ?_); intro gb145 hg w26 hbox hb; have BK145:=Zz.k (hbox); have GW145:=bz HB hg; have GE145:=bz HB hg; replace HB:=bs HB hb; clear hb hbox hg; obtain ⟨_,_,_,_,_,_,_,_,_,_,_,_,_,_,_,_,_,_,_,_,_,_⟩:=kc11 BK145) | ((with_reducible refine Qac (f:=126) rfl ?_); refine gl (some 7) Tryz.func126 #[.int .i64 a0_8, .int .i64 a0_9] (h := ?_); (with_reducible refine (op_Name.calls a0_8 a0_9 true _ A2.out).mono ?_); rintro e w' ⟨rfl,⟨nd,rfl⟩⟩; refine ⟨_,rfl, ?_⟩))
   go_ret
   exact ⟨re,bw HB⟩
  rw [if_neg c25] at H
  have c25b0:=Ze c25
  clear c25
  by_cases c28 : (a0_3 == 0 && (a0_4 == 0 && (a0_5 == 0))) = true; rotate_left
  ·rw [if_neg c28] at H
   have c28b0 : (a0_3 == 0 && (a0_4 == 0 && (a0_5 == 0))) = false:=by simpa using c28
   (try (have c28b1 : decide (a0_3 = 0 && (a0_4 == 0 && (a0_5 == 0))) = false:=by simpa using c28))
   (try (have c28b2 : (a0_3 == 0 && (a0_4 == 0 && (a0_5 == 0))) = false:=by simpa using c28))
   (try (have c28b3 : ¬ (a0_3 = 0 && (a0_4 == 0 && (a0_5 == 0))):=by simpa using c28))
   clear c28
   obtain rfl:=Zo H
   go_enter Tryz.func128,Tryz.ntmps128
   go_wp2_with (first | ((with_reducible refine Qaf (N:=1) rfl ?_); (try (refine Qah (by rfl) ?_; dsimp only)); refine bx 1 #[.int .i64 a0_0, .int .i64 a0_1, .int .i64 a0_2, .int .i64 a0_3, .int .i64 a0_4, .int .i64 a0_5, .string a0_6, .slice A0_7 l0_7.length c0_7, .int .i64 a0_8, .int .i64 a0_9, .int .i64 a0_10] 34 (h := ?_); intro gb145 hg w34 hbox hb; have BK145:=Zz.k (hbox); have GW145:=bz HB hg; have GE145:=bz HB hg; replace HB:=bs HB hb; clear hb hbox hg; obtain ⟨_,_,_,_,_,_,_,_,_,_,_,_,_,_,_,_,_,_,_,_,_,_⟩:=kc11 BK145) | ((with_reducible refine Qac (f:=126) rfl ?_); refine gl (some 7) Tryz.func126 #[.int .i64 a0_8, .int .i64 a0_9] (h := ?_); (with_reducible refine (op_Name.calls a0_8 a0_9 true _ A2.out).mono ?_); rintro e w' ⟨rfl,⟨nd,rfl⟩⟩; refine ⟨_,rfl, ?_⟩))
   go_ret
   exact ⟨re,bw HB⟩
  rw [if_pos c28] at H
  have c28b0 : (a0_3 == 0 && (a0_4 == 0 && (a0_5 == 0))) = true:=c28
  (try (have c28b1 : decide (a0_3 = 0 && (a0_4 == 0 && (a0_5 == 0))) = true:=by simpa using c28))
  (try (have c28b2 : (a0_3 == 0 && (a0_4 == 0 && (a0_5 == 0))) = true:=by simpa using c28))
  clear c28
  by_cases c29 : a0_6.toList = ([] : List UInt8)
  ·rw [if_pos c29] at H
   obtain ⟨c29b0,c29b1⟩:=bT c29
   clear c29
   obtain rfl:=Zo H
   go_enter Tryz.func128,Tryz.ntmps128
   go_wp2_with (first | ((with_reducible refine Qaf (N:=1) rfl ?_); (try (refine Qah (by rfl) ?_; dsimp only)); refine bx 1 #[.int .i64 a0_0, .int .i64 a0_1, .int .i64 a0_2, .int .i64 a0_3, .int .i64 a0_4, .int .i64 a0_5, .string a0_6, .slice A0_7 l0_7.length c0_7, .int .i64 a0_8, .int .i64 a0_9, .int .i64 a0_10] 34 (h := ?_); intro gb145 hg w30 hbox hb; have BK145:=Zz.k (hbox); have GW145:=bz HB hg; have GE145:=bz HB hg; replace HB:=bs HB hb; clear hb hbox hg; obtain ⟨_,_,_,_,_,_,_,_,_,_,_,_,_,_,_,_,_,_,_,_,_,_⟩:=kc11 BK145) | ((with_reducible refine Qac (f:=126) rfl ?_); refine gl (some 7) Tryz.func126 #[.int .i64 a0_8, .int .i64 a0_9] (h := ?_); (with_reducible refine (op_Name.calls a0_8 a0_9 true _ A2.out).mono ?_); rintro e w' ⟨rfl,⟨nd,rfl⟩⟩; refine ⟨_,rfl, ?_⟩))
   go_ret
   exact ⟨re,bw HB⟩
  rw [if_neg c29] at H
  obtain ⟨c29b0,c29b1⟩:=bF c29
  obtain rfl:=Zo H
  go_enter Tryz.func128,Tryz.ntmps128
  go_wp2_with (first | ((with_reducible refine Qaf (N:=1) rfl ?_); (try (refine Qah (by rfl) ?_; dsimp only)); refine bx 1 #[.int .i64 a0_0, .int .i64 a0_1, .int .i64 a0_2, .int .i64 a0_3, .int .i64 a0_4, .int .i64 a0_5, .string a0_6, .slice A0_7 l0_7.length c0_7, .int .i64 a0_8, .int .i64 a0_9, .int .i64 a0_10] 34 (h := ?_); intro gb145 hg w32 hbox hb; have BK145:=Zz.k (hbox); have GW145:=bz HB hg; have GE145:=bz HB hg; replace HB:=bs HB hb; clear hb hbox hg; obtain ⟨_,_,_,_,_,_,_,_,_,_,_,_,_,_,_,_,_,_,_,_,_,_⟩:=kc11 BK145) | ((with_reducible refine Qac (f:=126) rfl ?_); refine gl (some 7) Tryz.func126 #[.int .i64 a0_8, .int .i64 a0_9] (h := ?_); (with_reducible refine (op_Name.calls a0_8 a0_9 true _ A2.out).mono ?_); rintro e w' ⟨rfl,⟨nd,rfl⟩⟩; refine ⟨_,rfl, ?_⟩))
  go_ret
  exact ⟨re,bw HB⟩
 rw [if_pos c4] at H
 obtain ⟨c4b0,c4b1⟩:=bT c4
 clear c4
 by_cases c5 : a0_9 = a0_1
 ·rw [if_pos c5] at H
  obtain ⟨c5b0,c5b1⟩:=bT c5
  clear c5
  obtain rfl:=Zo H
  go_enter Tryz.func128,Tryz.ntmps128
  go_wp2_with (first | ((with_reducible refine Qaf (N:=1) rfl ?_); (try (refine Qah (by rfl) ?_; dsimp only)); refine bx 1 #[.int .i64 a0_0, .int .i64 a0_1, .int .i64 a0_2, .int .i64 a0_3, .int .i64 a0_4, .int .i64 a0_5, .string a0_6, .slice A0_7 l0_7.length c0_7, .int .i64 a0_8, .int .i64 a0_9, .int .i64 a0_10] 34 (h := ?_); intro gb145 hg w6 hbox hb; have BK145:=Zz.k (hbox); have GW145:=bz HB hg; have GE145:=bz HB hg; replace HB:=bs HB hb; clear hb hbox hg; obtain ⟨_,_,_,_,_,_,_,_,_,_,_,_,_,_,_,_,_,_,_,_,_,_⟩:=kc11 BK145) | ((with_reducible refine Qac (f:=126) rfl ?_); refine gl (some 7) Tryz.func126 #[.int .i64 a0_8, .int .i64 a0_9] (h := ?_); (with_reducible refine (op_Name.calls a0_8 a0_9 true _ A2.out).mono ?_); rintro e w' ⟨rfl,⟨nd,rfl⟩⟩; refine ⟨_,rfl, ?_⟩))
  go_ret
  exact ⟨re,bw HB⟩
 rw [if_neg c5] at H
 obtain ⟨c5b0,c5b1⟩:=bF c5
 by_cases c8 : a0_10 < 0
 ·rw [if_pos c8] at H
  have c8b0:=Zd c8
  clear c8
  obtain rfl:=Zo H
  go_enter Tryz.func128,Tryz.ntmps128
  go_wp2_with (first | ((with_reducible refine Qaf (N:=1) rfl ?_); (try (refine Qah (by rfl) ?_; dsimp only)); refine bx 1 #[.int .i64 a0_0, .int .i64 a0_1, .int .i64 a0_2, .int .i64 a0_3, .int .i64 a0_4, .int .i64 a0_5, .string a0_6, .slice A0_7 l0_7.length c0_7, .int .i64 a0_8, .int .i64 a0_9, .int .i64 a0_10] 34 (h := ?_); intro gb145 hg w9 hbox hb; have BK145:=Zz.k (hbox); have GW145:=bz HB hg; have GE145:=bz HB hg; replace HB:=bs HB hb; clear hb hbox hg; obtain ⟨_,_,_,_,_,_,_,_,_,_,_,_,_,_,_,_,_,_,_,_,_,_⟩:=kc11 BK145) | ((with_reducible refine Qac (f:=126) rfl ?_); refine gl (some 7) Tryz.func126 #[.int .i64 a0_8, .int .i64 a0_9] (h := ?_); (with_reducible refine (op_Name.calls a0_8 a0_9 true _ A2.out).mono ?_); rintro e w' ⟨rfl,⟨nd,rfl⟩⟩; refine ⟨_,rfl, ?_⟩))
  go_ret
  exact ⟨re,bw HB⟩
 rw [if_neg c8] at H
 have c8b0:=Ze c8
 clear c8
 by_cases c11 : a0_10 > 268435456
 ·rw [if_pos c11] at H
  have c11b0:=Zd c11
  clear c11
  obtain rfl:=Zo H
  go_enter Tryz.func128,Tryz.ntmps128
  go_wp2_with (first | ((with_reducible refine Qaf (N:=1) rfl ?_); (try (refine Qah (by rfl) ?_; dsimp only)); refine bx 1 #[.int .i64 a0_0, .int .i64 a0_1, .int .i64 a0_2, .int .i64 a0_3, .int .i64 a0_4, .int .i64 a0_5, .string a0_6, .slice A0_7 l0_7.length c0_7, .int .i64 a0_8, .int .i64 a0_9, .int .i64 a0_10] 34 (h := ?_); intro gb145 hg w12 hbox hb; have BK145:=Zz.k (hbox); have GW145:=bz HB hg; have GE145:=bz HB hg; replace HB:=bs HB hb; clear hb hbox hg; obtain ⟨_,_,_,_,_,_,_,_,_,_,_,_,_,_,_,_,_,_,_,_,_,_⟩:=kc11 BK145) | ((with_reducible refine Qac (f:=126) rfl ?_); refine gl (some 7) Tryz.func126 #[.int .i64 a0_8, .int .i64 a0_9] (h := ?_); (with_reducible refine (op_Name.calls a0_8 a0_9 true _ A2.out).mono ?_); rintro e w' ⟨rfl,⟨nd,rfl⟩⟩; refine ⟨_,rfl, ?_⟩))
  go_ret
  exact ⟨re,bw HB⟩
 rw [if_neg c11] at H
 have c11b0:=Ze c11
 clear c11
 by_cases c14 : (a0_3 == 0 && (a0_4 == 0 && (a0_5 == 0))) = true; rotate_left
 ·rw [if_neg c14] at H
  have c14b0 : (a0_3 == 0 && (a0_4 == 0 && (a0_5 == 0))) = false:=by simpa using c14
  (try (have c14b1 : decide (a0_3 = 0 && (a0_4 == 0 && (a0_5 == 0))) = false:=by simpa using c14))
  (try (have c14b2 : (a0_3 == 0 && (a0_4 == 0 && (a0_5 == 0))) = false:=by simpa using c14))
  (try (have c14b3 : ¬ (a0_3 = 0 && (a0_4 == 0 && (a0_5 == 0))):=by simpa using c14))
  clear c14
  obtain rfl:=Zo H
  go_enter Tryz.func128,Tryz.ntmps128
  go_wp2_with (first | ((with_reducible refine Qaf (N:=1) rfl ?_); (try (refine Qah (by rfl) ?_; dsimp only)); refine bx 1 #[.int .i64 a0_0, .int .i64 a0_1, .int .i64 a0_2, .int .i64 a0_3, .int .i64 a0_4, .int .i64 a0_5, .string a0_6, .slice A0_7 l0_7.length c0_7, .int .i64 a0_8, .int .i64 a0_9, .int .i64 a0_10] 34 (h := ?_); intro gb145 hg w20 hbox hb; have BK145:=Zz.k (hbox); have GW145:=bz HB hg; have GE145:=bz HB hg; replace HB:=bs HB hb; clear hb hbox hg; obtain ⟨_,_,_,_,_,_,_,_,_,_,_,_,_,_,_,_,_,_,_,_,_,_⟩:=kc11 BK145) | ((with_reducible refine Qac (f:=126) rfl ?_); refine gl (some 7) Tryz.func126 #[.int .i64 a0_8, .int .i64 a0_9] (h := ?_); (with_reducible refine (op_Name.calls a0_8 a0_9 true _ A2.out).mono ?_); rintro e w' ⟨rfl,⟨nd,rfl⟩⟩; refine ⟨_,rfl, ?_⟩))
  go_ret
  exact ⟨re,bw HB⟩
 rw [if_pos c14] at H
 have c14b0 : (a0_3 == 0 && (a0_4 == 0 && (a0_5 == 0))) = true:=c14
 (try (have c14b1 : decide (a0_3 = 0 && (a0_4 == 0 && (a0_5 == 0))) = true:=by simpa using c14))
 (try (have c14b2 : (a0_3 == 0 && (a0_4 == 0 && (a0_5 == 0))) = true:=by simpa using c14))
 clear c14
 by_cases c15 : a0_6.toList = ([] : List UInt8)
 ·rw [if_pos c15] at H
  obtain ⟨c15b0,c15b1⟩:=bT c15
  clear c15
  obtain rfl:=Zo H
  go_enter Tryz.func128,Tryz.ntmps128
  go_wp2_with (first | ((with_reducible refine Qaf (N:=1) rfl ?_); (try (refine Qah (by rfl) ?_; dsimp only)); refine bx 1 #[.int .i64 a0_0, .int .i64 a0_1, .int .i64 a0_2, .int .i64 a0_3, .int .i64 a0_4, .int .i64 a0_5, .string a0_6, .slice A0_7 l0_7.length c0_7, .int .i64 a0_8, .int .i64 a0_9, .int .i64 a0_10] 34 (h := ?_); intro gb145 hg w16 hbox hb; have BK145:=Zz.k (hbox); have GW145:=bz HB hg; have GE145:=bz HB hg; replace HB:=bs HB hb; clear hb hbox hg; obtain ⟨_,_,_,_,_,_,_,_,_,_,_,_,_,_,_,_,_,_,_,_,_,_⟩:=kc11 BK145) | ((with_reducible refine Qac (f:=126) rfl ?_); refine gl (some 7) Tryz.func126 #[.int .i64 a0_8, .int .i64 a0_9] (h := ?_); (with_reducible refine (op_Name.calls a0_8 a0_9 true _ A2.out).mono ?_); rintro e w' ⟨rfl,⟨nd,rfl⟩⟩; refine ⟨_,rfl, ?_⟩))
  go_ret
  exact ⟨re,bw HB⟩
 rw [if_neg c15] at H
 obtain ⟨c15b0,c15b1⟩:=bF c15
 obtain rfl:=Zo H
 go_enter Tryz.func128,Tryz.ntmps128
 go_wp2_with (first | ((with_reducible refine Qaf (N:=1) rfl ?_); (try (refine Qah (by rfl) ?_; dsimp only)); refine bx 1 #[.int .i64 a0_0, .int .i64 a0_1, .int .i64 a0_2, .int .i64 a0_3, .int .i64 a0_4, .int .i64 a0_5, .string a0_6, .slice A0_7 l0_7.length c0_7, .int .i64 a0_8, .int .i64 a0_9, .int .i64 a0_10] 34 (h := ?_); intro gb145 hg w18 hbox hb; have BK145:=Zz.k (hbox); have GW145:=bz HB hg; have GE145:=bz HB hg; replace HB:=bs HB hb; clear hb hbox hg; obtain ⟨_,_,_,_,_,_,_,_,_,_,_,_,_,_,_,_,_,_,_,_,_,_⟩:=kc11 BK145) | ((with_reducible refine Qac (f:=126) rfl ?_); refine gl (some 7) Tryz.func126 #[.int .i64 a0_8, .int .i64 a0_9] (h := ?_); (with_reducible refine (op_Name.calls a0_8 a0_9 true _ A2.out).mono ?_); rintro e w' ⟨rfl,⟨nd,rfl⟩⟩; refine ⟨_,rfl, ?_⟩))
 go_ret
 exact ⟨re,bw HB⟩
def op_May.f (k : Nat) (a0_0 : Int) (a0_1 : Int) (a0_2 : Int) (a0_3 : Int) (a0_4 : Int) (a0_5 : Int) (a0_6 : ByteArray) (l0_7 : List (SElem)) (a0_8 : Int) (a0_9 : Int) (a0_10 : Int) : Option (Bool):=(op_Name.f a0_0 a0_1).bind fun t148 => (if t148 = true then (if a0_2 = 1 then ((op_edit.f k a0_0 a0_1 a0_2 a0_3 a0_4 a0_5 a0_6 l0_7 a0_8 a0_9 a0_10).bind fun t149 => (some t149)) else (if a0_2 = 2 then ((op_toggle.f a0_0 a0_1 a0_2 a0_3 a0_4 a0_5 a0_6 l0_7 a0_8 a0_9 a0_10).bind fun t150 => (some t150)) else (some false))) else (some false))
theorem op_May.calls (k : Nat) (a0_0 : Int) (a0_1 : Int) (a0_2 : Int) (a0_3 : Int) (a0_4 : Int) (a0_5 : Int) (a0_6 : ByteArray) (A0_7 : Option Addr) (c0_7 : Nat) (l0_7 : List (SElem)) (a0_8 : Int) (a0_9 : Int) (a0_10 : Int) (r : Bool) (w : World) (hr0_7 : Kd.C Qap w A0_7 l0_7.length l0_7) (hc0_7 : l0_7.length <= c0_7) (h : op_May.f k a0_0 a0_1 a0_2 a0_3 a0_4 a0_5 a0_6 l0_7 a0_8 a0_9 a0_10 = some r) :
  Calls Tryz.prog 102 #[.agg #[.int .i64 a0_0, .int .i64 a0_1, .int .i64 a0_2, .int .i64 a0_3, .int .i64 a0_4, .int .i64 a0_5, .string a0_6, .slice A0_7 l0_7.length c0_7, .int .i64 a0_8, .int .i64 a0_9, .int .i64 a0_10]] w fun e w' => e = .returned (.bool r) /\ Below w.heap.size w w':=by
 have hu34:=Tryz.underlying34
 have HR0_7:=Zz.k hr0_7
 have HC0_7:=Zz.k hc0_7
 clear hr0_7 hc0_7
 have HB:=Zz.k (Below.refl w.heap.size w)
 unfold op_May.f at h; have H:=h
 clear h
 obtain ⟨t148,A2,H⟩:=bE H
 by_cases c3 : t148 = true; rotate_left
 ·replace c3:=Zf c3
  subst c3
  rw [if_neg nft] at H
  obtain rfl:=Zo H
  go_enter Tryz.func102,Tryz.ntmps102
  go_wp2_with (first | ((with_reducible refine Qaf (N:=1) rfl ?_); refine bx 1 #[.int .i64 a0_0, .int .i64 a0_1, .int .i64 a0_2, .int .i64 a0_3, .int .i64 a0_4, .int .i64 a0_5, .string a0_6, .slice A0_7 l0_7.length c0_7, .int .i64 a0_8, .int .i64 a0_9, .int .i64 a0_10] 34 (h := ?_); intro gb147 hg w16 hbox hb; have BK147:=Zz.k (hbox); have GW147:=bz HB hg; have GE147:=bz HB hg; replace HB:=bs HB hb; clear hb hbox hg; obtain ⟨_,_,_,_,_,_,_,_,_,_,_,_,_,_,_,_,_,_,_,_,_,_⟩:=kc11 BK147) | ((with_reducible refine Qac (f:=126) rfl ?_); refine gl (some 8) Tryz.func126 #[.int .i64 a0_0, .int .i64 a0_1] (h := ?_); (with_reducible refine (op_Name.calls a0_0 a0_1 false _ A2.out).mono ?_); rintro e w' ⟨rfl,⟨nd,rfl⟩⟩; refine ⟨_,rfl, ?_⟩))
  go_ret
  exact ⟨re,bw HB⟩
 subst c3
 rw [if_pos rfl] at H
 by_cases c4 : a0_2 = 1
 ·rw [if_pos c4] at H
  obtain ⟨c4b0,c4b1⟩:=bT c4
  clear c4
  obtain ⟨t149,A5,H⟩:=bE H
  obtain rfl:=Zo H
  go_enter Tryz.func102,Tryz.ntmps102
  go_wp2_with (first | ((with_reducible refine Qaf (N:=1) rfl ?_); refine bx 1 #[.int .i64 a0_0, .int .i64 a0_1, .int .i64 a0_2, .int .i64 a0_3, .int .i64 a0_4, .int .i64 a0_5, .string a0_6, .slice A0_7 l0_7.length c0_7, .int .i64 a0_8, .int .i64 a0_9, .int .i64 a0_10] 34 (h := ?_); intro gb147 hg w6 hbox hb; have BK147:=Zz.k (hbox); have GW147:=bz HB hg; have GE147:=bz HB hg; replace HB:=bs HB hb; clear hb hbox hg; obtain ⟨_,_,_,_,_,_,_,_,_,_,_,_,_,_,_,_,_,_,_,_,_,_⟩:=kc11 BK147) | ((with_reducible refine Qac (f:=126) rfl ?_); refine gl (some 8) Tryz.func126 #[.int .i64 a0_0, .int .i64 a0_1] (h := ?_); (with_reducible refine (op_Name.calls a0_0 a0_1 true _ A2.out).mono ?_); rintro e w' ⟨rfl,⟨nd,rfl⟩⟩; refine ⟨_,rfl, ?_⟩) | ((with_reducible refine Qac (f:=127) rfl ?_); refine gl (some 15) Tryz.func127 #[.agg #[.int .i64 a0_0, .int .i64 a0_1, .int .i64 a0_2, .int .i64 a0_3, .int .i64 a0_4, .int .i64 a0_5, .string a0_6, .slice A0_7 l0_7.length c0_7, .int .i64 a0_8, .int .i64 a0_9, .int .i64 a0_10]] (h := ?_); (with_reducible refine (op_edit.calls k a0_0 a0_1 a0_2 a0_3 a0_4 a0_5 a0_6 _ _ l0_7 a0_8 a0_9 a0_10 t149 _ ?side1 ?side2 A5.out).mono ?_); (case side1 => repeat (first | exact (Kd.C_below HR0_7.out (bw HB)) | (with_reducible refine Kd.C_alloc ?_ _) | (with_reducible refine Kd.C_drewN ?_ _) | (with_reducible refine Kd.C_drew ?_))); (case side2 => exact HC0_7.out); rintro e w8 ⟨rfl,hb⟩; refine ⟨_,rfl, ?_⟩; replace BK147:=bl BK147 hb; replace HB:=bs HB hb; clear hb))
  go_ret
  exact ⟨re,bw HB⟩
 rw [if_neg c4] at H
 obtain ⟨c4b0,c4b1⟩:=bF c4
 by_cases c9 : a0_2 = 2; rotate_left
 ·rw [if_neg c9] at H
  obtain ⟨c9b0,c9b1⟩:=bF c9
  obtain rfl:=Zo H
  go_enter Tryz.func102,Tryz.ntmps102
  go_wp2_with (first | ((with_reducible refine Qaf (N:=1) rfl ?_); refine bx 1 #[.int .i64 a0_0, .int .i64 a0_1, .int .i64 a0_2, .int .i64 a0_3, .int .i64 a0_4, .int .i64 a0_5, .string a0_6, .slice A0_7 l0_7.length c0_7, .int .i64 a0_8, .int .i64 a0_9, .int .i64 a0_10] 34 (h := ?_); intro gb147 hg w14 hbox hb; have BK147:=Zz.k (hbox); have GW147:=bz HB hg; have GE147:=bz HB hg; replace HB:=bs HB hb; clear hb hbox hg; obtain ⟨_,_,_,_,_,_,_,_,_,_,_,_,_,_,_,_,_,_,_,_,_,_⟩:=kc11 BK147) | ((with_reducible refine Qac (f:=126) rfl ?_); refine gl (some 8) Tryz.func126 #[.int .i64 a0_0, .int .i64 a0_1] (h := ?_); (with_reducible refine (op_Name.calls a0_0 a0_1 true _ A2.out).mono ?_); rintro e w' ⟨rfl,⟨nd,rfl⟩⟩; refine ⟨_,rfl, ?_⟩))
  go_ret
  exact ⟨re,bw HB⟩
 rw [if_pos c9] at H
 obtain ⟨c9b0,c9b1⟩:=bT c9
 clear c9
 obtain ⟨t150,A10,H⟩:=bE H
 obtain rfl:=Zo H
 go_enter Tryz.func102,Tryz.ntmps102
 go_wp2_with (first | ((with_reducible refine Qaf (N:=1) rfl ?_); refine bx 1 #[.int .i64 a0_0, .int .i64 a0_1, .int .i64 a0_2, .int .i64 a0_3, .int .i64 a0_4, .int .i64 a0_5, .string a0_6, .slice A0_7 l0_7.length c0_7, .int .i64 a0_8, .int .i64 a0_9, .int .i64 a0_10] 34 (h := ?_); intro gb147 hg w11 hbox hb; have BK147:=Zz.k (hbox); have GW147:=bz HB hg; have GE147:=bz HB hg; replace HB:=bs HB hb; clear hb hbox hg; obtain ⟨_,_,_,_,_,_,_,_,_,_,_,_,_,_,_,_,_,_,_,_,_,_⟩:=kc11 BK147) | ((with_reducible refine Qac (f:=126) rfl ?_); refine gl (some 8) Tryz.func126 #[.int .i64 a0_0, .int .i64 a0_1] (h := ?_); (with_reducible refine (op_Name.calls a0_0 a0_1 true _ A2.out).mono ?_); rintro e w' ⟨rfl,⟨nd,rfl⟩⟩; refine ⟨_,rfl, ?_⟩) | (go_at_call 128; (with_reducible refine (op_toggle.calls a0_0 a0_1 a0_2 a0_3 a0_4 a0_5 a0_6 _ _ l0_7 a0_8 a0_9 a0_10 t150 _ ?side1 ?side2 A10.out).mono ?_); (case side1 => repeat (first | exact (Kd.C_below HR0_7.out (bw HB)) | (with_reducible refine Kd.C_alloc ?_ _) | (with_reducible refine Kd.C_drewN ?_ _) | (with_reducible refine Kd.C_drew ?_))); (case side2 => exact HC0_7.out); rintro e w13 ⟨rfl,hb⟩; replace BK147:=bl BK147 hb; replace HB:=bs HB hb; clear hb))
 go_ret
 exact ⟨re,bw HB⟩
def edit_Next.l0 : Nat -> Int -> Int -> List (SOp) -> Int -> Int -> Option (Int)
 | 0,_,_,_,_,_ => none
 | k + 1,x1,x5,x8,x9,x10 => if x10 < x9 then (if 0 <= x10 then (if x10 < (x8.length : Int) then (if ((Qad x8 x10).f0) = x1 then (edit_Next.l0 k x1 (wrap64 (x5 + 1)) x8 x9 (wrap64 (x10 + 1))) else (edit_Next.l0 k x1 x5 x8 x9 (wrap64 (x10 + 1)))) else (none)) else (none)) else (some x5)
def edit_Next.f (k : Nat) (l0 : List (SOp)) (a1 : Int) : Option (Int):=edit_Next.l0 k a1 1 l0 (l0.length : Int) 0
theorem edit_Next.calls (k : Nat) (A0 : Option Addr) (c0 : Nat) (l0 : List (SOp)) (a1 : Int) (r : Int) (w : World) (hr0 : Kd.C kOp w A0 l0.length l0) (hc0 : l0.length <= c0) (h : edit_Next.f k l0 a1 = some r) :
  Calls Tryz.prog 49 #[.slice A0 l0.length c0, .int .i64 a1] w fun e w' => e = .returned (.int .i64 r) /\ Below w.heap.size w w':=by
 have hu34:=Tryz.underlying34
 have HR0:=Zz.k hr0
 have HC0:=Zz.k hc0
 clear hr0 hc0
 have HB:=Zz.k (Below.refl w.heap.size w)
 unfold edit_Next.f at h; have H:=h
 clear h
 have H':=Zz.k H
 clear H
 go_enter Tryz.func49,Tryz.ntmps49
 go_wp2
 go_loopg [5,10] k (fun kq v5 v10 w' => ∃ (x5_1 : Int) (x10_1 : Int),v5 = .int .i64 x5_1 /\ v10 = .int .i64 x10_1 /\ Zz (edit_Next.l0 kq a1 x5_1 l0 (l0.length : Int) x10_1 = some r) /\ Zz (kq <= k) /\ Zz (Below w.heap.size w w'))
 case atStart => exact ⟨(1),(0),rf,rf,H',⟨Nat.le_refl _⟩,⟨bw HB⟩⟩
 case round =>
  clear H'
  obtain ⟨x5_1,x10_1,rfl,rfl,HA,HK1,HB⟩:=hrel
  cases gk with
  | zero => exact absurd HA.out (by simp [edit_Next.l0])
  | succ k1 =>
   have H:=HA.out
   clear HA
   simp only [edit_Next.l0] at H
   by_cases c3 : x10_1 < (l0.length : Int); rotate_left
   ·rw [if_neg c3] at H
    have c3b0:=Ze c3
    clear c3
    obtain rfl:=Zo H
    go_wp2
    go_ret
    exact ⟨re,bw HB⟩
   rw [if_pos c3] at H
   have c3b0:=Zd c3
   clear c3
   by_cases c4 : 0 <= x10_1; rotate_left
   ·rw [if_neg c4] at H
    exact absurd H (by simp)
   rw [if_pos c4] at H
   have c4b0:=Zd c4
   clear c4
   by_cases c5 : x10_1 < (l0.length : Int); rotate_left
   ·rw [if_neg c5] at H
    exact absurd H (by simp)
   rw [if_pos c5] at H
   have c5b0:=Zd c5
   clear c5
   by_cases c6 : ((Qad l0 x10_1).f0) = a1
   ·rw [if_pos c6] at H
    obtain ⟨c6b0,c6b1⟩:=bT c6
    clear c6
    have H':=Zz.k H
    clear H
    have p151 : 0 <= (x10_1 : Int):=od
    have q151 : x10_1 < (l0.length : Int):=od
    obtain ⟨ad151,A151_7,c151_7,e151,hx151_0,hx151_1,hx151_2,hx151_3,hx151_4,hx151_5,hx151_6,hx151_7,hx151_8,hx151_9,hx151_10,hl151_7,hi151_7⟩:=Qcg HR0.out x10_1 p151 q151
    cases e151
    replace hx151_0:=cl HB hx151_0
    replace hx151_1:=cl HB hx151_1
    replace hx151_2:=cl HB hx151_2
    replace hx151_3:=cl HB hx151_3
    replace hx151_4:=cl HB hx151_4
    replace hx151_5:=cl HB hx151_5
    replace hx151_6:=cl HB hx151_6
    replace hx151_7:=cl HB hx151_7
    replace hx151_8:=cl HB hx151_8
    replace hx151_9:=cl HB hx151_9
    replace hx151_10:=cl HB hx151_10
    have HR151_7:=Zz.k hi151_7
    have HC151_7:=Zz.k hl151_7
    clear hi151_7 hl151_7
    replace p151:=eq_true p151
    replace q151:=eq_true q151
    go_wp2_with (first | ((with_reducible refine Qaf (N:=7) rfl ?_); refine bx 7 #[.int .i64 0, .int .i64 0, .int .i64 0, .int .i64 0, .int .i64 0, .int .i64 0, .string (⟨#[]⟩ : ByteArray), .slice none 0 0, .int .i64 0, .int .i64 0, .int .i64 0] 34 (h := ?_); intro gb152 hg w7 hbox hb; have BK152:=Zz.k (hbox); have GW152:=bz HB hg; have GE152:=bz HB hg; replace HB:=bs HB hb; clear hb hbox hg; obtain ⟨_,_,_,_,_,_,_,_,_,_,_,_,_,_,_,_,_,_,_,_,_,_⟩:=kc11 BK152))
    go_roundg k1
    case measure => have:=HK1.out; omega
    case rel => exact ⟨(wrap64 (x5_1 + 1)),(wrap64 (x10_1 + 1)),rf,rf,H',⟨by have:=HK1.out; omega⟩,⟨bw HB⟩⟩
   rw [if_neg c6] at H
   obtain ⟨c6b0,c6b1⟩:=bF c6
   have H':=Zz.k H
   clear H
   have p151 : 0 <= (x10_1 : Int):=od
   have q151 : x10_1 < (l0.length : Int):=od
   obtain ⟨ad151,A151_7,c151_7,e151,hx151_0,hx151_1,hx151_2,hx151_3,hx151_4,hx151_5,hx151_6,hx151_7,hx151_8,hx151_9,hx151_10,hl151_7,hi151_7⟩:=Qcg HR0.out x10_1 p151 q151
   cases e151
   replace hx151_0:=cl HB hx151_0
   replace hx151_1:=cl HB hx151_1
   replace hx151_2:=cl HB hx151_2
   replace hx151_3:=cl HB hx151_3
   replace hx151_4:=cl HB hx151_4
   replace hx151_5:=cl HB hx151_5
   replace hx151_6:=cl HB hx151_6
   replace hx151_7:=cl HB hx151_7
   replace hx151_8:=cl HB hx151_8
   replace hx151_9:=cl HB hx151_9
   replace hx151_10:=cl HB hx151_10
   have HR151_7:=Zz.k hi151_7
   have HC151_7:=Zz.k hl151_7
   clear hi151_7 hl151_7
   replace p151:=eq_true p151
   replace q151:=eq_true q151
   go_wp2_with (first | ((with_reducible refine Qaf (N:=7) rfl ?_); refine bx 7 #[.int .i64 0, .int .i64 0, .int .i64 0, .int .i64 0, .int .i64 0, .int .i64 0, .string (⟨#[]⟩ : ByteArray), .slice none 0 0, .int .i64 0, .int .i64 0, .int .i64 0] 34 (h := ?_); intro gb152 hg w9 hbox hb; have BK152:=Zz.k (hbox); have GW152:=bz HB hg; have GE152:=bz HB hg; replace HB:=bs HB hb; clear hb hbox hg; obtain ⟨_,_,_,_,_,_,_,_,_,_,_,_,_,_,_,_,_,_,_,_,_,_⟩:=kc11 BK152))
   go_roundg k1
   case measure => have:=HK1.out; omega
   case rel => exact ⟨(x5_1),(wrap64 (x10_1 + 1)),rf,rf,H',⟨by have:=HK1.out; omega⟩,⟨bw HB⟩⟩
def w0_OpWeight.f (a0_0 : Int) (a0_1 : Int) (a0_2 : Int) (a0_3 : Int) (a0_4 : Int) (a0_5 : Int) (a0_6 : ByteArray) (l0_7 : List (SElem)) (a0_8 : Int) (a0_9 : Int) (a0_10 : Int) : Option (Int):=some (wrap64 ((wrap64 (2 + (wrap64 ((a0_6.size : Int) / 4)))) + (l0_7.length : Int)))
theorem w0_OpWeight.calls (a0_0 : Int) (a0_1 : Int) (a0_2 : Int) (a0_3 : Int) (a0_4 : Int) (a0_5 : Int) (a0_6 : ByteArray) (A0_7 : Option Addr) (c0_7 : Nat) (l0_7 : List (SElem)) (a0_8 : Int) (a0_9 : Int) (a0_10 : Int) (r : Int) (w : World) (hr0_7 : Kd.C Qap w A0_7 l0_7.length l0_7) (hc0_7 : l0_7.length <= c0_7) (h : w0_OpWeight.f a0_0 a0_1 a0_2 a0_3 a0_4 a0_5 a0_6 l0_7 a0_8 a0_9 a0_10 = some r) :
  Calls Tryz.prog 68 #[.agg #[.int .i64 a0_0, .int .i64 a0_1, .int .i64 a0_2, .int .i64 a0_3, .int .i64 a0_4, .int .i64 a0_5, .string a0_6, .slice A0_7 l0_7.length c0_7, .int .i64 a0_8, .int .i64 a0_9, .int .i64 a0_10]] w fun e w' => e = .returned (.int .i64 r) /\ Below w.heap.size w w':=by
 have hu34:=Tryz.underlying34
 have HR0_7:=Zz.k hr0_7
 have HC0_7:=Zz.k hc0_7
 clear hr0_7 hc0_7
 have HB:=Zz.k (Below.refl w.heap.size w)
 unfold w0_OpWeight.f at h; have H:=h
 clear h
 obtain rfl:=Zo H
 go_enter Tryz.func68,Tryz.ntmps68
 go_wp2_with (first | ((with_reducible refine Qaf (N:=1) rfl ?_); refine bx 1 #[.int .i64 a0_0, .int .i64 a0_1, .int .i64 a0_2, .int .i64 a0_3, .int .i64 a0_4, .int .i64 a0_5, .string a0_6, .slice A0_7 l0_7.length c0_7, .int .i64 a0_8, .int .i64 a0_9, .int .i64 a0_10] 34 (h := ?_); intro gb153 hg w2 hbox hb; have BK153:=Zz.k (hbox); have GW153:=bz HB hg; have GE153:=bz HB hg; replace HB:=bs HB hb; clear hb hbox hg; obtain ⟨_,_,_,_,_,_,_,_,_,_,_,_,_,_,_,_,_,_,_,_,_,_⟩:=kc11 BK153))
 go_ret
 exact ⟨re,bw HB⟩
def w0_OpsWeight.l0 : Nat -> List (SOp) -> Int -> Int -> Option (Int)
 | 0,_,_,_ => none
 | k + 1,x0,x3,x4 => if x4 < (x0.length : Int) then (if x3 < 1048576 then (if 0 <= x4 then ((w0_OpWeight.f ((Qad x0 x4).f0) ((Qad x0 x4).f1) ((Qad x0 x4).f2) ((Qad x0 x4).f3.f0) ((Qad x0 x4).f3.f1) ((Qad x0 x4).f3.f2) ((Qad x0 x4).f4) ((Qad x0 x4).f5) ((Qad x0 x4).f6) ((Qad x0 x4).f7) ((Qad x0 x4).f8)).bind fun t155 => (w0_OpsWeight.l0 k x0 (wrap64 (x3 + t155)) (wrap64 (x4 + 1)))) else (none)) else (some x3)) else (some x3)
def w0_OpsWeight.f (k : Nat) (l0 : List (SOp)) : Option (Int):=w0_OpsWeight.l0 k l0 (l0.length : Int) 0
theorem w0_OpsWeight.calls (k : Nat) (A0 : Option Addr) (c0 : Nat) (l0 : List (SOp)) (r : Int) (w : World) (hr0 : Kd.C kOp w A0 l0.length l0) (hc0 : l0.length <= c0) (h : w0_OpsWeight.f k l0 = some r) :
  Calls Tryz.prog 38 #[.slice A0 l0.length c0] w fun e w' => e = .returned (.int .i64 r) /\ Below w.heap.size w w':=by
 have hu34:=Tryz.underlying34
 have HR0:=Zz.k hr0
 have HC0:=Zz.k hc0
 clear hr0 hc0
 have HB:=Zz.k (Below.refl w.heap.size w)
 unfold w0_OpsWeight.f at h; have H:=h
 clear h
 have H':=Zz.k H
 clear H
 go_enter Tryz.func38,Tryz.ntmps38
 go_wp2
 go_loopg [3,4] k (fun kq v3 v4 w' => ∃ (x3_1 : Int) (x4_1 : Int),v3 = .int .i64 x3_1 /\ v4 = .int .i64 x4_1 /\ Zz (w0_OpsWeight.l0 kq l0 x3_1 x4_1 = some r) /\ Zz (kq <= k) /\ Zz (Below w.heap.size w w'))
 case atStart => exact ⟨((l0.length : Int)),(0),rf,rf,H',⟨Nat.le_refl _⟩,⟨bw HB⟩⟩
 case round =>
  clear H'
  obtain ⟨x3_1,x4_1,rfl,rfl,HA,HK1,HB⟩:=hrel
  cases gk with
  | zero => exact absurd HA.out (by simp [w0_OpsWeight.l0])
  | succ k1 =>
   have H:=HA.out
   clear HA
   simp only [w0_OpsWeight.l0] at H
   by_cases c2 : x4_1 < (l0.length : Int); rotate_left
   ·rw [if_neg c2] at H
    have c2b0:=Ze c2
    clear c2
    obtain rfl:=Zo H
    go_wp2
    go_ret
    exact ⟨re,bw HB⟩
   rw [if_pos c2] at H
   have c2b0:=Zd c2
   clear c2
   by_cases c3 : x3_1 < 1048576; rotate_left
   ·rw [if_neg c3] at H
    have c3b0:=Ze c3
    clear c3
    obtain rfl:=Zo H
    go_wp2
    go_ret
    exact ⟨re,bw HB⟩
   rw [if_pos c3] at H
   have c3b0:=Zd c3
   clear c3
   by_cases c4 : 0 <= x4_1; rotate_left
   ·rw [if_neg c4] at H
    exact absurd H (by simp)
   rw [if_pos c4] at H
   have c4b0:=Zd c4
   clear c4
   obtain ⟨t155,A5,H⟩:=bE H
   have H':=Zz.k H
   clear H
   have p154 : 0 <= (x4_1 : Int):=od
   have q154 : x4_1 < (l0.length : Int):=od
   obtain ⟨ad154,A154_7,c154_7,e154,hx154_0,hx154_1,hx154_2,hx154_3,hx154_4,hx154_5,hx154_6,hx154_7,hx154_8,hx154_9,hx154_10,hl154_7,hi154_7⟩:=Qcg HR0.out x4_1 p154 q154
   cases e154
   replace hx154_0:=cl HB hx154_0
   replace hx154_1:=cl HB hx154_1
   replace hx154_2:=cl HB hx154_2
   replace hx154_3:=cl HB hx154_3
   replace hx154_4:=cl HB hx154_4
   replace hx154_5:=cl HB hx154_5
   replace hx154_6:=cl HB hx154_6
   replace hx154_7:=cl HB hx154_7
   replace hx154_8:=cl HB hx154_8
   replace hx154_9:=cl HB hx154_9
   replace hx154_10:=cl HB hx154_10
   have HR154_7:=Zz.k hi154_7
   have HC154_7:=Zz.k hl154_7
   clear hi154_7 hl154_7
   replace p154:=eq_true p154
   replace q154:=eq_true q154
   go_wp2_with (first | ((with_reducible refine Qac (f:=68) rfl ?_); refine gl (some 22) Tryz.func68 #[.agg #[.int .i64 ((Qad l0 x4_1).f0), .int .i64 ((Qad l0 x4_1).f1), .int .i64 ((Qad l0 x4_1).f2), .int .i64 ((Qad l0 x4_1).f3.f0), .int .i64 ((Qad l0 x4_1).f3.f1), .int .i64 ((Qad l0 x4_1).f3.f2), .string ((Qad l0 x4_1).f4), .slice A154_7 ((Qad l0 x4_1).f5).length c154_7, .int .i64 ((Qad l0 x4_1).f6), .int .i64 ((Qad l0 x4_1).f7), .int .i64 ((Qad l0 x4_1).f8)]] (h := ?_); (with_reducible refine (w0_OpWeight.calls ((Qad l0 x4_1).f0) ((Qad l0 x4_1).f1) ((Qad l0 x4_1).f2) ((Qad l0 x4_1).f3.f0) ((Qad l0 x4_1).f3.f1) ((Qad l0 x4_1).f3.f2) ((Qad l0 x4_1).f4) _ _ ((Qad l0 x4_1).f5) ((Qad l0 x4_1).f6) ((Qad l0 x4_1).f7) ((Qad l0 x4_1).f8) t155 _ ?side1 ?side2 A5.out).mono ?_); (case side1 => exact cb HR154_7 HB); (case side2 => exact HC154_7.out); rintro e w6 ⟨rfl,hb⟩; refine ⟨_,rfl, ?_⟩; replace HB:=bs HB hb; clear hb))
   go_roundg k1
   case measure => have:=HK1.out; omega
   case rel => exact ⟨(wrap64 (x3_1 + t155)),(wrap64 (x4_1 + 1)),rf,rf,H',⟨by have:=HK1.out; omega⟩,⟨bw HB⟩⟩
def w5_Heavy.l0 : Nat -> Int -> Int -> List (List (SOp)) -> List (SElem) -> List (SOp) -> List Int -> Option (Bool)
 | 0,_,_,_,_,_,_ => none
 | k + 1,x3,x4,x157000,x157001,x157002,x157003 => if x4 < (x157000.length : Int) then (if x3 < 1048576 then (if 0 <= x4 then ((w0_OpsWeight.f k (Qbx x157000 x4)).bind fun t159 => (w5_Heavy.l0 k (wrap64 (x3 + t159)) (wrap64 (x4 + 1)) x157000 x157001 x157002 x157003)) else (none)) else (some (decide (x3 > 900)))) else (some (decide (x3 > 900)))
def w5_Heavy.f (k : Nat) (l0_0 : List (List (SOp))) (l0_1 : List (SElem)) (l0_2 : List (SOp)) (l0_3 : List Int) : Option (Bool):=(w0_OpsWeight.f k l0_2).bind fun t157 => (w5_Heavy.l0 k (wrap64 ((wrap64 ((l0_1.length : Int) + (l0_3.length : Int))) + t157)) 0 l0_0 l0_1 l0_2 l0_3)
def w5_Heavy.T1 : Bool × List (List Nat × List Nat):=(true,[([],[]),([0],[0]),([1],[1]),([],[]),([3],[3]),([4],[4]),([2,5],[2,5]),([],[]),([7],[7]),([8],[8]),([6,9],[6,9]),([10,9,0,1,2,3,4,5,6,7,8,9,10],[10])])
def w5_Heavy.B1 : List Nat:=[0,1,3,0,8,24,63,0,128,384,1023,2047]
theorem w5_Heavy.tab1 : rtab .any (Qdb Tryz.f7 1) = w5_Heavy.T1:=by kernel_rfl
theorem w5_Heavy.bits1 : Qay w5_Heavy.T1.2 w5_Heavy.B1 = true:=by kernel_rfl
theorem w5_Heavy.calls (k : Nat) (A0_0 : Option Addr) (c0_0 : Nat) (l0_0 : List (List (SOp))) (A0_1 : Option Addr) (c0_1 : Nat) (l0_1 : List (SElem)) (A0_2 : Option Addr) (c0_2 : Nat) (l0_2 : List (SOp)) (A0_3 : Option Addr) (c0_3 : Nat) (l0_3 : List Int) (r : Bool) (w : World) (hr0_0 : Kd.C (Kd.slice 34 kOp) w A0_0 l0_0.length l0_0) (hc0_0 : l0_0.length <= c0_0) (hr0_1 : Kd.C Qap w A0_1 l0_1.length l0_1) (hc0_1 : l0_1.length <= c0_1) (hr0_2 : Kd.C kOp w A0_2 l0_2.length l0_2) (hc0_2 : l0_2.length <= c0_2) (hr0_3 : Kd.C (Kd.int .i64) w A0_3 l0_3.length l0_3) (hc0_3 : l0_3.length <= c0_3) (h : w5_Heavy.f k l0_0 l0_1 l0_2 l0_3 = some r) :
  Calls Tryz.prog 7 #[.agg #[.slice A0_0 l0_0.length c0_0, .slice A0_1 l0_1.length c0_1, .slice A0_2 l0_2.length c0_2, .slice A0_3 l0_3.length c0_3]] w fun e w' => e = .returned (.bool r) /\ Below w.heap.size w w':=by
 have hu27:=Tryz.underlying27
 have HR0_0:=Zz.k hr0_0
 have HC0_0:=Zz.k hc0_0
 clear hr0_0 hc0_0
 have HR0_1:=Zz.k hr0_1
 have HC0_1:=Zz.k hc0_1
 clear hr0_1 hc0_1
 have HR0_2:=Zz.k hr0_2
 have HC0_2:=Zz.k hc0_2
 clear hr0_2 hc0_2
 have HR0_3:=Zz.k hr0_3
 have HC0_3:=Zz.k hc0_3
 clear hr0_3 hc0_3
 have HB:=Zz.k (Below.refl w.heap.size w)
 unfold w5_Heavy.f at h; have H:=h
 clear h
 obtain ⟨t157,A2,H⟩:=bE H
 have H':=Zz.k H
 clear H
 go_enter Tryz.func7,Tryz.ntmps7
 try go_wp2_with (first | ((with_reducible refine Qaf (N:=1) rfl ?_); refine bx 1 #[.slice A0_0 l0_0.length c0_0, .slice A0_1 l0_1.length c0_1, .slice A0_2 l0_2.length c0_2, .slice A0_3 l0_3.length c0_3] 27 (h := ?_); intro gb156 hg w3 hbox hb; have BK156:=Zz.k (hbox); have GW156:=bz HB hg; have GE156:=bz HB hg; replace HB:=bs HB hb; clear hb hbox hg))
 have n0_:=Zz.k (Qao BK156.out)
 have n1_:=Zz.k (Qae HB.out)
 clear BK156
 clear HB
 have BK156:=n0_
 have HB:=n1_
 clear n0_ n1_
 refine stP (fun w' => E4 w' gb156 (.slice A0_0 l0_0.length c0_0) (.slice A0_1 l0_1.length c0_1) (.slice A0_2 l0_2.length c0_2) (.slice A0_3 l0_3.length c0_3)) 12 (e4 BK156) (h:=fun hHeld => ?_); refine Qaw w5_Heavy.tab1 w5_Heavy.bits1 (fun HT_ HW_ => ?_)
 generalize w3.drew = w4 at BK156 HB hHeld ⊢
 refine pu HT_ 0 5 1 (h := ?_)
 refine pu HT_ 3 8 9 (h := ?_)
 refine pu HT_ 7 12 137 (h := ?_)
 refine tk HT_ HW_ hHeld 1 6 139 (h := ?_)
 refine pu HT_ 2 7 143 (h := ?_)
 refine tk HT_ HW_ hHeld 4 9 159 (h := ?_)
 refine pu HT_ 5 10 191 (h := ?_)
 refine pu HT_ 6 11 255 (h := ?_)
 refine tk HT_ HW_ hHeld 8 13 511 (h := ?_)
 refine on HT_ 9 (some 14) 1023 (h:=fun K hK => ?_)
 refine gS Tryz.func38 #[.slice A0_2 l0_2.length c0_2] (h := ?_)
 with_reducible refine (w0_OpsWeight.calls k _ _ l0_2 t157 _ ?side1 ?side2 A2.out).mono ?_
 (case side1 => exact cb HR0_2 HB)
 (case side2 => exact HC0_2.out)
 rintro e w5 ⟨rfl,hb⟩
 refine ⟨_,rfl, ?_⟩
 have n0_:=bl BK156 hb
 have n1_:=bs HB hb
 clear BK156
 clear HB
 have BK156:=n0_
 have HB:=n1_
 clear n0_ n1_
 (try clear hb)
 (try clear hb2)
 (try clear hk)
 (try clear hi)
 refine hK.out _ _ (e4 BK156) (fun hHeld => ?_)
 clear hK K
 refine nn 14 (h := ?_)
 refine pu HT_ 10 15 2047 (h := ?_)
 refine pu HT_ 11 3 4095 (h := ?_)
 refine dn HT_ (h := ?_)
 try go_wp2
 go_loopg [3,4] k (fun kq v3 v4 w' => ∃ (x3_1 : Int) (x4_1 : Int),v3 = .int .i64 x3_1 /\ v4 = .int .i64 x4_1 /\ Zz (w5_Heavy.l0 kq x3_1 x4_1 l0_0 l0_1 l0_2 l0_3 = some r) /\ Zz (kq <= k) /\ Zz (w'.heap[gb156]? = some (.cells #[(.slice A0_0 l0_0.length c0_0),(.slice A0_1 l0_1.length c0_1),(.slice A0_2 l0_2.length c0_2),(.slice A0_3 l0_3.length c0_3)] 27 (0,0))) /\ Zz (Below w.heap.size w w'))
 case atStart => exact ⟨(wrap64 ((wrap64 ((l0_1.length : Int) + (l0_3.length : Int))) + t157)),(0),rf,rf,H',⟨Nat.le_refl _⟩,⟨kk BK156⟩,⟨bw HB⟩⟩
 case round =>
  clear H'
  obtain ⟨x3_1,x4_1,rfl,rfl,HA,HK1,BK156,HB⟩:=hrel
  cases gk with
  | zero => exact absurd HA.out (by simp [w5_Heavy.l0])
  | succ k1 =>
   have H:=HA.out
   clear HA
   simp only [w5_Heavy.l0] at H
   by_cases c6 : x4_1 < (l0_0.length : Int); rotate_left
   ·rw [if_neg c6] at H
    have c6b0:=Ze c6
    clear c6
    obtain rfl:=Zo H
    obtain ⟨_,_,_,_,_,_,_,_⟩:=kc4 BK156
    go_wp2
    go_ret
    exact ⟨re,bw HB⟩
   rw [if_pos c6] at H
   have c6b0:=Zd c6
   clear c6
   by_cases c7 : x3_1 < 1048576; rotate_left
   ·rw [if_neg c7] at H
    have c7b0:=Ze c7
    clear c7
    obtain rfl:=Zo H
    obtain ⟨_,_,_,_,_,_,_,_⟩:=kc4 BK156
    go_wp2
    go_ret
    exact ⟨re,bw HB⟩
   rw [if_pos c7] at H
   have c7b0:=Zd c7
   clear c7
   by_cases c8 : 0 <= x4_1; rotate_left
   ·rw [if_neg c8] at H
    exact absurd H (by simp)
   rw [if_pos c8] at H
   have c8b0:=Zd c8
   clear c8
   obtain ⟨t159,A9,H⟩:=bE H
   have H':=Zz.k H
   clear H
   obtain ⟨_,_,_,_,_,_,_,_⟩:=kc4 BK156
   have p158 : 0 <= (x4_1 : Int):=od
   have q158 : x4_1 < (l0_0.length : Int):=od
   obtain ⟨ad158,A158_0,c158_0,e158,hx158_0,hl158_0,hi158_0⟩:=at_LOp HR0_0.out x4_1 p158 q158
   cases e158
   replace hx158_0:=cl HB hx158_0
   have HR158_0:=Zz.k hi158_0
   have HC158_0:=Zz.k hl158_0
   clear hi158_0 hl158_0
   replace p158:=eq_true p158
   replace q158:=eq_true q158
   go_wp2_with (first | ((with_reducible refine Qac (f:=38) rfl ?_); refine gl (some 33) Tryz.func38 #[.slice A158_0 (Qbx l0_0 x4_1).length c158_0] (h := ?_); (with_reducible refine (w0_OpsWeight.calls k1 _ _ (Qbx l0_0 x4_1) t159 _ ?side1 ?side2 A9.out).mono ?_); (case side1 => exact cb HR158_0 HB); (case side2 => exact HC158_0.out); rintro e w11 ⟨rfl,hb⟩; refine ⟨_,rfl, ?_⟩; replace BK156:=bl BK156 hb; replace HB:=bs HB hb; clear hb))
   go_roundg k1
   case measure => have:=HK1.out; omega
   case rel => exact ⟨(wrap64 (x3_1 + t159)),(wrap64 (x4_1 + 1)),rf,rf,H',⟨by have:=HK1.out; omega⟩,⟨kk BK156⟩,⟨bw HB⟩⟩
end
section
theorem enters_at {P : Program} {f : FuncId} {fn : Func} {c : Code} (hf : P.funcs[f]? = some fn) (hname : (fn.name == "runtime.NumGoroutine") = false) (hb : fn.body = some c) : ∀ (args : Array Value) (w : World), (callFunc f args).run P w = .ok (.enter f args) w := by
 intro args w
 have h1 : fn.name ≠ "runtime.NumGoroutine" := by simpa using hname
 simp [callFunc,hf,h1,hb,mark]
def opV (x : SOp) (A : Option Addr) (c : Nat) : Value:=.agg #[.int .i64 x.f0, .int .i64 x.f1, .int .i64 x.f2, .int .i64 x.f3.f0, .int .i64 x.f3.f1, .int .i64 x.f3.f2, .string x.f4, .slice A x.f5.length c, .int .i64 x.f6, .int .i64 x.f7, .int .i64 x.f8]
def elV (x : SElem) : Value:=.agg #[.int .i64 x.f0, .int .i64 x.f1, .int .i64 x.f2]
def Qbg (p : Nat -> Bool) (n : Nat) : Nat -> Nat -> Int
 | 0,_ => -1
 | d + 1,k => if k < n then (if p k then (k : Int) else Qbg p n d (k + 1)) else -1
theorem firstAt_end (p : Nat -> Bool) (n : Nat) : ∀ d k,n <= k -> Qbg p n d k = -1
 | 0,_,_ => rfl
 | d + 1,k,h => by simp [Qbg,Nat.not_lt.2 h]
def foundPost (p : Nat -> Bool) (n : Nat) (I J : Nat -> World -> Prop) (w : World) : Prop:=(∃ i,i < n /\ p i = true /\ (∀ j,j < i -> p j = false) /\ J i w) \/ ((∀ j,j < n -> p j = false) /\ I n w)
def stepPost (p : Nat -> Bool) (I J : Nat -> World -> Prop) (i : Nat) (w : World) : Prop:=(p i = true -> J i w) /\ (p i = false -> I (i + 1) w)
theorem IndexFuncOp (g : Nat) (lb : Array Value) (A : Option Addr) (c : Nat) (l : List SOp) (p : Nat -> Bool) (I J : Nat -> World -> Prop) (w : World) (eg : ∀ args w,(callFunc g args).run Tryz.prog w = .ok (.enter g args) w)
  (hm : l.length <= 9223372036854775807) (h0 : I 0 w) (hr : ∀ i W,I i W -> Kd.C kOp W A l.length l)
  (hs : ∀ (i : Nat) W (A7 : Option Addr) (c7 : Nat),i < l.length -> I i W -> (Qad l i).f5.length <= c7 -> Qap.C W A7 (Qad l i).f5.length (Qad l i).f5 ->
   Calls Tryz.prog g (#[opV (Qad l i) A7 c7] ++ lb) W fun e w' => e = .returned (.bool (p i)) /\ stepPost p I J i w') :
  Calls Tryz.prog 101 #[.slice A l.length c, .func (.func g) #[] lb] w fun e w' => e = .returned (.int .i64 (Qbg p l.length l.length 0)) /\ foundPost p l.length I J w':=by
 have HS:=Zz.k hs
 have HR:=Zz.k hr
 clear hs hr
 go_enter Tryz.func101,Tryz.ntmps101
 go_wp2
 go_loopg [5,8] l.length (fun gg _ s8 wr => ∃ kk : Nat,kk <= l.length /\ l.length - kk <= gg /\ s8 = .int .i64 kk /\ Zz (I kk wr) /\ Zz (∀ j,j < kk -> p j = false) /\ Zz (Qbg p l.length gg kk = Qbg p l.length l.length 0))
 case atStart => exact ⟨0,Nat.zero_le _,by omega,rfl,⟨h0⟩,⟨fun j hj => absurd hj (Nat.not_lt_zero _)⟩,⟨rfl⟩⟩
 case round =>
  obtain ⟨kk,hkk,hg,rfl,HI,HN,HF⟩:=hrel
  by_cases hlt : kk < l.length
  ·obtain ⟨g',rfl⟩ : ∃ g',gk = g' + 1:=⟨gk - 1,by omega⟩
   have hltz : (kk : Int) < (l.length : Int):=by omega
   have h0z : (0 : Int) <= (kk : Int):=by omega
   obtain ⟨ad,A7,c7,rfl,x0,x1,x2,x3,x4,x5,x6,x7,x8,x9,x10,l7,g7⟩:=Qcg (HR.out kk wr HI.out) (kk : Int) h0z hltz
   have hcall:=HS.out kk wr A7 c7 hlt HI.out l7 g7
   clear l7 g7
   simp only [Int.toNat_natCast] at x0 x1 x2 x3 x4 x5 x6 x7 x8 x9 x10
   simp only [opV] at hcall
   generalize Qad l (kk : Int) = o at x0 x1 x2 x3 x4 x5 x6 x7 x8 x9 x10 hcall
   have HF':=HF.out
   simp only [Qbg,hlt,if_true] at HF'
   cases hq : p kk with
   | true =>
    rw [hq] at hcall
    have HQ:=Zz.k hq
    simp only [hq,if_true] at HF'
    have HF2:=Zz.k HF'
    clear hq HF' HF
    go_wp2_with fail
    refine hcall.mono ?_
    rintro e w' ⟨rfl,hb'⟩
    go_wp2
    go_ret
    exact ⟨by rw [<- HF2.out]; rfl, .inl ⟨kk,hlt,HQ.out,HN.out,hb'.1 HQ.out⟩⟩
   | false =>
    rw [hq] at hcall
    have HQ:=Zz.k hq
    simp only [hq,Bool.false_eq_true,if_false] at HF'
    have HF2:=Zz.k HF'
    clear hq HF' HF
    go_wp2_with fail
    refine hcall.mono ?_
    rintro e w' ⟨rfl,hb'⟩
    go_wp2
    go_roundg g'
    case measure => omega
    case rel =>
     refine ⟨kk + 1,by omega,by omega,by go_num,⟨hb'.2 HQ.out⟩,⟨fun j hj => ?_⟩,HF2⟩
     by_cases e : j = kk
     ·subst e; exact HQ.out
     ·exact HN.out j (by omega)
  ·have hltz : ¬ (kk : Int) < (l.length : Int):=by omega
   have HF2:=HF.out
   rw [firstAt_end p _ gk kk (by omega)] at HF2
   have HF3:=Zz.k HF2
   clear HF2 HF
   obtain rfl : kk = l.length:=by omega
   go_wp2
   go_ret
   exact ⟨by rw [<- HF3.out]; rfl, .inr ⟨HN.out,HI.out⟩⟩
theorem firstAt_pos (p : Nat -> Bool) (n : Nat) : ∀ d k,n <= k + d -> decide (0 <= Qbg p n d k) = (List.range' k (n - k)).any p
 | 0,k,h => by simp [Qbg,show n - k = 0 by omega]
 | d + 1,k,h => by
  by_cases hk : k < n
  ·have e : n - k = (n - (k + 1)) + 1:=by omega
   rw [e,List.range'_succ,List.any_cons,<- firstAt_pos p n d (k + 1) (by omega)]
   simp only [Qbg,hk,if_true]
   cases p k <;> simp
  ·simp [Qbg,hk,show n - k = 0 by omega]
def anyAt (p : Nat -> Bool) (n : Nat) : Bool:=(List.range' 0 n).any p
theorem ContainsFuncOp (g : Nat) (lb : Array Value) (A : Option Addr) (c : Nat) (l : List SOp) (p : Nat -> Bool) (I J : Nat -> World -> Prop) (w : World) (eg : ∀ args w,(callFunc g args).run Tryz.prog w = .ok (.enter g args) w)
  (hm : l.length <= 9223372036854775807) (h0 : I 0 w) (hr : ∀ i W,I i W -> Kd.C kOp W A l.length l)
  (hs : ∀ (i : Nat) W (A7 : Option Addr) (c7 : Nat),i < l.length -> I i W -> (Qad l i).f5.length <= c7 -> Qap.C W A7 (Qad l i).f5.length (Qad l i).f5 ->
   Calls Tryz.prog g (#[opV (Qad l i) A7 c7] ++ lb) W fun e w' => e = .returned (.bool (p i)) /\ stepPost p I J i w') :
  Calls Tryz.prog 73 #[.slice A l.length c, .func (.func g) #[] lb] w fun e w' => e = .returned (.bool (anyAt p l.length)) /\ foundPost p l.length I J w':=by
 have cI:=IndexFuncOp g lb A c l p I J w eg hm h0 hr hs
 have hI:=firstAt_pos p l.length l.length 0 (by omega)
 generalize Qbg p l.length l.length 0 = i at cI hI
 have hI2 : anyAt p l.length = decide (0 <= i):=hI.symm
 rw [hI2]
 clear hI hI2 hs hr h0
 go_enter Tryz.func73,Tryz.ntmps73
 go_wp2_with fail
 refine cI.mono ?_
 rintro e w' ⟨rfl,hb⟩
 go_wp2
 go_ret
 exact ⟨rfl,hb⟩
theorem IndexFuncElem (g : Nat) (lb : Array Value) (A : Option Addr) (c : Nat) (l : List SElem) (p : Nat -> Bool) (I J : Nat -> World -> Prop) (w : World) (eg : ∀ args w,(callFunc g args).run Tryz.prog w = .ok (.enter g args) w)
  (hm : l.length <= 9223372036854775807) (h0 : I 0 w) (hr : ∀ i W,I i W -> Kd.C Qap W A l.length l)
  (hs : ∀ (i : Nat) W,i < l.length -> I i W ->
   Calls Tryz.prog g (#[elV (Qaa l i)] ++ lb) W fun e w' => e = .returned (.bool (p i)) /\ stepPost p I J i w') :
  Calls Tryz.prog 110 #[.slice A l.length c, .func (.func g) #[] lb] w fun e w' => e = .returned (.int .i64 (Qbg p l.length l.length 0)) /\ foundPost p l.length I J w':=by
 have HS:=Zz.k hs
 have HR:=Zz.k hr
 clear hs hr
 go_enter Tryz.func110,Tryz.ntmps110
 go_wp2
 go_loopg [5,8] l.length (fun gg _ s8 wr => ∃ kk : Nat,kk <= l.length /\ l.length - kk <= gg /\ s8 = .int .i64 kk /\ Zz (I kk wr) /\ Zz (∀ j,j < kk -> p j = false) /\ Zz (Qbg p l.length gg kk = Qbg p l.length l.length 0))
 case atStart => exact ⟨0,Nat.zero_le _,by omega,rfl,⟨h0⟩,⟨fun j hj => absurd hj (Nat.not_lt_zero _)⟩,⟨rfl⟩⟩
 case round =>
  obtain ⟨kk,hkk,hg,rfl,HI,HN,HF⟩:=hrel
  by_cases hlt : kk < l.length
  ·obtain ⟨g',rfl⟩ : ∃ g',gk = g' + 1:=⟨gk - 1,by omega⟩
   have hltz : (kk : Int) < (l.length : Int):=by omega
   have h0z : (0 : Int) <= (kk : Int):=by omega
   obtain ⟨ad,rfl,x0,x1,x2⟩:=Qbd (HR.out kk wr HI.out) (kk : Int) h0z hltz
   have hcall:=HS.out kk wr hlt HI.out
   simp only [Int.toNat_natCast] at x0 x1 x2
   simp only [elV] at hcall
   generalize Qaa l (kk : Int) = o at x0 x1 x2 hcall
   have HF':=HF.out
   simp only [Qbg,hlt,if_true] at HF'
   cases hq : p kk with
   | true =>
    rw [hq] at hcall
    have HQ:=Zz.k hq
    simp only [hq,if_true] at HF'
    have HF2:=Zz.k HF'
    clear hq HF' HF
    go_wp2_with fail
    refine hcall.mono ?_
    rintro e w' ⟨rfl,hb'⟩
    go_wp2
    go_ret
    exact ⟨by rw [<- HF2.out]; rfl, .inl ⟨kk,hlt,HQ.out,HN.out,hb'.1 HQ.out⟩⟩
   | false =>
    rw [hq] at hcall
    have HQ:=Zz.k hq
    simp only [hq,Bool.false_eq_true,if_false] at HF'
    have HF2:=Zz.k HF'
    clear hq HF' HF
    go_wp2_with fail
    refine hcall.mono ?_
    rintro e w' ⟨rfl,hb'⟩
    go_wp2
    go_roundg g'
    case measure => omega
    case rel =>
     refine ⟨kk + 1,by omega,by omega,by go_num,⟨hb'.2 HQ.out⟩,⟨fun j hj => ?_⟩,HF2⟩
     by_cases e : j = kk
     ·subst e; exact HQ.out
     ·exact HN.out j (by omega)
  ·have hltz : ¬ (kk : Int) < (l.length : Int):=by omega
   have HF2:=HF.out
   rw [firstAt_end p _ gk kk (by omega)] at HF2
   have HF3:=Zz.k HF2
   clear HF2 HF
   obtain rfl : kk = l.length:=by omega
   go_wp2
   go_ret
   exact ⟨by rw [<- HF3.out]; rfl, .inr ⟨HN.out,HI.out⟩⟩
theorem ContainsFuncElem (g : Nat) (lb : Array Value) (A : Option Addr) (c : Nat) (l : List SElem) (p : Nat -> Bool) (I J : Nat -> World -> Prop) (w : World) (eg : ∀ args w,(callFunc g args).run Tryz.prog w = .ok (.enter g args) w)
  (hm : l.length <= 9223372036854775807) (h0 : I 0 w) (hr : ∀ i W,I i W -> Kd.C Qap W A l.length l)
  (hs : ∀ (i : Nat) W,i < l.length -> I i W ->
   Calls Tryz.prog g (#[elV (Qaa l i)] ++ lb) W fun e w' => e = .returned (.bool (p i)) /\ stepPost p I J i w') :
  Calls Tryz.prog 104 #[.slice A l.length c, .func (.func g) #[] lb] w fun e w' => e = .returned (.bool (anyAt p l.length)) /\ foundPost p l.length I J w':=by
 have cI:=IndexFuncElem g lb A c l p I J w eg hm h0 hr hs
 have hI:=firstAt_pos p l.length l.length 0 (by omega)
 generalize Qbg p l.length l.length 0 = i at cI hI
 have hI2 : anyAt p l.length = decide (0 <= i):=hI.symm
 rw [hI2]
 clear hI hI2 hs hr h0
 go_enter Tryz.func104,Tryz.ntmps104
 go_wp2_with fail
 refine cI.mono ?_
 rintro e w' ⟨rfl,hb⟩
 go_wp2
 go_ret
 exact ⟨rfl,hb⟩
instance decElem : DecidableEq SElem:=fun a b => if h : a.f0 = b.f0 /\ a.f1 = b.f1 /\ a.f2 = b.f2 then isTrue (by obtain ⟨h0,h1,h2⟩:=h; cases a; cases b; simp_all) else isFalse (by rintro rfl; exact h ⟨rfl,rfl,rfl⟩)
theorem firstAt_none (p : Nat -> Bool) (n : Nat) : ∀ d k,n <= k + d -> (∀ j,k <= j -> j < n -> p j = false) -> Qbg p n d k = -1
 | 0,k,_,_ => rfl
 | d + 1,k,h,hp => by
  unfold Qbg
  by_cases hk : k < n
  ·rw [if_pos hk,hp k (Nat.le_refl _) hk]
   exact firstAt_none p n d (k + 1) (by omega) (fun j h1 h2 => hp j (by omega) h2)
  ·rw [if_neg hk]
theorem firstAt_some (p : Nat -> Bool) (n : Nat) : ∀ d k i,n <= k + d -> k <= i -> i < n -> p i = true -> (∀ j,k <= j -> j < i -> p j = false) -> Qbg p n d k = (i : Int)
 | 0,k,i,h,hk,hi,_,_ => by omega
 | d + 1,k,i,h,hk,hi,hp,hb => by
  unfold Qbg
  rw [if_pos (show k < n by omega)]
  by_cases e : k = i
  ·subst e; rw [hp]; rfl
  ·rw [hb k (Nat.le_refl _) (by omega)]
   exact firstAt_some p n d (k + 1) i (by omega) (by omega) hi hp (fun j h1 h2 => hb j (by omega) h2)
theorem firstAt_cases (p : Nat -> Bool) (n : Nat) : (∃ i,i < n /\ p i = true /\ (∀ j,j < i -> p j = false) /\ Qbg p n n 0 = (i : Int)) \/ ((∀ j,j < n -> p j = false) /\ Qbg p n n 0 = -1):=by
 by_cases h : ∃ i,i < n /\ p i = true
 ·have key : ∀ m,(∃ i,i < m /\ i < n /\ p i = true) -> ∃ i,i < n /\ p i = true /\ (∀ j,j < i -> p j = false):=by
   intro m
   induction m with
   | zero => rintro ⟨i,h,_⟩; omega
   | succ m ih =>
    rintro ⟨i,h1,h2,h3⟩
    by_cases hh : ∃ i,i < m /\ i < n /\ p i = true
    ·exact ih hh
    ·refine ⟨i,h2,h3,fun j hj => ?_⟩
     cases hp : p j
     ·rfl
     ·exact absurd ⟨j,by omega,by omega,hp⟩ hh
  obtain ⟨i,h1,h2⟩:=h
  obtain ⟨i,h1,h2,h3⟩:=key (i + 1) ⟨i,by omega,h1,h2⟩
  exact .inl ⟨i,h1,h2,h3,firstAt_some p n n 0 i (by omega) (by omega) h1 h2 (fun j _ h => h3 j h)⟩
 ·have h' : ∀ j,j < n -> p j = false:=fun j hj => by
   cases hp : p j
   ·rfl
   ·exact absurd ⟨j,hj,hp⟩ h
  exact .inr ⟨h',firstAt_none p n n 0 (by omega) (fun j _ h2 => h' j h2)⟩
end
section
open Go.Maps (Keyed IsMap has)
theorem i64wf {a : Int} (h : -9223372036854775808 <= a /\ a <= 9223372036854775807) : (Lit.int .i64 a).wf = true:=WalkArith.wf_i64 h
section
variable {κ : Type} [DecidableEq κ]
def MapK (enc : κ -> Value) (K E : TypeId) (w : World) (b n : Nat) (S : κ -> Option Int) : Prop :=
 ∃ D : DataW Unit,w.ownsMap Tryz.prog K (plainElem Tryz.prog E) b n D /\ IsMap D /\ ∀ x kl,keyOf Tryz.prog K (enc x) = some kl -> has D kl = (S x).isSome /\ D.atKey kl (.lit (.int .i64 0)) = .lit (.int .i64 ((S x).getD 0))
def MapB (enc : κ -> Value) (K E : TypeId) (w : World) (b n : Nat) (S : κ -> Bool) : Prop :=
 ∃ D : DataW Unit,w.ownsMap Tryz.prog K (plainElem Tryz.prog E) b n D /\ IsMap D /\ ∀ x kl,keyOf Tryz.prog K (enc x) = some kl -> D.atKey kl (.lit (.bool false)) = .lit (.bool (S x))
def upd (S : κ -> Option Int) (x : κ) (c : Int) : κ -> Option Int:=fun y => if y = x then some c else S y
def updB (S : κ -> Bool) (x : κ) : κ -> Bool:=fun y => if y = x then true else S y
variable {enc : κ -> Value} {T K E : TypeId} {w w' : World} {b n : Nat} {S : κ -> Option Int} {SB : κ -> Bool}
omit [DecidableEq κ] in
theorem MapK.made (enc : κ -> Value) (K E : TypeId) (w : World) : MapK enc K E (w.alloc (.map #[] 0)) w.heap.size 0 (fun _ => none) :=
 ⟨_,World.ownsMap_made _ _ _ _,Go.Maps.isMap_empty,fun x kl _ => ⟨rfl,rfl⟩⟩
omit [DecidableEq κ] in
theorem MapB.made (enc : κ -> Value) (K E : TypeId) (w : World) : MapB enc K E (w.alloc (.map #[] 0)) w.heap.size 0 (fun _ => false) :=
 ⟨_,World.ownsMap_made _ _ _ _,Go.Maps.isMap_empty,fun x kl _ => rfl⟩
omit [DecidableEq κ] in
theorem MapK.kept {row : Option Nat} (h : MapK enc K E w b n S) (hg : w.grownBy w' row) (hne : some b ≠ row) : MapK enc K E w' b n S:=by
 obtain ⟨D,ho,hi,hD⟩:=h
 exact ⟨D,ho.kept hg hne,hi,hD⟩
omit [DecidableEq κ] in
theorem MapB.kept {row : Option Nat} (h : MapB enc K E w b n SB) (hg : w.grownBy w' row) (hne : some b ≠ row) : MapB enc K E w' b n SB:=by
 obtain ⟨D,ho,hi,hD⟩:=h
 exact ⟨D,ho.kept hg hne,hi,hD⟩
omit [DecidableEq κ] in
theorem MapK.below {B : Nat} (h : MapK enc K E w b n S) (hb : Below B w w') (hB : b < B) : MapK enc K E w' b n S:=by
 obtain ⟨D,⟨es,clock,h1,h2⟩,hi,hD⟩:=h
 exact ⟨D,⟨es,clock,(hb.block b hB).trans h1,h2⟩,hi,hD⟩
omit [DecidableEq κ] in
theorem MapB.below {B : Nat} (h : MapB enc K E w b n SB) (hb : Below B w w') (hB : b < B) : MapB enc K E w' b n SB:=by
 obtain ⟨D,⟨es,clock,h1,h2⟩,hi,hD⟩:=h
 exact ⟨D,⟨es,clock,(hb.block b hB).trans h1,h2⟩,hi,hD⟩
omit [DecidableEq κ] in
theorem MapK.lt (h : MapK enc K E w b n S) : b < w.heap.size:=by obtain ⟨D,ho,_⟩:=h; exact ho.lt
omit [DecidableEq κ] in
theorem MapB.lt (h : MapB enc K E w b n SB) : b < w.heap.size:=by obtain ⟨D,ho,_⟩:=h; exact ho.lt
omit [DecidableEq κ] in
theorem MapK.setCell (h : MapK enc K E w b n S) {a : Addr} (ha : b ≠ a.block) (u : Value) : MapK enc K E (w.setCell a u) b n S:=by
 obtain ⟨D,ho,hi,hD⟩:=h
 exact ⟨D,ho.setCell ha u,hi,hD⟩
omit [DecidableEq κ] in
theorem MapK.more {m : Nat} (h : MapK enc K E w b n S) (hn : n <= m) : MapK enc K E w b m S:=by
 obtain ⟨D,ho,hi,hD⟩:=h
 exact ⟨D,ho.mono hn,hi,hD⟩
theorem lit_int_inj {a c : Int} (h : (DataW.lit (.int .i64 a) : DataW Unit) = .lit (.int .i64 c)) : a = c:=by
 injection h with h; injection h
theorem lit_bool_inj {a c : Bool} (h : (DataW.lit (.bool a) : DataW Unit) = .lit (.bool c)) : a = c:=by
 injection h with h; injection h
omit [DecidableEq κ] in
theorem MapK.look (h : MapK enc K E w b n S) (law : Keyed Tryz.prog K) (ht : Tryz.prog.underlying T = some (.map K E)) (he : Tryz.prog.underlying E = some (.int .i64)) (hz : ∀ w,(zeroValue E).run Tryz.prog w = .ok (.int .i64 0) w)
  (x : κ) {kl : Lit} (hk : keyOf Tryz.prog K (enc x) = some kl) : (Instr.lookup T (.map (some b)) (enc x) false).run Tryz.prog w = .ok (.int .i64 ((S x).getD 0)) w:=by
 obtain ⟨D,ho,hi,hD⟩:=h
 obtain ⟨c,hrun,hat,_⟩:=ho.lookup_int law ht he (hz w) hk
 rw [(hD x kl hk).2] at hat
 rw [hrun,lit_int_inj hat]
omit [DecidableEq κ] in
theorem MapK.lookOk (h : MapK enc K E w b n S) (law : Keyed Tryz.prog K) (ht : Tryz.prog.underlying T = some (.map K E)) (he : Tryz.prog.underlying E = some (.int .i64)) (hz : ∀ w,(zeroValue E).run Tryz.prog w = .ok (.int .i64 0) w)
  (x : κ) {kl : Lit} (hk : keyOf Tryz.prog K (enc x) = some kl) : (Instr.lookup T (.map (some b)) (enc x) true).run Tryz.prog w = .ok (.tuple #[.int .i64 ((S x).getD 0), .bool (S x).isSome]) w:=by
 obtain ⟨D,ho,hi,hD⟩:=h
 obtain ⟨v,ps,hrun,hv⟩:=ho.look_ok law ht (hz w) (plainElem_int he (by decide)) hk
 obtain ⟨c,rfl,hc,_⟩:=plainElem_int_inv he hv
 have hat:=congrArg Prod.fst hc
 simp only at hat
 rw [(hD x kl hk).2] at hat
 rw [hrun,(hD x kl hk).1,lit_int_inj hat]
omit [DecidableEq κ] in
theorem MapB.look (h : MapB enc K E w b n SB) (law : Keyed Tryz.prog K) (ht : Tryz.prog.underlying T = some (.map K E)) (he : Tryz.prog.underlying E = some .bool) (hz : ∀ w,(zeroValue E).run Tryz.prog w = .ok (.bool false) w)
  (x : κ) {kl : Lit} (hk : keyOf Tryz.prog K (enc x) = some kl) : (Instr.lookup T (.map (some b)) (enc x) false).run Tryz.prog w = .ok (.bool (SB x)) w:=by
 obtain ⟨D,ho,hi,hD⟩:=h
 obtain ⟨v,ps,hrun,hv⟩:=ho.lookup law ht (hz w) (plainElem_bool he false) hk
 rw [hD x kl hk] at hv
 rw [hrun]
 unfold plainElem at hv
 rw [he] at hv
 split at hv
 ·simp only [Option.some.injEq,Prod.mk.injEq] at hv; rw [lit_bool_inj hv.1]
 ·rename_i heq; injection heq with heq; cases heq
 ·rename_i heq; injection heq with heq; cases heq
 ·cases hv
theorem MapK.store (h : MapK enc K E w b n S) (law : Keyed Tryz.prog K) (ht : Tryz.prog.underlying T = some (.map K E)) (he : Tryz.prog.underlying E = some (.int .i64)) (hn : n < maxLen) (hinj : ∀ x y,enc x = enc y -> x = y)
  (x : κ) (c : Int) (hc : (Lit.int .i64 c).wf = true) {kl : Lit} (hk : keyOf Tryz.prog K (enc x) = some kl) :
  ∃ w',(Instr.mapUpdate T (.map (some b)) (enc x) (.int .i64 c)).run Tryz.prog w = .ok () w' /\ MapK enc K E w' b (n + 1) (upd S x c) /\ w.grownBy w' (some b):=by
 obtain ⟨D,ho,hi,hD⟩:=h
 obtain ⟨w',hrun,ho',hg⟩:=ho.update law ht hn hk (plainElem_int he hc)
 refine ⟨w',hrun,⟨_,ho',hi.put _ _,fun y kl' hk' => ?_⟩,hg⟩
 by_cases hy : y = x
 ·subst hy
  obtain rfl : kl = kl':=by rw [hk] at hk'; exact Zo hk'
  simp only [upd,if_true]
  exact ⟨Go.Maps.has_put_same hi (law.key hk) _,Go.Maps.atKey_put_same hi (law.key hk) _ _⟩
 ·have hne : kl' ≠ kl:=fun e => hy (hinj _ _ (law.inj hk' (by rw [e]; exact hk)))
  simp only [upd,hy,if_false]
  rw [Go.Maps.has_put_other hne,Go.Maps.atKey_put_other hne]
  exact hD y kl' hk'
theorem MapB.store (h : MapB enc K E w b n SB) (law : Keyed Tryz.prog K) (ht : Tryz.prog.underlying T = some (.map K E)) (he : Tryz.prog.underlying E = some .bool) (hn : n < maxLen) (hinj : ∀ x y,enc x = enc y -> x = y)
  (x : κ) {kl : Lit} (hk : keyOf Tryz.prog K (enc x) = some kl) :
  ∃ w',(Instr.mapUpdate T (.map (some b)) (enc x) (.bool true)).run Tryz.prog w = .ok () w' /\ MapB enc K E w' b (n + 1) (updB SB x) /\ w.grownBy w' (some b):=by
 obtain ⟨D,ho,hi,hD⟩:=h
 obtain ⟨w',hrun,ho',hg⟩:=ho.update law ht hn hk (plainElem_bool he true)
 refine ⟨w',hrun,⟨_,ho',hi.put _ _,fun y kl' hk' => ?_⟩,hg⟩
 by_cases hy : y = x
 ·subst hy
  obtain rfl : kl = kl':=by rw [hk] at hk'; exact Zo hk'
  simp only [updB,if_true]
  exact Go.Maps.atKey_put_same hi (law.key hk) _ _
 ·have hne : kl' ≠ kl:=fun e => hy (hinj _ _ (law.inj hk' (by rw [e]; exact hk)))
  simp only [updB,hy,if_false]
  rw [Go.Maps.atKey_put_other hne]
  exact hD y kl' hk'
end
theorem laidB : laidOutB Tryz.prog = true:=by kernel_rfl
def inI (a : Int) : Prop:=-9223372036854775808 <= a /\ a <= 9223372036854775807
def encI (a : Int) : Value:=.int .i64 a
def encE (x : Int × Int × Int) : Value:=.agg #[.int .i64 x.1, .int .i64 x.2.1, .int .i64 x.2.2]
theorem encI_inj (x y : Int) (h : encI x = encI y) : x = y:=by injection h
theorem encE_inj (x y : Int × Int × Int) (h : encE x = encE y) : x = y:=by
 simp [encE] at h; obtain ⟨a,b,c⟩:=x; obtain ⟨a',b',c'⟩:=y; simp_all
theorem lawI : Keyed Tryz.prog 3:=Go.Maps.int_keyed Tryz.underlying3
theorem keyI {a : Int} (h : inI a) : keyOf Tryz.prog 3 (encI a) = some (.int .i64 a):=Go.Maps.keyOf_int_mk Tryz.underlying3 (i64wf h)
theorem cellsI : Tryz.prog.cellsOf 3 = 1:=by kernel_rfl
theorem rowE : (32 : TypeId) < Tryz.prog.types.size:=of_decide_eq_true (by kernel_rfl)
theorem wideE : (match Tryz.prog.underlying 32 with | some (.array _ _) | some (.struct _) => true | _ => false) = true:=by rw [Tryz.underlying32]
theorem lawE : Keyed Tryz.prog 32:=Keyed.of_law (deep_law_laid laidB (m:=3) (by omega) rowE (by kernel_rfl) wideE)
theorem ktE : Tryz.prog.keyType 32 = true:=by kernel_rfl
theorem cellsE : Tryz.prog.cellsOf 32 = 3:=by kernel_rfl
theorem keyE {x : Int × Int × Int} (h0 : inI x.1) (h1 : inI x.2.1) (h2 : inI x.2.2) : ∃ kl,keyOf Tryz.prog 32 (encE x) = some kl:=by
 have e : (Tryz.prog.keyType 32 && (encE x).formed Tryz.prog 32) = true:=by
  rw [Bool.and_eq_true]; exact ⟨ktE,by simp [Value.formed,encE,Tryz.underlying32,cellsE]⟩
 have hs : ∃ n,Tryz.prog.types.size + 1 = n + 2:=⟨Tryz.prog.types.size - 1,by have h : (2 : Nat) < Tryz.prog.types.size:=of_decide_eq_true (by kernel_rfl); omega⟩
 obtain ⟨n,hn⟩:=hs
 unfold keyOf
 rw [Tryz.underlying32]
 simp only [e,if_true,hn]
 simp [Program.keyLits,encE,Value.cells,Tryz.underlying32,Tryz.underlying3,cellsE,cellsI,i64wf h0,i64wf h1,i64wf h2]
def encN (x : Int × Int) : Value:=.agg #[.int .i64 x.1, .int .i64 x.2]
theorem encN_inj (x y : Int × Int) (h : encN x = encN y) : x = y:=by
 simp [encN] at h; obtain ⟨a,b⟩:=x; obtain ⟨a',b'⟩:=y; simp_all
theorem rowN : (122 : TypeId) < Tryz.prog.types.size:=of_decide_eq_true (by kernel_rfl)
theorem wideN : (match Tryz.prog.underlying 122 with | some (.array _ _) | some (.struct _) => true | _ => false) = true:=by rw [Tryz.underlying122]
theorem lawN : Keyed Tryz.prog 122:=Keyed.of_law (deep_law_laid laidB (m:=3) (by omega) rowN (by kernel_rfl) wideN)
theorem ktN : Tryz.prog.keyType 122 = true:=by kernel_rfl
theorem cellsN : Tryz.prog.cellsOf 122 = 2:=by kernel_rfl
theorem keyN {x : Int × Int} (h0 : inI x.1) (h1 : inI x.2) : ∃ kl,keyOf Tryz.prog 122 (encN x) = some kl:=by
 have e : (Tryz.prog.keyType 122 && (encN x).formed Tryz.prog 122) = true:=by
  rw [Bool.and_eq_true]; exact ⟨ktN,by simp [Value.formed,encN,Tryz.underlying122,cellsN]⟩
 have hs : ∃ n,Tryz.prog.types.size + 1 = n + 2:=⟨Tryz.prog.types.size - 1,by have h : (2 : Nat) < Tryz.prog.types.size:=of_decide_eq_true (by kernel_rfl); omega⟩
 obtain ⟨n,hn⟩:=hs
 unfold keyOf
 rw [Tryz.underlying122]
 simp only [e,if_true,hn]
 simp [Program.keyLits,encN,Value.cells,Tryz.underlying122,Tryz.underlying3,cellsN,cellsI,i64wf h0,i64wf h1]
theorem zeroI (w : World) : (zeroValue 3).run Tryz.prog w = .ok (.int .i64 0) w:=by kernel_rfl
theorem zeroB (w : World) : (zeroValue 4).run Tryz.prog w = .ok (.bool false) w:=by kernel_rfl
end
section
def Qaq (e : SElem) : Bool:=e.f0 == 0 && (e.f1 == 0 && (e.f2 == 0))
def nameOk (s q : Int) : Bool:=decide (1 <= s) && decide (s <= 8) && decide (1 <= q) && decide (q <= 268435456)
def Qco (e : SElem) : Bool:=Qaq e || (nameOk e.f0 e.f1 && decide (0 <= e.f2) && decide (e.f2 < 12))
def ownEl (o : SOp) (e : SElem) : Bool:=e.f0 == o.f0 && e.f1 == o.f1
def elLess (a b : SElem) : Bool:=decide (a.f0 < b.f0) || (a.f0 == b.f0 && (decide (a.f1 < b.f1) || (a.f1 == b.f1 && decide (a.f2 < b.f2))))
def Qbs (o : SOp) : Option SElem -> List SElem -> Bool
 | _,[] => true
 | p,e :: r => !Qaq e && Qco e && !ownEl o e && (match p with | none => true | some q => elLess q e) && Qbs o (some e) r
def goneOk (o : SOp) : Bool:=Qbs o none o.f5 && decide (o.f5.length <= 200)
def Qaj (o : SOp) : Nat:=(Qba o.f4).length
def editOk (o : SOp) : Bool:=Qco o.f3 && !ownEl o o.f3 && !(o.f4.toList.isEmpty && !Qaq o.f3) && !(o.f4.toList.isEmpty && o.f5.isEmpty) && Qbq o.f4 && decide (Qaj o <= 12) && goneOk o && o.f6 == 0 && o.f7 == 0 && o.f8 == 0
def Qch (o : SOp) : Bool:=nameOk o.f6 o.f7 && !(o.f6 == o.f0 && o.f7 == o.f1) && decide (0 <= o.f8) && decide (o.f8 <= 268435456) && Qaq o.f3 && o.f4.toList.isEmpty && o.f5.isEmpty
def opOk (o : SOp) : Bool:=nameOk o.f0 o.f1 && (if o.f2 = 1 then editOk o else o.f2 == 2 && Qch o)
def Sm (o : SOp) : Prop:=o.f4.size < 9223372036854775807 /\ o.f5.length <= 9223372036854775807
theorem op_IsSite_f (a : Int) : op_IsSite.f a = some (decide (1 <= a) && decide (a <= 8)):=by
 unfold op_IsSite.f
 by_cases h : 1 <= a <;> simp [h]
theorem op_Name_f (a b : Int) : op_Name.f a b = some (nameOk a b):=by
 unfold op_Name.f nameOk
 rw [op_IsSite_f]
 simp only [Option.bind_some]
 by_cases h1 : 1 <= a <;> by_cases h2 : a <= 8 <;> by_cases h3 : 1 <= b <;> simp [h1,h2,h3]
theorem op_IsElem_f (e : SElem) : op_IsElem.f e.f0 e.f1 e.f2 = some (Qco e):=by
 unfold op_IsElem.f Qco
 rw [op_Name_f]
 cases h : Qaq e
 ·have h' : (e.f0 == 0 && (e.f1 == 0 && (e.f2 == 0))) = false:=h
  rw [if_neg (by rw [h']; simp)]
  simp only [Option.bind_some,Bool.false_or]
  cases nameOk e.f0 e.f1 <;> by_cases h2 : 0 <= e.f2 <;> simp [h2]
 ·have h' : (e.f0 == 0 && (e.f1 == 0 && (e.f2 == 0))) = true:=h
  rw [if_pos h']
  simp
theorem op_own_f (o : SOp) (e : SElem) : op_own.f o.f0 o.f1 o.f2 o.f3.f0 o.f3.f1 o.f3.f2 o.f4 o.f5 o.f6 o.f7 o.f8 e.f0 e.f1 e.f2 = some (ownEl o e):=by
 unfold op_own.f ownEl
 by_cases h : e.f0 = o.f0 <;> simp [h]
def cmpI (a b : Int) : Int:=if a < b then -1 else if a > b then 1 else 0
theorem Qde (a b : Int) : cmp_Compare_int.f a b = some (cmpI a b):=by
 unfold cmp_Compare_int.f cmp_isNaN_int.f cmpI
 simp only [Option.bind_some,bne_self_eq_false,Bool.false_eq_true,if_false]
 by_cases h : a < b
 ·simp [h]
 ·by_cases h2 : a > b <;> simp [h,h2]
def cmpE (a b : SElem) : Int:=if cmpI a.f0 b.f0 ≠ 0 then cmpI a.f0 b.f0 else if cmpI a.f1 b.f1 ≠ 0 then cmpI a.f1 b.f1 else cmpI a.f2 b.f2
theorem Qak {i : Int} (h0 : -9223372036854775808 <= i) (h : i <= 9223372036854775807) : wrap64 i = i:=by
 unfold wrap64; omega
theorem cmp_Or_three (x y z : Int) : cmp_Or_int.f 5 [x,y,z] = some (if x ≠ 0 then x else if y ≠ 0 then y else z):=by
 have w1 : wrap64 1 = 1:=Qak (by omega) (by omega)
 have w2 : wrap64 2 = 2:=Qak (by omega) (by omega)
 have w3 : wrap64 3 = 3:=Qak (by omega) (by omega)
 unfold cmp_Or_int.f
 by_cases hx : x = 0
 ·by_cases hy : y = 0
  ·by_cases hz : z = 0
   ·subst hx hy hz; simp [cmp_Or_int.l0,rd,w1,w2,w3]
   ·subst hx hy; simp [cmp_Or_int.l0,rd,w1,w2,w3,hz]
  ·subst hx; simp [cmp_Or_int.l0,rd,w1,w2,w3,hy]
 ·simp [cmp_Or_int.l0,rd,hx]
theorem op_Compare_f (a b : SElem) : op_Compare.f 5 a.f0 a.f1 a.f2 b.f0 b.f1 b.f2 = some (cmpE a b):=by
 unfold op_Compare.f cmpE
 rw [Qde,Qde,Qde]
 simp only [Option.bind_some]
 rw [cmp_Or_three]
 rfl
theorem cmpE_neg (a b : SElem) : decide (cmpE a b < 0) = elLess a b:=by
 unfold cmpE elLess cmpI
 by_cases h0 : a.f0 < b.f0
 ·simp [h0]
 ·by_cases h1 : a.f0 > b.f0
  ·have : ¬ a.f0 = b.f0:=by omega
   simp [h0,h1,this]
  ·have e0 : a.f0 = b.f0:=by omega
   by_cases h2 : a.f1 < b.f1
   ·simp [e0,h2]
   ·by_cases h3 : a.f1 > b.f1
    ·have : ¬ a.f1 = b.f1:=by omega
     simp [e0,h2,h3,this]
    ·have e1 : a.f1 = b.f1:=by omega
     by_cases h4 : a.f2 < b.f2
     ·simp [e0,e1,h4]
     ·by_cases h5 : a.f2 > b.f2 <;> simp [e0,e1,h4,h5]
theorem op_Less_f (a b : SElem) : op_Less.f 5 a.f0 a.f1 a.f2 b.f0 b.f1 b.f2 = some (elLess a b):=by
 unfold op_Less.f
 rw [op_Compare_f]
 simp only [Option.bind_some]
 rw [cmpE_neg]
theorem op_Less_ev (a b : SElem) : Ev (fun k => op_Less.f k a.f0 a.f1 a.f2 b.f0 b.f1 b.f2) (elLess a b) :=
 Ev.of (op_Less.mono _ _ _ _ _ _) (op_Less_f a b)
theorem op_Size_f (o : SOp) (h : Sm o) : op_Size.f o.f0 o.f1 o.f2 o.f3.f0 o.f3.f1 o.f3.f2 o.f4 o.f5 o.f6 o.f7 o.f8 = some (Qaj o : Int):=by
 unfold op_Size.f utf8_RuneCountInString.f
 rw [if_pos h.1]
 rfl
theorem Qat (l : List SElem) (i : Nat) (h : i < l.length) : Qaa l (i : Int) = l[i]:=by
 unfold Qaa; simp [List.getD_eq_getElem?_getD,h]
theorem op_gone_ev (o : SOp) (h : Sm o) : ∀ d i,i + d = o.f5.length ->
  Ev (fun k => op_gone.l0 k o.f5 (o.f5.length : Int) (i : Int) o.f0 o.f1 o.f2 o.f3.f0 o.f3.f1 o.f3.f2 o.f4 o.f5 o.f6 o.f7 o.f8)
   (Qbs o (if i = 0 then none else some (Qaa o.f5 ((i : Int) - 1))) (o.f5.drop i) && decide (o.f5.length <= 200)):=by
 intro d
 induction d with
 | zero =>
  intro i hi
  refine Ev.step (f:=fun _ => some (Qbs o (if i = 0 then none else some (Qaa o.f5 ((i : Int) - 1))) (o.f5.drop i) && decide (o.f5.length <= 200))) (fun k => ?_) (Ev.now _)
  have e : o.f5.drop i = []:=List.drop_eq_nil_of_le (by omega)
  simp only [op_gone.l0]
  rw [if_neg (by omega),e]
  simp [Qbs]
  omega
 | succ d ih =>
  intro i hi
  have hlt : i < o.f5.length:=by omega
  have hI : (i : Int) < (o.f5.length : Int):=by omega
  have hw : wrap64 ((i : Int) + 1) = ((i + 1 : Nat) : Int):=by rw [Qak (by omega) (by have:=h.2; omega)]; omega
  have hw1 : wrap64 ((i : Int) - 1) = (i : Int) - 1:=Qak (by omega) (by have:=h.2; omega)
  have ih':=ih (i + 1) (by omega)
  have hd : o.f5.drop i = Qaa o.f5 (i : Int) :: o.f5.drop (i + 1):=by rw [Qat _ _ hlt]; exact List.drop_eq_getElem_cons hlt
  rw [hd]
  generalize hx : Qaa o.f5 (i : Int) = x
  have hp1 : Qaa o.f5 (((i + 1 : Nat) : Int) - 1) = x:=by rw [show (((i + 1 : Nat) : Int) - 1) = (i : Int) by omega]; exact hx
  rw [if_neg (show ¬ i + 1 = 0 by omega),hp1] at ih'
  have hb0 : (x.f0 == 0 && (x.f1 == 0 && (x.f2 == 0))) = Qaq x:=rfl
  have unf : ∀ k,op_gone.l0 (k + 1) o.f5 (o.f5.length : Int) (i : Int) o.f0 o.f1 o.f2 o.f3.f0 o.f3.f1 o.f3.f2 o.f4 o.f5 o.f6 o.f7 o.f8 =
    (if Qaq x = true then some false else if Qco x = true then (if ownEl o x = true then some false else if (i : Int) > 0 then
     ((op_Less.f k (Qaa o.f5 ((i : Int) - 1)).f0 (Qaa o.f5 ((i : Int) - 1)).f1 (Qaa o.f5 ((i : Int) - 1)).f2 x.f0 x.f1 x.f2).bind fun t => if t = true then op_gone.l0 k o.f5 (o.f5.length : Int) ((i + 1 : Nat) : Int) o.f0 o.f1 o.f2 o.f3.f0 o.f3.f1 o.f3.f2 o.f4 o.f5 o.f6 o.f7 o.f8 else some false)
     else op_gone.l0 k o.f5 (o.f5.length : Int) ((i + 1 : Nat) : Int) o.f0 o.f1 o.f2 o.f3.f0 o.f3.f1 o.f3.f2 o.f4 o.f5 o.f6 o.f7 o.f8) else some false):=by
   intro k
   simp only [op_gone.l0]
   rw [if_pos hI,if_pos (show (0 : Int) <= (i : Int) by omega),if_pos hI,hx,hb0,op_IsElem_f,op_own_f,hw,hw1]
   simp only [Option.bind_some]
   by_cases hi0 : (i : Int) > 0
   ·rw [if_pos (show (0 : Int) <= (i : Int) - 1 by omega),if_pos (show (i : Int) - 1 < (o.f5.length : Int) by omega)]
   ·simp only [hi0,if_false]
  refine Ev.step unf ?_
  cases hb : Qaq x
  ·cases he : Qco x
   ·simpa [Qbs,hb,he] using Ev.now false
   ·cases ho : ownEl o x
    ·by_cases hi0 : (i : Int) > 0
     ·have hne : ¬ i = 0:=by omega
      simp only [hi0,if_true,Bool.false_eq_true,if_false,hne]
      refine Ev.bind (op_Less_ev _ _) ?_
      cases hl : elLess (Qaa o.f5 ((i : Int) - 1)) x
      ·simpa [Qbs,hb,he,ho,hl] using Ev.now false
      ·simpa [Qbs,hb,he,ho,hl] using ih'
     ·have hz : i = 0:=by omega
      subst hz
      simpa [Qbs,hb,he,ho] using ih'
    ·simpa [Qbs,hb,he,ho] using Ev.now false
  ·simpa [Qbs,hb] using Ev.now false
theorem op_gone_f (o : SOp) (h : Sm o) : Ev (fun k => op_gone.f k o.f0 o.f1 o.f2 o.f3.f0 o.f3.f1 o.f3.f2 o.f4 o.f5 o.f6 o.f7 o.f8) (goneOk o):=by
 have:=op_gone_ev o h o.f5.length 0 (by omega)
 simpa [goneOk,op_gone.f] using this
theorem toList_isEmpty (s : ByteArray) : (s.toList = ([] : List UInt8)) ↔ s.toList.isEmpty = true:=by
 cases s.toList <;> simp
theorem isEmpty_len {α : Type} (l : List α) : ((l.length : Int) == 0) = l.isEmpty:=by
 cases l with
 | nil => rfl
 | cons a r => simp; omega
theorem op_toggle_f (o : SOp) : op_toggle.f o.f0 o.f1 o.f2 o.f3.f0 o.f3.f1 o.f3.f2 o.f4 o.f5 o.f6 o.f7 o.f8 = some (Qch o):=by
 unfold op_toggle.f Qch
 rw [op_Name_f]
 simp only [Option.bind_some,isEmpty_len,toList_isEmpty]
 have hb0 : (o.f3.f0 == 0 && (o.f3.f1 == 0 && (o.f3.f2 == 0))) = Qaq o.f3:=rfl
 rw [hb0]
 cases nameOk o.f6 o.f7
 ·simp
 ·by_cases h1 : o.f6 = o.f0
  ·by_cases h2 : o.f7 = o.f1
   ·simp [h1,h2]
   ·by_cases h3 : o.f8 < 0
    ·have : ¬ 0 <= o.f8:=by omega
     simp [h1,h2,h3,this]
    ·have h3' : 0 <= o.f8:=by omega
     by_cases h4 : o.f8 > 268435456
     ·have : ¬ o.f8 <= 268435456:=by omega
      simp [h1,h2,h3,h4,this]
     ·have h4' : o.f8 <= 268435456:=by omega
      cases Qaq o.f3 <;> cases o.f4.toList.isEmpty <;> simp [h1,h2,h3,h4,h3',h4']
  ·by_cases h3 : o.f8 < 0
   ·have : ¬ 0 <= o.f8:=by omega
    simp [h1,h3,this]
   ·have h3' : 0 <= o.f8:=by omega
    by_cases h4 : o.f8 > 268435456
    ·have : ¬ o.f8 <= 268435456:=by omega
     simp [h1,h3,h4,this]
    ·have h4' : o.f8 <= 268435456:=by omega
     cases Qaq o.f3 <;> cases o.f4.toList.isEmpty <;> simp [h1,h3,h4,h3',h4']
theorem not_begin (e : SElem) : (!(e.f0 == 0) || (!(e.f1 == 0) || (!(e.f2 == 0)))) = !Qaq e:=by
 unfold Qaq; cases (e.f0 == 0) <;> cases (e.f1 == 0) <;> cases (e.f2 == 0) <;> rfl
def editRest (o : SOp) : Bool:=Qbq o.f4 && decide (Qaj o <= 12) && goneOk o && o.f6 == 0 && o.f7 == 0 && o.f8 == 0
theorem op_edit_j (o : SOp) (h : Sm o) (b : Bool) : Ev (fun k => op_edit.j0 k b o.f0 o.f1 o.f2 o.f3.f0 o.f3.f1 o.f3.f2 o.f4 o.f5 o.f6 o.f7 o.f8) (!b && editRest o):=by
 refine Ev.step (f:=fun k => if b = true then some false else if Qbq o.f4 = true then (if (Qaj o : Int) <= 12 then (op_gone.f k o.f0 o.f1 o.f2 o.f3.f0 o.f3.f1 o.f3.f2 o.f4 o.f5 o.f6 o.f7 o.f8).bind fun t => if t = true then (if o.f6 = 0 then (if o.f7 = 0 then some (o.f8 == 0) else some false) else some false) else some false else some false) else some false) (fun k => ?_) ?_
 ·simp only [op_edit.j0,text_May.f,Option.bind_some]
  rw [op_Size_f o h]
  simp only [Option.bind_some]
 ·cases b
  ·simp only [Bool.false_eq_true,if_false,Bool.not_false,Bool.true_and]
   unfold editRest
   cases Qbq o.f4
   ·simpa using Ev.now false
   ·by_cases hs : (Qaj o : Int) <= 12
    ·have hs' : Qaj o <= 12:=by omega
     simp only [hs,hs',if_true,decide_true,Bool.true_and]
     refine Ev.bind (op_gone_f o h) ?_
     cases goneOk o
     ·simpa using Ev.now false
     ·by_cases h6 : o.f6 = 0
      ·by_cases h7 : o.f7 = 0
       ·simpa [h6,h7] using Ev.now (o.f8 == 0)
       ·have b7 : (o.f7 == 0) = false:=by simpa using h7
        simpa [h6,h7,b7] using Ev.now false
      ·have b6 : (o.f6 == 0) = false:=by simpa using h6
       simpa [h6,b6] using Ev.now false
    ·have hs' : ¬ Qaj o <= 12:=by omega
     simpa [hs,hs'] using Ev.now false
  ·simpa using Ev.now false
theorem op_edit_f (o : SOp) (h : Sm o) : Ev (fun k => op_edit.f k o.f0 o.f1 o.f2 o.f3.f0 o.f3.f1 o.f3.f2 o.f4 o.f5 o.f6 o.f7 o.f8) (editOk o):=by
 have e : editOk o = (!(!Qco o.f3 || ownEl o o.f3 || (o.f4.toList.isEmpty && !Qaq o.f3) || (o.f4.toList.isEmpty && o.f5.isEmpty)) && editRest o):=by
  unfold editOk editRest
  cases Qco o.f3 <;> cases ownEl o o.f3 <;> cases o.f4.toList.isEmpty <;> cases Qaq o.f3 <;> cases o.f5.isEmpty <;> simp
 rw [e]
 unfold op_edit.f
 simp only [op_IsElem_f,op_own_f,Option.bind_some,isEmpty_len,toList_isEmpty,not_begin]
 cases Qco o.f3
 ·simpa using op_edit_j o h true
 ·cases ownEl o o.f3
  ·cases h4 : o.f4.toList.isEmpty
   ·simpa [h4] using op_edit_j o h false
   ·cases h5 : Qaq o.f3
    ·simpa [h4,h5] using op_edit_j o h true
    ·simpa [h4,h5] using op_edit_j o h o.f5.isEmpty
  ·simpa using op_edit_j o h true
theorem op_May_f (o : SOp) (h : Sm o) : Ev (fun k => op_May.f k o.f0 o.f1 o.f2 o.f3.f0 o.f3.f1 o.f3.f2 o.f4 o.f5 o.f6 o.f7 o.f8) (opOk o):=by
 unfold op_May.f opOk
 simp only [op_Name_f,op_toggle_f,Option.bind_some]
 cases nameOk o.f0 o.f1
 ·simpa using Ev.now false
 ·by_cases h1 : o.f2 = 1
  ·simp only [h1,if_true,Bool.true_and]
   have:=op_edit_f o h
   rw [h1] at this
   exact Ev.bind this (Ev.now _)
  ·by_cases h2 : o.f2 = 2
   ·simpa [h1,h2] using Ev.now (Qch o)
   ·have b2 : (o.f2 == 2) = false:=by simpa using h2
    simpa [h1,h2,b2] using Ev.now false
end
end Go.Proofs.YtlllghajjamdpaaGreatDoor.L
end
