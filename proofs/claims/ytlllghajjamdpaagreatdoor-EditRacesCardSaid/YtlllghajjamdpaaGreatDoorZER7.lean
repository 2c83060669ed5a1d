/- Part 7 of the proof that for every argument the law EditRaces answers true: edits that two sites make of the same row, ordered one behind the other either way, leave what each wrote whole, side by side, and take away what each took -/
import Derived.Test.YtlllghajjamdpaaGreatDoorZER6
section
namespace Go.Proofs.YtlllghajjamdpaaGreatDoor.L
open Go.RowKit Go.Proofs.YtlllghajjamdpaaGreatDoorW.PrintWords Go.Proofs.YtlllghajjamdpaaGreatDoorW.PrintLast Go.Proofs.YtlllghajjamdpaaGreatDoorW.PrintMore
set_option linter.unusedVariables false
set_option linter.unusedSimpArgs false
set_option maxHeartbeats 40000000
set_option maxRecDepth 1000000
section
attribute [local go_sem] Qbm Qbk Qbu Qbt Qbc Qbb Qbl Qbj
attribute [local go_sem high] eqAElem
def r1_Rune.f (a0 : Int) : Option (Bool):=if a0 = 10 then (some true) else (if a0 >= 32 then (if a0 <= 55295 then (if a0 = 127 then (if a0 >= 57344 then (if a0 <= 1114111 then (some (a0 != 65533)) else (some false)) else (some false)) else (some true)) else (if a0 >= 57344 then (if a0 <= 1114111 then (some (a0 != 65533)) else (some false)) else (some false))) else (if a0 >= 57344 then (if a0 <= 1114111 then (some (a0 != 65533)) else (some false)) else (some false)))
theorem r1_Rune.calls (a0 : Int) (r : Bool) (w : World) (h : r1_Rune.f a0 = some r) :
  Calls Tryz.prog 58 #[.int .i32 a0] w fun e w' => e = .returned (.bool r) /\ Drawn0 w w':=by
 unfold r1_Rune.f at h; have H:=h
 clear h
 by_cases c2 : a0 = 10
 ·rw [if_pos c2] at H
  obtain ⟨c2b0,c2b1⟩:=bT c2
  clear c2
  obtain rfl:=Zo H
  go_enter Tryz.func58,Tryz.ntmps58
  go_wp2
  go_ret
  exact ⟨rf,by repeat (first | exact Drawn0.refl _ | apply Drawn0.step)⟩
 rw [if_neg c2] at H
 obtain ⟨c2b0,c2b1⟩:=bF c2
 by_cases c3 : a0 >= 32; rotate_left
 ·rw [if_neg c3] at H
  have c3b0:=Ze c3
  clear c3
  by_cases c10 : a0 >= 57344; rotate_left
  ·rw [if_neg c10] at H
   have c10b0:=Ze c10
   clear c10
   obtain rfl:=Zo H
   go_enter Tryz.func58,Tryz.ntmps58
   go_wp2
   go_ret
   exact ⟨rf,by repeat (first | exact Drawn0.refl _ | apply Drawn0.step)⟩
  rw [if_pos c10] at H
  have c10b0:=Zd c10
  clear c10
  by_cases c11 : a0 <= 1114111
  ·rw [if_pos c11] at H
   have c11b0:=Zd c11
   clear c11
   obtain rfl:=Zo H
   go_enter Tryz.func58,Tryz.ntmps58
   go_wp2
   go_ret
   exact ⟨rf,by repeat (first | exact Drawn0.refl _ | apply Drawn0.step)⟩
  rw [if_neg c11] at H
  have c11b0:=Ze c11
  clear c11
  obtain rfl:=Zo H
  go_enter Tryz.func58,Tryz.ntmps58
  go_wp2
  go_ret
  exact ⟨rf,by repeat (first | exact Drawn0.refl _ | apply Drawn0.step)⟩
 rw [if_pos c3] at H
 have c3b0:=Zd c3
 clear c3
 by_cases c4 : a0 <= 55295; rotate_left
 ·rw [if_neg c4] at H
  have c4b0:=Ze c4
  clear c4
  by_cases c8 : a0 >= 57344; rotate_left
  ·rw [if_neg c8] at H
   have c8b0:=Ze c8
   clear c8
   obtain rfl:=Zo H
   go_enter Tryz.func58,Tryz.ntmps58
   go_wp2
   go_ret
   exact ⟨rf,by repeat (first | exact Drawn0.refl _ | apply Drawn0.step)⟩
  rw [if_pos c8] at H
  have c8b0:=Zd c8
  clear c8
  by_cases c9 : a0 <= 1114111
  ·rw [if_pos c9] at H
   have c9b0:=Zd c9
   clear c9
   obtain rfl:=Zo H
   go_enter Tryz.func58,Tryz.ntmps58
   go_wp2
   go_ret
   exact ⟨rf,by repeat (first | exact Drawn0.refl _ | apply Drawn0.step)⟩
  rw [if_neg c9] at H
  have c9b0:=Ze c9
  clear c9
  obtain rfl:=Zo H
  go_enter Tryz.func58,Tryz.ntmps58
  go_wp2
  go_ret
  exact ⟨rf,by repeat (first | exact Drawn0.refl _ | apply Drawn0.step)⟩
 rw [if_pos c4] at H
 have c4b0:=Zd c4
 clear c4
 by_cases c5 : a0 = 127; rotate_left
 ·rw [if_neg c5] at H
  obtain ⟨c5b0,c5b1⟩:=bF c5
  obtain rfl:=Zo H
  go_enter Tryz.func58,Tryz.ntmps58
  go_wp2
  go_ret
  exact ⟨rf,by repeat (first | exact Drawn0.refl _ | apply Drawn0.step)⟩
 rw [if_pos c5] at H
 obtain ⟨c5b0,c5b1⟩:=bT c5
 clear c5
 by_cases c6 : a0 >= 57344; rotate_left
 ·rw [if_neg c6] at H
  have c6b0:=Ze c6
  clear c6
  obtain rfl:=Zo H
  go_enter Tryz.func58,Tryz.ntmps58
  go_wp2
  go_ret
  exact ⟨rf,by repeat (first | exact Drawn0.refl _ | apply Drawn0.step)⟩
 rw [if_pos c6] at H
 have c6b0:=Zd c6
 clear c6
 by_cases c7 : a0 <= 1114111
 ·rw [if_pos c7] at H
  have c7b0:=Zd c7
  clear c7
  obtain rfl:=Zo H
  go_enter Tryz.func58,Tryz.ntmps58
  go_wp2
  go_ret
  exact ⟨rf,by repeat (first | exact Drawn0.refl _ | apply Drawn0.step)⟩
 rw [if_neg c7] at H
 have c7b0:=Ze c7
 clear c7
 obtain rfl:=Zo H
 go_enter Tryz.func58,Tryz.ntmps58
 go_wp2
 go_ret
 exact ⟨rf,by repeat (first | exact Drawn0.refl _ | apply Drawn0.step)⟩
def r1_Runes.l0 : Nat -> ByteArray -> List Int -> Int -> Option (List Int × Bool)
 | 0,_,_,_ => none
 | k + 1,x0,x4,x5 => if x5 < (x0.size : Int) then (if 0 <= x5 then (if x5 <= (x0.size : Int) then ((utf8_DecodeRuneInString.f (x0.extract (x5 : Int).toNat x0.size)).bind fun bt165 => ((r1_Rune.f bt165.1).bind fun t167 => (if t167 = true then (if x4.length < 35184372088832 then (r1_Runes.l0 k x0 (x4 ++ [bt165.1]) (wrap64 (x5 + bt165.2))) else (none)) else (some (([] : List Int),false))))) else (none)) else (none)) else (some (x4,true))
def r1_Runes.f (k : Nat) (a0 : ByteArray) : Option (List Int × Bool):=r1_Runes.l0 k a0 ([] : List Int) 0
theorem r1_Runes.calls (k : Nat) (a0 : ByteArray) (r1 : List Int) (r2 : Bool) (w : World) (hT : GT w) (h : r1_Runes.f k a0 = some (r1,r2)) :
  Calls Tryz.prog 18 #[.string a0] w fun e w' => ∃ v0_ : Value,e = .returned (.tuple #[v0_, .bool r2]) /\ Kd.R (Kd.int .i32) 21 w' w.heap.size (fun _ => True) v0_ r1 /\ Below w.heap.size w w':=by
 have HB:=Zz.k (Below.refl w.heap.size w)
 unfold r1_Runes.f at h; have H:=h
 clear h
 have H':=Zz.k H
 clear H
 go_enter Tryz.func18,Tryz.ntmps18
 go_wp2
 go_loopg [4,5] k (fun kq v4 v5 w' => ∃ (x4_1 : List Int) (x5_1 : Int),v5 = .int .i64 x5_1 /\ Zz (r1_Runes.l0 kq a0 x4_1 x5_1 = some (r1,r2)) /\ Zz (kq <= k) /\ Zz (Kd.R (Kd.int .i32) 21 w' w.heap.size (fun _ => True) v4 x4_1) /\ Zz (Below w.heap.size w w'))
 case atStart => exact ⟨(([] : List Int)),(0),rf,H',⟨Nat.le_refl _⟩,⟨by first | exact Kd.R_nil _ _ _ _ _ | exact Kd.N_nil _ _ _ _ _ | exact Kd.V_nil _ _ _ _ _ | exact Kd.Q_nil _ _ _ _ _ | exact Kd.S_nil _ _ _ _ _⟩,⟨bw HB⟩⟩
 case round =>
  clear H'
  obtain ⟨x4_1,x5_1,rfl,HA,HK1,HO_4,HB⟩:=hrel
  cases gk with
  | zero => exact absurd HA.out (by simp [r1_Runes.l0])
  | succ k1 =>
   have H:=HA.out
   clear HA
   simp only [r1_Runes.l0] at H
   by_cases c2 : x5_1 < (a0.size : Int); rotate_left
   ·rw [if_neg c2] at H
    have c2b0:=Ze c2
    clear c2
    simp only [Option.some.injEq,Prod.mk.injEq] at H
    obtain ⟨rfl,rfl⟩:=H
    go_wp2
    go_ret2
    exact ⟨_,re,by (with_reducible repeat (first | apply Kd.R_alloc | apply Kd.R_drewN | apply Kd.R_drew)); exact HO_4.out,bw HB⟩
   rw [if_pos c2] at H
   have c2b0:=Zd c2
   clear c2
   by_cases c3 : 0 <= x5_1; rotate_left
   ·rw [if_neg c3] at H
    exact absurd H (by simp)
   rw [if_pos c3] at H
   have c3b0:=eq_true c3
   have c3b1:=Zd c3
   clear c3
   by_cases c4 : x5_1 <= (a0.size : Int); rotate_left
   ·rw [if_neg c4] at H
    exact absurd H (by simp)
   rw [if_pos c4] at H
   have c4b0:=eq_true c4
   have c4b1:=Zd c4
   clear c4
   obtain ⟨⟨t165,t166⟩,A5,H⟩:=bE H
   try dsimp only at H
   obtain ⟨t167,A6,H⟩:=bE H
   by_cases c7 : t167 = true; rotate_left
   ·replace c7:=Zf c7
    subst c7
    rw [if_neg nft] at H
    simp only [Option.some.injEq,Prod.mk.injEq] at H
    obtain ⟨rfl,rfl⟩:=H
    go_wp2_with (first | ((with_reducible refine Qac (f:=57) rfl ?_); refine gl (some 16) Tryz.func57 #[.string (a0.extract (x5_1 : Int).toNat a0.size)] (h := ?_); (with_reducible refine (utf8_DecodeRuneInString.calls (a0.extract (x5_1 : Int).toNat a0.size) t165 t166 _ ?side1 A5.out).mono ?_); (case side1 => exact (hT.below (bw HB))); rintro e w11 ⟨rfl,hb⟩; refine ⟨_,rfl, ?_⟩; replace HO_4:=rb HO_4 hb; replace HB:=bs HB hb; clear hb) | ((with_reducible refine Qac (f:=58) rfl ?_); refine gl (some 20) Tryz.func58 #[.int .i32 t165] (h := ?_); (with_reducible refine (r1_Rune.calls t165 false _ A6.out).mono ?_); rintro e w' ⟨rfl,⟨nd,rfl⟩⟩; refine ⟨_,rfl, ?_⟩))
    go_ret2
    exact ⟨_,re,by first | exact Kd.R_nil _ _ _ _ _ | exact Kd.N_nil _ _ _ _ _ | exact Kd.V_nil _ _ _ _ _ | exact Kd.Q_nil _ _ _ _ _ | exact Kd.S_nil _ _ _ _ _,bw HB⟩
   subst c7
   rw [if_pos rfl] at H
   by_cases c8 : x4_1.length < 35184372088832; rotate_left
   ·rw [if_neg c8] at H
    exact absurd H (by simp)
   rw [if_pos c8] at H
   have LMc8:=Zz.k c8
   clear c8
   obtain ⟨y168,hy168⟩ : ∃ y_ : List Int,y_ = (x4_1 ++ [t165]):=⟨_,rfl⟩
   first | rw [Option.bind_some,<- hy168] at H | rw [<- hy168] at H
   have Ny168:=Zz.k hy168
   clear hy168
   have H':=Zz.k H
   clear H
   go_wp2_with (first | ((with_reducible refine Qac (f:=57) rfl ?_); refine gl (some 16) Tryz.func57 #[.string (a0.extract (x5_1 : Int).toNat a0.size)] (h := ?_); (with_reducible refine (utf8_DecodeRuneInString.calls (a0.extract (x5_1 : Int).toNat a0.size) t165 t166 _ ?side1 A5.out).mono ?_); (case side1 => exact (hT.below (bw HB))); rintro e w9 ⟨rfl,hb⟩; refine ⟨_,rfl, ?_⟩; replace HO_4:=rb HO_4 hb; replace HB:=bs HB hb; clear hb) | ((with_reducible refine Qac (f:=58) rfl ?_); refine gl (some 20) Tryz.func58 #[.int .i32 t165] (h := ?_); (with_reducible refine (r1_Rune.calls t165 true _ A6.out).mono ?_); rintro e w' ⟨rfl,⟨nd,rfl⟩⟩; refine ⟨_,rfl, ?_⟩) | ((with_reducible refine Qbz (b:=.append) (xs:=#[.tmp 22, .tmp 24]) rfl ?_); at_builtin; refine Kd.R_append (Kd.int .i32) (w0:=w) w.heap.size rfl (.tmp 22) (.tmp 24) 48 21 (.int .i32 0) 4 rfl Tryz.underlying48 info21 rfl (by decide) (by omega) u4 x4_1 t165 [.int .i32 t165] (fun _ => True) (fun _ => False) rfl rfl ?aP (fun _ hk => hk.elim) ?aF ?aO ?aB ?aS ?aL ?_; (case aP => exact rfl); (case aB => exact (bw HB)); (case aF => exact (fun _ _ => trivial)); (case aO => exact (rk HO_4)); (case aS => exact (Qal (bw HB))); (case aL => have:=LMc8.out; omega); intro v169 w10 ho hb hg hat; rw [<- Ny168.out] at ho; have n0_:=Zz.k (hb); have n1_:=Zz.k (ho); clear HB; clear HO_4; have HB:=n0_; have HO170:=n1_; clear n0_ n1_; clear ho hb hg hat))
   go_roundg k1
   case measure => have:=HK1.out; omega
   case rel => exact ⟨(y168),(wrap64 (x5_1 + t166)),rf,H',⟨by have:=HK1.out; omega⟩,⟨rk HO170⟩,⟨bw HB⟩⟩
def r0_Num.f (a0 : Int) (a1 : Int) : Option (Bool):=if a0 >= 0 then (some (decide (a0 <= a1))) else (some false)
theorem r0_Num.calls (a0 : Int) (a1 : Int) (r : Bool) (w : World) (h : r0_Num.f a0 a1 = some r) :
  Calls Tryz.prog 60 #[.int .i64 a0, .int .i64 a1] w fun e w' => e = .returned (.bool r) /\ Drawn0 w w':=by
 unfold r0_Num.f at h; have H:=h
 clear h
 by_cases c3 : a0 >= 0
 ·rw [if_pos c3] at H
  have c3b0:=Zd c3
  clear c3
  obtain rfl:=Zo H
  go_enter Tryz.func60,Tryz.ntmps60
  go_wp2
  go_ret
  exact ⟨rf,by repeat (first | exact Drawn0.refl _ | apply Drawn0.step)⟩
 rw [if_neg c3] at H
 have c3b0:=Ze c3
 clear c3
 obtain rfl:=Zo H
 go_enter Tryz.func60,Tryz.ntmps60
 go_wp2
 go_ret
 exact ⟨rf,by repeat (first | exact Drawn0.refl _ | apply Drawn0.step)⟩
def r4_Begin.f (a0_0 : Int) (a0_1 : Int) (a0_2 : Int) : Option (Bool):=some (a0_0 == 0 && (a0_1 == 0 && (a0_2 == 0)))
theorem r4_Begin.calls (a0_0 : Int) (a0_1 : Int) (a0_2 : Int) (r : Bool) (w : World) (h : r4_Begin.f a0_0 a0_1 a0_2 = some r) :
  Calls Tryz.prog 71 #[.agg #[.int .i64 a0_0, .int .i64 a0_1, .int .i64 a0_2]] w fun e w' => e = .returned (.bool r) /\ Below w.heap.size w w':=by
 have hu32:=Tryz.underlying32
 have HB:=Zz.k (Below.refl w.heap.size w)
 unfold r4_Begin.f at h; have H:=h
 clear h
 obtain rfl:=Zo H
 go_enter Tryz.func71,Tryz.ntmps71
 go_wp2_with (first | ((with_reducible refine Qaf (N:=1) rfl ?_); refine bx 1 #[.int .i64 a0_0, .int .i64 a0_1, .int .i64 a0_2] 32 (h := ?_); intro gb171 hg w2 hbox hb; have BK171:=Zz.k (hbox); have GW171:=bz HB hg; have GE171:=bz HB hg; replace HB:=bs HB hb; clear hb hbox hg; obtain ⟨_,_,_,_,_,_⟩:=kc3 BK171))
 go_ret
 exact ⟨re,bw HB⟩
def r4_Less.f (a0_0 : Int) (a0_1 : Int) (a0_2 : Int) (a1_0 : Int) (a1_1 : Int) (a1_2 : Int) : Option (Bool):=if a0_0 = a1_0 then (if a0_1 = a1_1 then (some (decide (a0_2 < a1_2))) else (some (decide (a0_1 < a1_1)))) else (some (decide (a0_0 < a1_0)))
theorem r4_Less.calls (a0_0 : Int) (a0_1 : Int) (a0_2 : Int) (a1_0 : Int) (a1_1 : Int) (a1_2 : Int) (r : Bool) (w : World) (h : r4_Less.f a0_0 a0_1 a0_2 a1_0 a1_1 a1_2 = some r) :
  Calls Tryz.prog 93 #[.agg #[.int .i64 a0_0, .int .i64 a0_1, .int .i64 a0_2], .agg #[.int .i64 a1_0, .int .i64 a1_1, .int .i64 a1_2]] w fun e w' => e = .returned (.bool r) /\ Below w.heap.size w w':=by
 have hu32:=Tryz.underlying32
 have HB:=Zz.k (Below.refl w.heap.size w)
 unfold r4_Less.f at h; have H:=h
 clear h
 by_cases c3 : a0_0 = a1_0; rotate_left
 ·rw [if_neg c3] at H
  obtain ⟨c3b0,c3b1⟩:=bF c3
  obtain rfl:=Zo H
  go_enter Tryz.func93,Tryz.ntmps93
  go_wp2_with (first | ((with_reducible refine Qaf (N:=2) rfl ?_); refine bx 2 #[.int .i64 a0_0, .int .i64 a0_1, .int .i64 a0_2] 32 (h := ?_); intro gb172 hg w15 hbox hb; have BK172:=Zz.k (hbox); have GW172:=bz HB hg; have GE172:=bz HB hg; replace HB:=bs HB hb; clear hb hbox hg) | ((with_reducible refine Qaf (N:=3) rfl ?_); refine bx 3 #[.int .i64 a1_0, .int .i64 a1_1, .int .i64 a1_2] 32 (h := ?_); intro gb173 hg w16 hbox hb; have BK173:=Zz.k (hbox); have GW173:=bz HB hg; have GE173:=bz HB hg; have NB172_173:=bn BK172 hg; have NB173_172:=bm BK172 hg; replace BK172:=bl BK172 hb; replace HB:=bs HB hb; clear hb hbox hg; have hnb17:=NB172_173.out; have hnc17:=NB173_172.out; obtain ⟨_,_,_,_,_,_⟩:=kc3 BK172; obtain ⟨_,_,_,_,_,_⟩:=kc3 BK173))
  go_ret
  exact ⟨re,bw HB⟩
 rw [if_pos c3] at H
 obtain ⟨c3b0,c3b1⟩:=bT c3
 clear c3
 by_cases c4 : a0_1 = a1_1
 ·rw [if_pos c4] at H
  obtain ⟨c4b0,c4b1⟩:=bT c4
  clear c4
  obtain rfl:=Zo H
  go_enter Tryz.func93,Tryz.ntmps93
  go_wp2_with (first | ((with_reducible refine Qaf (N:=2) rfl ?_); refine bx 2 #[.int .i64 a0_0, .int .i64 a0_1, .int .i64 a0_2] 32 (h := ?_); intro gb172 hg w5 hbox hb; have BK172:=Zz.k (hbox); have GW172:=bz HB hg; have GE172:=bz HB hg; replace HB:=bs HB hb; clear hb hbox hg) | ((with_reducible refine Qaf (N:=3) rfl ?_); refine bx 3 #[.int .i64 a1_0, .int .i64 a1_1, .int .i64 a1_2] 32 (h := ?_); intro gb173 hg w6 hbox hb; have BK173:=Zz.k (hbox); have GW173:=bz HB hg; have GE173:=bz HB hg; have NB172_173:=bn BK172 hg; have NB173_172:=bm BK172 hg; replace BK172:=bl BK172 hb; replace HB:=bs HB hb; clear hb hbox hg; have hnb7:=NB172_173.out; have hnc7:=NB173_172.out; obtain ⟨_,_,_,_,_,_⟩:=kc3 BK172; obtain ⟨_,_,_,_,_,_⟩:=kc3 BK173))
  go_ret
  exact ⟨re,bw HB⟩
 rw [if_neg c4] at H
 obtain ⟨c4b0,c4b1⟩:=bF c4
 obtain rfl:=Zo H
 go_enter Tryz.func93,Tryz.ntmps93
 go_wp2_with (first | ((with_reducible refine Qaf (N:=2) rfl ?_); refine bx 2 #[.int .i64 a0_0, .int .i64 a0_1, .int .i64 a0_2] 32 (h := ?_); intro gb172 hg w10 hbox hb; have BK172:=Zz.k (hbox); have GW172:=bz HB hg; have GE172:=bz HB hg; replace HB:=bs HB hb; clear hb hbox hg) | ((with_reducible refine Qaf (N:=3) rfl ?_); refine bx 3 #[.int .i64 a1_0, .int .i64 a1_1, .int .i64 a1_2] 32 (h := ?_); intro gb173 hg w11 hbox hb; have BK173:=Zz.k (hbox); have GW173:=bz HB hg; have GE173:=bz HB hg; have NB172_173:=bn BK172 hg; have NB173_172:=bm BK172 hg; replace BK172:=bl BK172 hb; replace HB:=bs HB hb; clear hb hbox hg; have hnb12:=NB172_173.out; have hnc12:=NB173_172.out; obtain ⟨_,_,_,_,_,_⟩:=kc3 BK172; obtain ⟨_,_,_,_,_,_⟩:=kc3 BK173))
 go_ret
 exact ⟨re,bw HB⟩
def r0_Between.f (a0 : Int) (a1 : Int) (a2 : Int) : Option (Bool):=if a0 >= a1 then (some (decide (a0 <= a2))) else (some false)
theorem r0_Between.calls (a0 : Int) (a1 : Int) (a2 : Int) (r : Bool) (w : World) (h : r0_Between.f a0 a1 a2 = some r) :
  Calls Tryz.prog 24 #[.int .i64 a0, .int .i64 a1, .int .i64 a2] w fun e w' => e = .returned (.bool r) /\ Drawn0 w w':=by
 unfold r0_Between.f at h; have H:=h
 clear h
 by_cases c4 : a0 >= a1
 ·rw [if_pos c4] at H
  have c4b0:=Zd c4
  clear c4
  obtain rfl:=Zo H
  go_enter Tryz.func24,Tryz.ntmps24
  go_wp2
  go_ret
  exact ⟨rf,by repeat (first | exact Drawn0.refl _ | apply Drawn0.step)⟩
 rw [if_neg c4] at H
 have c4b0:=Ze c4
 clear c4
 obtain rfl:=Zo H
 go_enter Tryz.func24,Tryz.ntmps24
 go_wp2
 go_ret
 exact ⟨rf,by repeat (first | exact Drawn0.refl _ | apply Drawn0.step)⟩
def r4_name.f (a0 : Int) (a1 : Int) : Option (Bool):=(r0_Between.f a0 1 8).bind fun t174 => (if t174 = true then ((r0_Between.f a1 1 268435456).bind fun t175 => (some t175)) else (some false))
theorem r4_name.calls (a0 : Int) (a1 : Int) (r : Bool) (w : World) (h : r4_name.f a0 a1 = some r) :
  Calls Tryz.prog 98 #[.int .i64 a0, .int .i64 a1] w fun e w' => e = .returned (.bool r) /\ Drawn0 w w':=by
 unfold r4_name.f at h; have H:=h
 clear h
 obtain ⟨t174,A3,H⟩:=bE H
 by_cases c4 : t174 = true
 ·subst c4
  rw [if_pos rfl] at H
  obtain ⟨t175,A5,H⟩:=bE H
  obtain rfl:=Zo H
  go_enter Tryz.func98,Tryz.ntmps98
  go_wp2_with (first | ((with_reducible refine Qac (f:=24) rfl ?_); refine gl (some 6) Tryz.func24 #[.int .i64 a0, .int .i64 1, .int .i64 8] (h := ?_); (with_reducible refine (r0_Between.calls a0 1 8 true _ A3.out).mono ?_); rintro e w' ⟨rfl,⟨nd,rfl⟩⟩; refine ⟨_,rfl, ?_⟩) | (go_at_call 24; (with_reducible refine (r0_Between.calls a1 1 268435456 t175 _ A5.out).mono ?_); rintro e w' ⟨rfl,⟨nd,rfl⟩⟩))
  go_ret
  exact ⟨rf,by repeat (first | exact Drawn0.refl _ | apply Drawn0.step)⟩
 replace c4:=Zf c4
 subst c4
 rw [if_neg nft] at H
 obtain rfl:=Zo H
 go_enter Tryz.func98,Tryz.ntmps98
 go_wp2_with (first | ((with_reducible refine Qac (f:=24) rfl ?_); refine gl (some 6) Tryz.func24 #[.int .i64 a0, .int .i64 1, .int .i64 8] (h := ?_); (with_reducible refine (r0_Between.calls a0 1 8 false _ A3.out).mono ?_); rintro e w' ⟨rfl,⟨nd,rfl⟩⟩; refine ⟨_,rfl, ?_⟩))
 go_ret
 exact ⟨rf,by repeat (first | exact Drawn0.refl _ | apply Drawn0.step)⟩
def r4_Elem.f (a0_0 : Int) (a0_1 : Int) (a0_2 : Int) : Option (Bool):=(r4_Begin.f a0_0 a0_1 a0_2).bind fun t177 => (if t177 = true then (some true) else ((r4_name.f a0_0 a0_1).bind fun t178 => (if t178 = true then ((r0_Num.f a0_2 11).bind fun t179 => (some t179)) else (some false))))
theorem r4_Elem.calls (a0_0 : Int) (a0_1 : Int) (a0_2 : Int) (r : Bool) (w : World) (h : r4_Elem.f a0_0 a0_1 a0_2 = some r) :
  Calls Tryz.prog 99 #[.agg #[.int .i64 a0_0, .int .i64 a0_1, .int .i64 a0_2]] w fun e w' => e = .returned (.bool r) /\ Below w.heap.size w w':=by
 have hu32:=Tryz.underlying32
 have HB:=Zz.k (Below.refl w.heap.size w)
 unfold r4_Elem.f at h; have H:=h
 clear h
 obtain ⟨t177,A2,H⟩:=bE H
 by_cases c3 : t177 = true
 ·subst c3
  rw [if_pos rfl] at H
  obtain rfl:=Zo H
  go_enter Tryz.func99,Tryz.ntmps99
  go_wp2_with (first | ((with_reducible refine Qaf (N:=1) rfl ?_); refine bx 1 #[.int .i64 a0_0, .int .i64 a0_1, .int .i64 a0_2] 32 (h := ?_); intro gb176 hg w4 hbox hb; have BK176:=Zz.k (hbox); have GW176:=bz HB hg; have GE176:=bz HB hg; replace HB:=bs HB hb; clear hb hbox hg; obtain ⟨_,_,_,_,_,_⟩:=kc3 BK176) | ((with_reducible refine Qac (f:=71) rfl ?_); refine gl (some 4) Tryz.func71 #[.agg #[.int .i64 a0_0, .int .i64 a0_1, .int .i64 a0_2]] (h := ?_); (with_reducible refine (r4_Begin.calls a0_0 a0_1 a0_2 true _ A2.out).mono ?_); rintro e w6 ⟨rfl,hb⟩; refine ⟨_,rfl, ?_⟩; replace BK176:=bl BK176 hb; replace HB:=bs HB hb; clear hb))
  go_ret
  exact ⟨re,bw HB⟩
 replace c3:=Zf c3
 subst c3
 rw [if_neg nft] at H
 obtain ⟨t178,A7,H⟩:=bE H
 by_cases c8 : t178 = true
 ·subst c8
  rw [if_pos rfl] at H
  obtain ⟨t179,A9,H⟩:=bE H
  obtain rfl:=Zo H
  go_enter Tryz.func99,Tryz.ntmps99
  go_wp2_with (first | ((with_reducible refine Qaf (N:=1) rfl ?_); refine bx 1 #[.int .i64 a0_0, .int .i64 a0_1, .int .i64 a0_2] 32 (h := ?_); intro gb176 hg w10 hbox hb; have BK176:=Zz.k (hbox); have GW176:=bz HB hg; have GE176:=bz HB hg; replace HB:=bs HB hb; clear hb hbox hg; obtain ⟨_,_,_,_,_,_⟩:=kc3 BK176) | ((with_reducible refine Qac (f:=71) rfl ?_); refine gl (some 4) Tryz.func71 #[.agg #[.int .i64 a0_0, .int .i64 a0_1, .int .i64 a0_2]] (h := ?_); (with_reducible refine (r4_Begin.calls a0_0 a0_1 a0_2 false _ A2.out).mono ?_); rintro e w12 ⟨rfl,hb⟩; refine ⟨_,rfl, ?_⟩; replace BK176:=bl BK176 hb; replace HB:=bs HB hb; clear hb; obtain ⟨_,_,_,_,_,_⟩:=kc3 BK176) | (go_at_call 98; (with_reducible refine (r4_name.calls a0_0 a0_1 true _ A7.out).mono ?_); rintro e w' ⟨rfl,⟨nd,rfl⟩⟩) | (go_at_call 60; (with_reducible refine (r0_Num.calls a0_2 11 t179 _ A9.out).mono ?_); rintro e w' ⟨rfl,⟨nd,rfl⟩⟩))
  go_ret
  exact ⟨re,bw HB⟩
 replace c8:=Zf c8
 subst c8
 rw [if_neg nft] at H
 obtain rfl:=Zo H
 go_enter Tryz.func99,Tryz.ntmps99
 go_wp2_with (first | ((with_reducible refine Qaf (N:=1) rfl ?_); refine bx 1 #[.int .i64 a0_0, .int .i64 a0_1, .int .i64 a0_2] 32 (h := ?_); intro gb176 hg w14 hbox hb; have BK176:=Zz.k (hbox); have GW176:=bz HB hg; have GE176:=bz HB hg; replace HB:=bs HB hb; clear hb hbox hg; obtain ⟨_,_,_,_,_,_⟩:=kc3 BK176) | ((with_reducible refine Qac (f:=71) rfl ?_); refine gl (some 4) Tryz.func71 #[.agg #[.int .i64 a0_0, .int .i64 a0_1, .int .i64 a0_2]] (h := ?_); (with_reducible refine (r4_Begin.calls a0_0 a0_1 a0_2 false _ A2.out).mono ?_); rintro e w16 ⟨rfl,hb⟩; refine ⟨_,rfl, ?_⟩; replace BK176:=bl BK176 hb; replace HB:=bs HB hb; clear hb; obtain ⟨_,_,_,_,_,_⟩:=kc3 BK176) | (go_at_call 98; (with_reducible refine (r4_name.calls a0_0 a0_1 false _ A7.out).mono ?_); rintro e w' ⟨rfl,⟨nd,rfl⟩⟩))
 go_ret
 exact ⟨re,bw HB⟩
def r4_own.f (a0_0 : Int) (a0_1 : Int) (a0_2 : Int) (a0_3 : Int) (a0_4 : Int) (a0_5 : Int) (a0_6 : ByteArray) (l0_7 : List (SElem)) (a0_8 : Int) (a0_9 : Int) (a0_10 : Int) (a1_0 : Int) (a1_1 : Int) (a1_2 : Int) : Option (Bool):=if a1_0 = a0_0 then (some (a1_1 == a0_1)) else (some false)
theorem r4_own.calls (a0_0 : Int) (a0_1 : Int) (a0_2 : Int) (a0_3 : Int) (a0_4 : Int) (a0_5 : Int) (a0_6 : ByteArray) (A0_7 : Option Addr) (c0_7 : Nat) (l0_7 : List (SElem)) (a0_8 : Int) (a0_9 : Int) (a0_10 : Int) (a1_0 : Int) (a1_1 : Int) (a1_2 : Int) (r : Bool) (w : World) (hr0_7 : Kd.C Qap w A0_7 l0_7.length l0_7) (hc0_7 : l0_7.length <= c0_7) (h : r4_own.f a0_0 a0_1 a0_2 a0_3 a0_4 a0_5 a0_6 l0_7 a0_8 a0_9 a0_10 a1_0 a1_1 a1_2 = some r) :
  Calls Tryz.prog 100 #[.agg #[.int .i64 a0_0, .int .i64 a0_1, .int .i64 a0_2, .int .i64 a0_3, .int .i64 a0_4, .int .i64 a0_5, .string a0_6, .slice A0_7 l0_7.length c0_7, .int .i64 a0_8, .int .i64 a0_9, .int .i64 a0_10], .agg #[.int .i64 a1_0, .int .i64 a1_1, .int .i64 a1_2]] w fun e w' => e = .returned (.bool r) /\ Below w.heap.size w w':=by
 have hu34:=Tryz.underlying34
 have hu32:=Tryz.underlying32
 have HR0_7:=Zz.k hr0_7
 have HC0_7:=Zz.k hc0_7
 clear hr0_7 hc0_7
 have HB:=Zz.k (Below.refl w.heap.size w)
 unfold r4_own.f at h; have H:=h
 clear h
 by_cases c3 : a1_0 = a0_0
 ·rw [if_pos c3] at H
  obtain ⟨c3b0,c3b1⟩:=bT c3
  clear c3
  obtain rfl:=Zo H
  go_enter Tryz.func100,Tryz.ntmps100
  go_wp2_with (first | ((with_reducible refine Qaf (N:=2) rfl ?_); refine bx 2 #[.int .i64 a0_0, .int .i64 a0_1, .int .i64 a0_2, .int .i64 a0_3, .int .i64 a0_4, .int .i64 a0_5, .string a0_6, .slice A0_7 l0_7.length c0_7, .int .i64 a0_8, .int .i64 a0_9, .int .i64 a0_10] 34 (h := ?_); intro gb180 hg w4 hbox hb; have BK180:=Zz.k (hbox); have GW180:=bz HB hg; have GE180:=bz HB hg; replace HB:=bs HB hb; clear hb hbox hg) | ((with_reducible refine Qaf (N:=3) rfl ?_); refine bx 3 #[.int .i64 a1_0, .int .i64 a1_1, .int .i64 a1_2] 32 (h := ?_); intro gb181 hg w5 hbox hb; have BK181:=Zz.k (hbox); have GW181:=bz HB hg; have GE181:=bz HB hg; have NB180_181:=bn BK180 hg; have NB181_180:=bm BK180 hg; replace BK180:=bl BK180 hb; replace HB:=bs HB hb; clear hb hbox hg; have hnb6:=NB181_180.out; have hnc6:=NB180_181.out; obtain ⟨_,_,_,_,_,_⟩:=kc3 BK181; obtain ⟨_,_,_,_,_,_,_,_,_,_,_,_,_,_,_,_,_,_,_,_,_,_⟩:=kc11 BK180))
  go_ret
  exact ⟨re,bw HB⟩
 rw [if_neg c3] at H
 obtain ⟨c3b0,c3b1⟩:=bF c3
 obtain rfl:=Zo H
 go_enter Tryz.func100,Tryz.ntmps100
 go_wp2_with (first | ((with_reducible refine Qaf (N:=2) rfl ?_); refine bx 2 #[.int .i64 a0_0, .int .i64 a0_1, .int .i64 a0_2, .int .i64 a0_3, .int .i64 a0_4, .int .i64 a0_5, .string a0_6, .slice A0_7 l0_7.length c0_7, .int .i64 a0_8, .int .i64 a0_9, .int .i64 a0_10] 34 (h := ?_); intro gb180 hg w9 hbox hb; have BK180:=Zz.k (hbox); have GW180:=bz HB hg; have GE180:=bz HB hg; replace HB:=bs HB hb; clear hb hbox hg) | ((with_reducible refine Qaf (N:=3) rfl ?_); refine bx 3 #[.int .i64 a1_0, .int .i64 a1_1, .int .i64 a1_2] 32 (h := ?_); intro gb181 hg w10 hbox hb; have BK181:=Zz.k (hbox); have GW181:=bz HB hg; have GE181:=bz HB hg; have NB180_181:=bn BK180 hg; have NB181_180:=bm BK180 hg; replace BK180:=bl BK180 hb; replace HB:=bs HB hb; clear hb hbox hg; have hnb11:=NB181_180.out; have hnc11:=NB180_181.out; obtain ⟨_,_,_,_,_,_⟩:=kc3 BK181; obtain ⟨_,_,_,_,_,_,_,_,_,_,_,_,_,_,_,_,_,_,_,_,_,_⟩:=kc11 BK180))
 go_ret
 exact ⟨re,bw HB⟩
end
section
attribute [local go_sem] Qbm Qbk Qbu Qbt Qbc Qbb Qbl Qbj
def r4_Runes.f (k : Nat) (a0_0 : Int) (a0_1 : Int) (a0_2 : Int) (a0_3 : Int) (a0_4 : Int) (a0_5 : Int) (a0_6 : ByteArray) (l0_7 : List (SElem)) (a0_8 : Int) (a0_9 : Int) (a0_10 : Int) : Option (Int):=(r1_Runes.f k a0_6).bind fun bt207 => (some (bt207.1.length : Int))
theorem r4_Runes.calls (k : Nat) (a0_0 : Int) (a0_1 : Int) (a0_2 : Int) (a0_3 : Int) (a0_4 : Int) (a0_5 : Int) (a0_6 : ByteArray) (A0_7 : Option Addr) (c0_7 : Nat) (l0_7 : List (SElem)) (a0_8 : Int) (a0_9 : Int) (a0_10 : Int) (r : Int) (w : World) (hr0_7 : Kd.C Qap w A0_7 l0_7.length l0_7) (hc0_7 : l0_7.length <= c0_7) (hT : GT w) (h : r4_Runes.f k a0_0 a0_1 a0_2 a0_3 a0_4 a0_5 a0_6 l0_7 a0_8 a0_9 a0_10 = some r) :
  Calls Tryz.prog 55 #[.agg #[.int .i64 a0_0, .int .i64 a0_1, .int .i64 a0_2, .int .i64 a0_3, .int .i64 a0_4, .int .i64 a0_5, .string a0_6, .slice A0_7 l0_7.length c0_7, .int .i64 a0_8, .int .i64 a0_9, .int .i64 a0_10]] w fun e w' => e = .returned (.int .i64 r) /\ Below w.heap.size w w':=by
 have hu34:=Tryz.underlying34
 have HR0_7:=Zz.k hr0_7
 have HC0_7:=Zz.k hc0_7
 clear hr0_7 hc0_7
 have HB:=Zz.k (Below.refl w.heap.size w)
 unfold r4_Runes.f at h; have H:=h
 clear h
 obtain ⟨⟨t207,t208⟩,A2,H⟩:=bE H
 try dsimp only at H
 obtain rfl:=Zo H
 go_enter Tryz.func55,Tryz.ntmps55
 go_wp2_with (first | ((with_reducible refine Qaf (N:=1) rfl ?_); refine bx 1 #[.int .i64 a0_0, .int .i64 a0_1, .int .i64 a0_2, .int .i64 a0_3, .int .i64 a0_4, .int .i64 a0_5, .string a0_6, .slice A0_7 l0_7.length c0_7, .int .i64 a0_8, .int .i64 a0_9, .int .i64 a0_10] 34 (h := ?_); intro gb206 hg w3 hbox hb; have BK206:=Zz.k (hbox); have GW206:=bz HB hg; have GE206:=bz HB hg; replace HB:=bs HB hb; clear hb hbox hg; obtain ⟨_,_,_,_,_,_,_,_,_,_,_,_,_,_,_,_,_,_,_,_,_,_⟩:=kc11 BK206) | ((with_reducible refine Qac (f:=18) rfl ?_); refine gl (some 8) Tryz.func18 #[.string a0_6] (h := ?_); (with_reducible refine (r1_Runes.calls k a0_6 t207 t208 _ ?side1 A2.out).mono ?_); (case side1 => exact (hT.below (bw HB))); rintro e w5 ⟨v209,rfl,ho0,hb⟩; refine ⟨_,rfl, ?_⟩; have HO210:=Zz.k (Kd.R_lower ho0 (Qal (bw HB))); replace BK206:=bl BK206 hb; replace HB:=bs HB hb; clear hb; clear ho0; obtain ⟨Ao6,co6,eo6⟩:=Kd.R_slice HO210.out; subst eo6))
 go_ret
 exact ⟨re,bw HB⟩
def r4_written.f (k : Nat) (l0 : List (SOp)) (a1_0 : Int) (a1_1 : Int) (a1_2 : Int) : Option (Bool):=(r4_Begin.f a1_0 a1_1 a1_2).bind fun t212 => (if t212 = true then (some true) else ((r4_Find.f k l0 a1_0 a1_1).bind fun t213 => (if t213 >= 0 then (if a1_2 >= 0 then (if 0 <= t213 then (if t213 < (l0.length : Int) then ((r4_Runes.f k ((Qad l0 t213).f0) ((Qad l0 t213).f1) ((Qad l0 t213).f2) ((Qad l0 t213).f3.f0) ((Qad l0 t213).f3.f1) ((Qad l0 t213).f3.f2) ((Qad l0 t213).f4) ((Qad l0 t213).f5) ((Qad l0 t213).f6) ((Qad l0 t213).f7) ((Qad l0 t213).f8)).bind fun t215 => (some (decide (a1_2 < t215)))) else (none)) else (none)) else (some false)) else (some false))))
def r4_written.T4 : Bool × List (List Nat × List Nat):=(true,[([],[]),([0],[0]),([1],[1]),([2],[2]),([3,2],[2,3]),([4,2],[2,4]),([2,5],[2,5]),([6,2],[6]),([7],[7]),([8,7],[7,8]),([7],[7]),([7],[7]),([10,11,7],[7,10,11]),([12,7],[7,12]),([13,7,7],[7,13]),([9,14,7],[7,9,14]),([7,15],[7,15]),([16,14,0,1,2,3,4,5,6,7,8,9,10,11,12,13,14,15,16],[16])])
def r4_written.B4 : List Nat:=[0,1,3,7,15,31,63,127,255,511,255,255,3327,7423,15615,32767,65535,131071]
theorem r4_written.tab4 : rtab .any (Qdb Tryz.f70 4) = r4_written.T4:=by kernel_rfl
theorem r4_written.bits4 : Qay r4_written.T4.2 r4_written.B4 = true:=by kernel_rfl
theorem r4_written.calls (k : Nat) (A0 : Option Addr) (c0 : Nat) (l0 : List (SOp)) (a1_0 : Int) (a1_1 : Int) (a1_2 : Int) (r : Bool) (w : World) (hr0 : Kd.C kOp w A0 l0.length l0) (hc0 : l0.length <= c0) (hT : GT w) (h : r4_written.f k l0 a1_0 a1_1 a1_2 = some r) :
  Calls Tryz.prog 70 #[.slice A0 l0.length c0, .agg #[.int .i64 a1_0, .int .i64 a1_1, .int .i64 a1_2]] w fun e w' => e = .returned (.bool r) /\ Below w.heap.size w w':=by
 have hu32:=Tryz.underlying32
 have hu34:=Tryz.underlying34
 have HR0:=Zz.k hr0
 have HC0:=Zz.k hc0
 clear hr0 hc0
 have HB:=Zz.k (Below.refl w.heap.size w)
 unfold r4_written.f at h; have H:=h
 clear h
 obtain ⟨t212,A3,H⟩:=bE H
 by_cases c4 : t212 = true
 ·subst c4
  rw [if_pos rfl] at H
  obtain rfl:=Zo H
  go_enter Tryz.func70,Tryz.ntmps70
  go_wp2_with (first | ((with_reducible refine Qaf (N:=3) rfl ?_); refine bx 3 #[.int .i64 a1_0, .int .i64 a1_1, .int .i64 a1_2] 32 (h := ?_); intro gb211 hg w5 hbox hb; have BK211:=Zz.k (hbox); have GW211:=bz HB hg; have GE211:=bz HB hg; replace HB:=bs HB hb; clear hb hbox hg; obtain ⟨_,_,_,_,_,_⟩:=kc3 BK211) | ((with_reducible refine Qac (f:=71) rfl ?_); refine gl (some 7) Tryz.func71 #[.agg #[.int .i64 a1_0, .int .i64 a1_1, .int .i64 a1_2]] (h := ?_); (with_reducible refine (r4_Begin.calls a1_0 a1_1 a1_2 true _ A3.out).mono ?_); rintro e w7 ⟨rfl,hb⟩; refine ⟨_,rfl, ?_⟩; replace BK211:=bl BK211 hb; replace HB:=bs HB hb; clear hb))
  go_ret
  exact ⟨re,bw HB⟩
 replace c4:=Zf c4
 subst c4
 rw [if_neg nft] at H
 obtain ⟨t213,A8,H⟩:=bE H
 by_cases c9 : t213 >= 0; rotate_left
 ·rw [if_neg c9] at H
  have c9b0:=Ze c9
  clear c9
  obtain rfl:=Zo H
  go_enter Tryz.func70,Tryz.ntmps70
  try go_wp2_with (first | ((with_reducible refine Qaf (N:=3) rfl ?_); refine bx 3 #[.int .i64 a1_0, .int .i64 a1_1, .int .i64 a1_2] 32 (h := ?_); intro gb211 hg w25 hbox hb; have BK211:=Zz.k (hbox); have GW211:=bz HB hg; have GE211:=bz HB hg; replace HB:=bs HB hb; clear hb hbox hg; obtain ⟨_,_,_,_,_,_⟩:=kc3 BK211) | ((with_reducible refine Qac (f:=71) rfl ?_); refine gl (some 7) Tryz.func71 #[.agg #[.int .i64 a1_0, .int .i64 a1_1, .int .i64 a1_2]] (h := ?_); (with_reducible refine (r4_Begin.calls a1_0 a1_1 a1_2 false _ A3.out).mono ?_); rintro e w27 ⟨rfl,hb⟩; refine ⟨_,rfl, ?_⟩; replace BK211:=bl BK211 hb; replace HB:=bs HB hb; clear hb; obtain ⟨_,_,_,_,_,_⟩:=kc3 BK211) | ((with_reducible refine Qac (f:=43) rfl ?_); refine gl (some 13) Tryz.func43 #[.slice A0 l0.length c0, .int .i64 a1_0, .int .i64 a1_1] (h := ?_); (with_reducible refine (r4_Find.calls k _ _ l0 a1_0 a1_1 t213 _ ?side1 ?side2 A8.out).mono ?_); (case side1 => exact cb HR0 HB); (case side2 => exact HC0.out); rintro e w' ⟨rfl,⟨nd,rfl⟩⟩; refine ⟨_,rfl, ?_⟩))
  (try (rw [drewN_self w27]; generalize hq_ : World.drewN w27 _ = w27; have n0_ : Zz (w27.heap[gb211]? = some (.cells #[.int .i64 a1_0, .int .i64 a1_1, .int .i64 a1_2] 32 (0,0))):=⟨by rw [<- hq_]; exact (kk BK211)⟩; have n1_ : Zz (Below w.heap.size w w27):=⟨by rw [<- hq_]; exact (bw HB)⟩; clear BK211 HB hq_; have BK211:=n0_; have HB:=n1_; clear n0_ n1_))
  have n0_:=Zz.k (Qao BK211.out)
  have n1_:=Zz.k (Qae HB.out)
  clear BK211
  clear HB
  have BK211:=n0_
  have HB:=n1_
  clear n0_ n1_
  refine stP (fun w' => True) 18 trivial (h:=fun hHeld => ?_); refine Qaw r4_written.tab4 r4_written.bits4 (fun HT_ HW_ => ?_)
  generalize w27.drew = w29 at BK211 HB hHeld ⊢
  refine pu HT_ 0 14 1 (h := ?_)
  refine pu HT_ 1 15 3 (h := ?_)
  refine pu HT_ 2 16 7 (h := ?_)
  refine off HT_ 3 17 15 (h := ?_)
  refine off HT_ 4 18 31 (h := ?_)
  refine off HT_ 5 19 63 (h := ?_)
  refine pu HT_ 6 20 127 (h := ?_)
  refine pu HT_ 7 21 255 (h := ?_)
  refine off HT_ 8 22 511 (h := ?_)
  refine off HT_ 9 23 1023 (h := ?_)
  refine off HT_ 10 24 2047 (h := ?_)
  refine off HT_ 11 25 4095 (h := ?_)
  refine off HT_ 12 26 8191 (h := ?_)
  refine off HT_ 13 27 16383 (h := ?_)
  refine off HT_ 14 28 32767 (h := ?_)
  refine off HT_ 15 29 65535 (h := ?_)
  refine pu HT_ 16 30 131071 (h := ?_)
  refine pu HT_ 17 4 262143 (h := ?_)
  refine dn HT_ (h := ?_)
  try go_wp2
  go_ret
  exact ⟨re,bw HB⟩
 rw [if_pos c9] at H
 have c9b0:=Zd c9
 clear c9
 by_cases c10 : a1_2 >= 0; rotate_left
 ·rw [if_neg c10] at H
  have c10b0:=Ze c10
  clear c10
  obtain rfl:=Zo H
  go_enter Tryz.func70,Tryz.ntmps70
  try go_wp2_with (first | ((with_reducible refine Qaf (N:=3) rfl ?_); refine bx 3 #[.int .i64 a1_0, .int .i64 a1_1, .int .i64 a1_2] 32 (h := ?_); intro gb211 hg w20 hbox hb; have BK211:=Zz.k (hbox); have GW211:=bz HB hg; have GE211:=bz HB hg; replace HB:=bs HB hb; clear hb hbox hg; obtain ⟨_,_,_,_,_,_⟩:=kc3 BK211) | ((with_reducible refine Qac (f:=71) rfl ?_); refine gl (some 7) Tryz.func71 #[.agg #[.int .i64 a1_0, .int .i64 a1_1, .int .i64 a1_2]] (h := ?_); (with_reducible refine (r4_Begin.calls a1_0 a1_1 a1_2 false _ A3.out).mono ?_); rintro e w22 ⟨rfl,hb⟩; refine ⟨_,rfl, ?_⟩; replace BK211:=bl BK211 hb; replace HB:=bs HB hb; clear hb; obtain ⟨_,_,_,_,_,_⟩:=kc3 BK211) | ((with_reducible refine Qac (f:=43) rfl ?_); refine gl (some 13) Tryz.func43 #[.slice A0 l0.length c0, .int .i64 a1_0, .int .i64 a1_1] (h := ?_); (with_reducible refine (r4_Find.calls k _ _ l0 a1_0 a1_1 t213 _ ?side1 ?side2 A8.out).mono ?_); (case side1 => exact cb HR0 HB); (case side2 => exact HC0.out); rintro e w' ⟨rfl,⟨nd,rfl⟩⟩; refine ⟨_,rfl, ?_⟩))
  (try (rw [drewN_self w22]; generalize hq_ : World.drewN w22 _ = w22; have n0_ : Zz (w22.heap[gb211]? = some (.cells #[.int .i64 a1_0, .int .i64 a1_1, .int .i64 a1_2] 32 (0,0))):=⟨by rw [<- hq_]; exact (kk BK211)⟩; have n1_ : Zz (Below w.heap.size w w22):=⟨by rw [<- hq_]; exact (bw HB)⟩; clear BK211 HB hq_; have BK211:=n0_; have HB:=n1_; clear n0_ n1_))
  have n0_:=Zz.k (Qao BK211.out)
  have n1_:=Zz.k (Qae HB.out)
  clear BK211
  clear HB
  have BK211:=n0_
  have HB:=n1_
  clear n0_ n1_
  refine stP (fun w' => E3 w' gb211 (.int .i64 a1_0) (.int .i64 a1_1) (.int .i64 a1_2)) 18 (e3 BK211) (h:=fun hHeld => ?_); refine Qaw r4_written.tab4 r4_written.bits4 (fun HT_ HW_ => ?_)
  generalize w22.drew = w24 at BK211 HB hHeld ⊢
  refine pu HT_ 0 14 1 (h := ?_)
  refine pu HT_ 1 15 3 (h := ?_)
  refine pu HT_ 2 16 7 (h := ?_)
  refine pu HT_ 3 17 15 (h := ?_)
  refine tk HT_ HW_ hHeld 4 18 31 (h := ?_)
  refine pu HT_ 5 19 63 (h := ?_)
  refine pu HT_ 6 20 127 (h := ?_)
  refine pu HT_ 7 21 255 (h := ?_)
  refine off HT_ 8 22 511 (h := ?_)
  refine off HT_ 9 23 1023 (h := ?_)
  refine off HT_ 10 24 2047 (h := ?_)
  refine off HT_ 11 25 4095 (h := ?_)
  refine off HT_ 12 26 8191 (h := ?_)
  refine off HT_ 13 27 16383 (h := ?_)
  refine off HT_ 14 28 32767 (h := ?_)
  refine off HT_ 15 29 65535 (h := ?_)
  refine pu HT_ 16 30 131071 (h := ?_)
  refine pu HT_ 17 4 262143 (h := ?_)
  refine dn HT_ (h := ?_)
  try go_wp2
  go_ret
  exact ⟨re,bw HB⟩
 rw [if_pos c10] at H
 have c10b0:=Zd c10
 clear c10
 by_cases c11 : 0 <= t213; rotate_left
 ·rw [if_neg c11] at H
  exact absurd H (by simp)
 rw [if_pos c11] at H
 have c11b0:=Zd c11
 clear c11
 by_cases c12 : t213 < (l0.length : Int); rotate_left
 ·rw [if_neg c12] at H
  exact absurd H (by simp)
 rw [if_pos c12] at H
 have c12b0:=Zd c12
 clear c12
 obtain ⟨t215,A13,H⟩:=bE H
 obtain rfl:=Zo H
 go_enter Tryz.func70,Tryz.ntmps70
 try go_wp2_with (first | ((with_reducible refine Qaf (N:=3) rfl ?_); refine bx 3 #[.int .i64 a1_0, .int .i64 a1_1, .int .i64 a1_2] 32 (h := ?_); intro gb211 hg w14 hbox hb; have BK211:=Zz.k (hbox); have GW211:=bz HB hg; have GE211:=bz HB hg; replace HB:=bs HB hb; clear hb hbox hg; obtain ⟨_,_,_,_,_,_⟩:=kc3 BK211) | ((with_reducible refine Qac (f:=71) rfl ?_); refine gl (some 7) Tryz.func71 #[.agg #[.int .i64 a1_0, .int .i64 a1_1, .int .i64 a1_2]] (h := ?_); (with_reducible refine (r4_Begin.calls a1_0 a1_1 a1_2 false _ A3.out).mono ?_); rintro e w16 ⟨rfl,hb⟩; refine ⟨_,rfl, ?_⟩; replace BK211:=bl BK211 hb; replace HB:=bs HB hb; clear hb; obtain ⟨_,_,_,_,_,_⟩:=kc3 BK211) | ((with_reducible refine Qac (f:=43) rfl ?_); refine gl (some 13) Tryz.func43 #[.slice A0 l0.length c0, .int .i64 a1_0, .int .i64 a1_1] (h := ?_); (with_reducible refine (r4_Find.calls k _ _ l0 a1_0 a1_1 t213 _ ?side1 ?side2 A8.out).mono ?_); (case side1 => exact cb HR0 HB); (case side2 => exact HC0.out); rintro e w' ⟨rfl,⟨nd,rfl⟩⟩; refine ⟨_,rfl, ?_⟩))
 (try (rw [drewN_self w16]; generalize hq_ : World.drewN w16 _ = w16; have n0_ : Zz (w16.heap[gb211]? = some (.cells #[.int .i64 a1_0, .int .i64 a1_1, .int .i64 a1_2] 32 (0,0))):=⟨by rw [<- hq_]; exact (kk BK211)⟩; have n1_ : Zz (Below w.heap.size w w16):=⟨by rw [<- hq_]; exact (bw HB)⟩; clear BK211 HB hq_; have BK211:=n0_; have HB:=n1_; clear n0_ n1_))
 have n0_:=Zz.k (Qao BK211.out)
 have n1_:=Zz.k (Qae HB.out)
 clear BK211
 clear HB
 have BK211:=n0_
 have HB:=n1_
 clear n0_ n1_
 have p214 : 0 <= (t213 : Int):=od
 have q214 : t213 < (l0.length : Int):=od
 obtain ⟨ad214,A214_7,c214_7,e214,hx214_0,hx214_1,hx214_2,hx214_3,hx214_4,hx214_5,hx214_6,hx214_7,hx214_8,hx214_9,hx214_10,hl214_7,hi214_7⟩:=Qcg HR0.out t213 p214 q214
 have hw214_10:=hx214_10
 have hw214_9:=hx214_9
 have hw214_8:=hx214_8
 have hw214_7:=hx214_7
 have hw214_6:=hx214_6
 have hw214_5:=hx214_5
 have hw214_4:=hx214_4
 have hw214_3:=hx214_3
 have hw214_2:=hx214_2
 have hw214_1:=hx214_1
 have hw214_0:=hx214_0
 cases e214
 replace hx214_0:=cl HB hx214_0
 replace hx214_1:=cl HB hx214_1
 replace hx214_2:=cl HB hx214_2
 replace hx214_3:=cl HB hx214_3
 replace hx214_4:=cl HB hx214_4
 replace hx214_5:=cl HB hx214_5
 replace hx214_6:=cl HB hx214_6
 replace hx214_7:=cl HB hx214_7
 replace hx214_8:=cl HB hx214_8
 replace hx214_9:=cl HB hx214_9
 replace hx214_10:=cl HB hx214_10
 have HR214_7:=Zz.k hi214_7
 have HC214_7:=Zz.k hl214_7
 clear hi214_7 hl214_7
 replace p214:=eq_true p214
 replace q214:=eq_true q214
 refine stP (fun w' => B3 w' gb211 (.int .i64 a1_0) (.int .i64 a1_1) (.int .i64 a1_2) (Q11 w' (ad214.add ((t213).toNat * 11)) (Qad l0 t213) A214_7 c214_7)) 18 (b3 BK211 ⟨(cW HB hw214_0),(cW HB hw214_1),(cW HB hw214_2),(cW HB hw214_3),(cW HB hw214_4),(cW HB hw214_5),(cW HB hw214_6),(cW HB hw214_7),(cW HB hw214_8),(cW HB hw214_9),(cW HB hw214_10)⟩) (h:=fun hHeld => ?_); refine Qaw r4_written.tab4 r4_written.bits4 (fun HT_ HW_ => ?_)
 generalize w16.drew = w18 at BK211 HB HR214_7 hx214_0 hx214_1 hx214_10 hx214_2 hx214_3 hx214_4 hx214_5 hx214_6 hx214_7 hx214_8 hx214_9 hHeld ⊢
 refine pu HT_ 0 14 1 (h := ?_)
 refine pu HT_ 1 15 3 (h := ?_)
 refine pu HT_ 2 16 7 (h := ?_)
 refine pu HT_ 3 17 15 (h := ?_)
 refine tk HT_ HW_ hHeld 4 18 31 (h := ?_)
 refine pu HT_ 5 19 63 (h := ?_)
 refine pu HT_ 6 20 127 (h := ?_)
 refine pu HT_ 7 21 255 (h := ?_)
 refine pu HT_ 8 22 511 (h := ?_)
 refine pu HT_ 10 24 1535 (h := ?_)
 refine pu HT_ 11 25 3583 (h := ?_)
 refine pu HT_ 12 26 7679 (h := ?_)
 refine tk HT_ HW_ hHeld 9 23 8191 (h := ?_)
 refine tk HT_ HW_ hHeld 13 27 16383 (h := ?_)
 refine on HT_ 14 (some 28) 32767 (h:=fun K hK => ?_)
 refine gS Tryz.func55 #[.agg #[.int .i64 ((Qad l0 t213).f0), .int .i64 ((Qad l0 t213).f1), .int .i64 ((Qad l0 t213).f2), .int .i64 ((Qad l0 t213).f3.f0), .int .i64 ((Qad l0 t213).f3.f1), .int .i64 ((Qad l0 t213).f3.f2), .string ((Qad l0 t213).f4), .slice A214_7 ((Qad l0 t213).f5).length c214_7, .int .i64 ((Qad l0 t213).f6), .int .i64 ((Qad l0 t213).f7), .int .i64 ((Qad l0 t213).f8)]] (h := ?_)
 with_reducible refine (r4_Runes.calls k ((Qad l0 t213).f0) ((Qad l0 t213).f1) ((Qad l0 t213).f2) ((Qad l0 t213).f3.f0) ((Qad l0 t213).f3.f1) ((Qad l0 t213).f3.f2) ((Qad l0 t213).f4) _ _ ((Qad l0 t213).f5) ((Qad l0 t213).f6) ((Qad l0 t213).f7) ((Qad l0 t213).f8) t215 _ ?side1 ?side2 ?side3 A13.out).mono ?_
 (case side1 => exact cb HR214_7 HB)
 (case side2 => exact HC214_7.out)
 (case side3 => exact (hT.below (bw HB)))
 rintro e w19 ⟨rfl,hb⟩
 refine ⟨_,rfl, ?_⟩
 have n0_:=bl BK211 hb
 have n1_:=bs HB hb
 clear BK211
 clear HB
 have BK211:=n0_
 have HB:=n1_
 clear n0_ n1_
 (try clear hb)
 (try clear hb2)
 (try clear hk)
 (try clear hi)
 refine hK.out _ _ (b3 BK211 ⟨(cW HB hw214_0),(cW HB hw214_1),(cW HB hw214_2),(cW HB hw214_3),(cW HB hw214_4),(cW HB hw214_5),(cW HB hw214_6),(cW HB hw214_7),(cW HB hw214_8),(cW HB hw214_9),(cW HB hw214_10)⟩) (fun hHeld => ?_)
 clear hK K
 refine nn 28 (h := ?_)
 refine pu HT_ 15 29 65535 (h := ?_)
 refine pu HT_ 16 30 131071 (h := ?_)
 refine pu HT_ 17 4 262143 (h := ?_)
 refine dn HT_ (h := ?_)
 try go_wp2
 go_ret
 exact ⟨re,bw HB⟩
end
section
attribute [local go_sem] Qbm Qbk Qbu Qbt Qbc Qbb Qbl Qbj
mutual
def r4_Op.j0 : Nat -> Bool -> Int -> Int -> Int -> Int -> Int -> Int -> ByteArray -> List (SElem) -> Int -> Int -> Int -> Option (Bool)
 | 0,_,_,_,_,_,_,_,_,_,_,_,_ => none
 | k + 1,x89,x183000,x183001,x183002,x183003,x183004,x183005,x183006,x183007,x183008,x183009,x183010 => if x89 = true then (some false) else ((r1_Runes.f k x183006).bind fun bt189 => (if bt189.2 = true then (if (bt189.1.length : Int) > 12 then (r4_Op.j1 k true x183000 x183001 x183002 x183003 x183004 x183005 x183006 x183007 x183008 x183009 x183010) else ((r4_Elem.f x183003 x183004 x183005).bind fun t193 => (if t193 = true then (if (bt189.1.length : Int) = 0 then ((r4_Begin.f x183003 x183004 x183005).bind fun t194 => (if t194 = true then ((r4_own.f x183000 x183001 x183002 x183003 x183004 x183005 x183006 x183007 x183008 x183009 x183010 x183003 x183004 x183005).bind fun t195 => (r4_Op.j1 k t195 x183000 x183001 x183002 x183003 x183004 x183005 x183006 x183007 x183008 x183009 x183010)) else (r4_Op.j1 k true x183000 x183001 x183002 x183003 x183004 x183005 x183006 x183007 x183008 x183009 x183010))) else ((r4_own.f x183000 x183001 x183002 x183003 x183004 x183005 x183006 x183007 x183008 x183009 x183010 x183003 x183004 x183005).bind fun t196 => (r4_Op.j1 k t196 x183000 x183001 x183002 x183003 x183004 x183005 x183006 x183007 x183008 x183009 x183010))) else (r4_Op.j1 k true x183000 x183001 x183002 x183003 x183004 x183005 x183006 x183007 x183008 x183009 x183010)))) else (r4_Op.j1 k true x183000 x183001 x183002 x183003 x183004 x183005 x183006 x183007 x183008 x183009 x183010)))
def r4_Op.j1 : Nat -> Bool -> Int -> Int -> Int -> Int -> Int -> Int -> ByteArray -> List (SElem) -> Int -> Int -> Int -> Option (Bool)
 | 0,_,_,_,_,_,_,_,_,_,_,_,_ => none
 | k + 1,x125,x183000,x183001,x183002,x183003,x183004,x183005,x183006,x183007,x183008,x183009,x183010 => if x125 = true then (some false) else (r4_Op.l0 k 0 x183000 x183001 x183002 x183003 x183004 x183005 x183006 x183007 x183008 x183009 x183010)
def r4_Op.l0 : Nat -> Int -> Int -> Int -> Int -> Int -> Int -> Int -> ByteArray -> List (SElem) -> Int -> Int -> Int -> Option (Bool)
 | 0,_,_,_,_,_,_,_,_,_,_,_,_ => none
 | k + 1,x5,x183000,x183001,x183002,x183003,x183004,x183005,x183006,x183007,x183008,x183009,x183010 => if x5 < (x183007.length : Int) then (if 0 <= x5 then ((r4_Begin.f ((Qaa x183007 x5).f0) ((Qaa x183007 x5).f1) ((Qaa x183007 x5).f2)).bind fun t198 => (if t198 = true then (some false) else ((r4_Elem.f ((Qaa x183007 x5).f0) ((Qaa x183007 x5).f1) ((Qaa x183007 x5).f2)).bind fun t200 => (if t200 = true then ((r4_own.f x183000 x183001 x183002 x183003 x183004 x183005 x183006 x183007 x183008 x183009 x183010 ((Qaa x183007 x5).f0) ((Qaa x183007 x5).f1) ((Qaa x183007 x5).f2)).bind fun t202 => (if t202 = true then (some false) else (if x5 > 0 then (if 0 <= (wrap64 (x5 - 1)) then (if (wrap64 (x5 - 1)) < (x183007.length : Int) then ((r4_Less.f ((Qaa x183007 (wrap64 (x5 - 1))).f0) ((Qaa x183007 (wrap64 (x5 - 1))).f1) ((Qaa x183007 (wrap64 (x5 - 1))).f2) ((Qaa x183007 x5).f0) ((Qaa x183007 x5).f1) ((Qaa x183007 x5).f2)).bind fun t205 => (if t205 = true then (r4_Op.l0 k (wrap64 (x5 + 1)) x183000 x183001 x183002 x183003 x183004 x183005 x183006 x183007 x183008 x183009 x183010) else (some false))) else (none)) else (none)) else (r4_Op.l0 k (wrap64 (x5 + 1)) x183000 x183001 x183002 x183003 x183004 x183005 x183006 x183007 x183008 x183009 x183010)))) else (some false))))) else (none)) else (some true)
end
def r4_Op.f (k : Nat) (a0_0 : Int) (a0_1 : Int) (a0_2 : Int) (a0_3 : Int) (a0_4 : Int) (a0_5 : Int) (a0_6 : ByteArray) (l0_7 : List (SElem)) (a0_8 : Int) (a0_9 : Int) (a0_10 : Int) : Option (Bool):=(r4_name.f a0_0 a0_1).bind fun t183 => (if t183 = true then (if a0_2 = 2 then ((r4_name.f a0_8 a0_9).bind fun t184 => (if t184 = true then (if a0_8 = a0_0 then (if a0_9 = a0_1 then (some false) else ((r0_Num.f a0_10 268435456).bind fun t185 => (if t185 = true then ((r4_Begin.f a0_3 a0_4 a0_5).bind fun t186 => (if t186 = true then (if a0_6.toList = ([] : List UInt8) then (some ((l0_7.length : Int) == 0)) else (some false)) else (some false))) else (some false)))) else ((r0_Num.f a0_10 268435456).bind fun t187 => (if t187 = true then ((r4_Begin.f a0_3 a0_4 a0_5).bind fun t188 => (if t188 = true then (if a0_6.toList = ([] : List UInt8) then (some ((l0_7.length : Int) == 0)) else (some false)) else (some false))) else (some false)))) else (some false))) else (if a0_2 = 1 then (if a0_8 = 0 then (if a0_9 = 0 then (if a0_10 = 0 then (if (l0_7.length : Int) > 200 then (r4_Op.j0 k true a0_0 a0_1 a0_2 a0_3 a0_4 a0_5 a0_6 l0_7 a0_8 a0_9 a0_10) else (if a0_6.toList = ([] : List UInt8) then (r4_Op.j0 k ((l0_7.length : Int) == 0) a0_0 a0_1 a0_2 a0_3 a0_4 a0_5 a0_6 l0_7 a0_8 a0_9 a0_10) else (r4_Op.j0 k false a0_0 a0_1 a0_2 a0_3 a0_4 a0_5 a0_6 l0_7 a0_8 a0_9 a0_10))) else (r4_Op.j0 k true a0_0 a0_1 a0_2 a0_3 a0_4 a0_5 a0_6 l0_7 a0_8 a0_9 a0_10)) else (r4_Op.j0 k true a0_0 a0_1 a0_2 a0_3 a0_4 a0_5 a0_6 l0_7 a0_8 a0_9 a0_10)) else (r4_Op.j0 k true a0_0 a0_1 a0_2 a0_3 a0_4 a0_5 a0_6 l0_7 a0_8 a0_9 a0_10)) else (r4_Op.j0 k true a0_0 a0_1 a0_2 a0_3 a0_4 a0_5 a0_6 l0_7 a0_8 a0_9 a0_10))) else (some false))
def r4_Op.T13 : Bool × List (List Nat × List Nat):=(true,[([],[]),([0],[0]),([],[]),([1,2],[1,2]),([3],[3]),([4],[4]),([5,5],[5]),([6],[6]),([7,6],[6,7]),([6],[6]),([8,9,6],[6,8,9]),([10,6],[6,10]),([11,6,6],[6,11]),([12,6],[6,12]),([6,13],[6,13]),([14,12],[14]),([15],[15]),([15],[15]),([17,15],[15,17]),([15],[15]),([18,19,15],[15,18,19]),([20,15],[15,20]),([16,21,15,15],[15,16,21]),([15,22],[15,22]),([23,22],[23]),([24],[24]),([25,24],[24,25]),([26,24,24],[24,26]),([27],[27]),([28,27],[27,28]),([27],[27]),([30,27],[27,30]),([29,31,27],[27,29,31]),([32,27],[27,32]),([27],[27]),([34,27],[27,34]),([27],[27]),([35,36,27],[27,35,36]),([37,27],[27,37]),([33,38,27,27],[27,33,38]),([39,27],[27,39]),([27,40,24],[24,27,40]),([24,41],[24,41])])
def r4_Op.B13 : List Nat:=[0,1,0,7,15,31,63,127,255,127,1023,2047,4095,8191,16383,32767,65535,65535,196607,65535,983039,2031615,4194303,8388607,16777215,33554431,67108863,134217727,268435455,536870911,268435455,1342177279,4294967295,8589934591,268435455,17448304639,268435455,120527519743,257966473215,549755813887,1099511627775,2199023255551,4398046511103]
theorem r4_Op.tab13 : rtab .any (Qdb Tryz.f69 13) = r4_Op.T13:=by kernel_rfl
theorem r4_Op.bits13 : Qay r4_Op.T13.2 r4_Op.B13 = true:=by kernel_rfl
theorem r4_Op.calls (k : Nat) (a0_0 : Int) (a0_1 : Int) (a0_2 : Int) (a0_3 : Int) (a0_4 : Int) (a0_5 : Int) (a0_6 : ByteArray) (A0_7 : Option Addr) (c0_7 : Nat) (l0_7 : List (SElem)) (a0_8 : Int) (a0_9 : Int) (a0_10 : Int) (r : Bool) (w : World) (hr0_7 : Kd.C Qap w A0_7 l0_7.length l0_7) (hc0_7 : l0_7.length <= c0_7) (hT : GT w) (h : r4_Op.f k a0_0 a0_1 a0_2 a0_3 a0_4 a0_5 a0_6 l0_7 a0_8 a0_9 a0_10 = some r) :
  Calls Tryz.prog 69 #[.agg #[.int .i64 a0_0, .int .i64 a0_1, .int .i64 a0_2, .int .i64 a0_3, .int .i64 a0_4, .int .i64 a0_5, .string a0_6, .slice A0_7 l0_7.length c0_7, .int .i64 a0_8, .int .i64 a0_9, .int .i64 a0_10]] w fun e w' => e = .returned (.bool r) /\ Below w.heap.size w w':=by
 have hu34:=Tryz.underlying34
 have hu32:=Tryz.underlying32
 have HR0_7:=Zz.k hr0_7
 have HC0_7:=Zz.k hc0_7
 clear hr0_7 hc0_7
 have HB:=Zz.k (Below.refl w.heap.size w)
 unfold r4_Op.f at h; have H:=h
 clear h
 obtain ⟨t183,A2,H⟩:=bE H
 by_cases c3 : t183 = true; rotate_left
 ·replace c3:=Zf c3
  subst c3
  rw [if_neg nft] at H
  obtain rfl:=Zo H
  go_enter Tryz.func69,Tryz.ntmps69
  go_wp2_with (first | ((with_reducible refine Qaf (N:=1) rfl ?_); (try (refine Qah (by rfl) ?_; dsimp only)); refine bx 1 #[.int .i64 a0_0, .int .i64 a0_1, .int .i64 a0_2, .int .i64 a0_3, .int .i64 a0_4, .int .i64 a0_5, .string a0_6, .slice A0_7 l0_7.length c0_7, .int .i64 a0_8, .int .i64 a0_9, .int .i64 a0_10] 34 (h := ?_); intro gb182 hg w145 hbox hb; have BK182:=Zz.k (hbox); have GW182:=bz HB hg; have GE182:=bz HB hg; replace HB:=bs HB hb; clear hb hbox hg; obtain ⟨_,_,_,_,_,_,_,_,_,_,_,_,_,_,_,_,_,_,_,_,_,_⟩:=kc11 BK182) | ((with_reducible refine Qac (f:=98) rfl ?_); refine gl (some 10) Tryz.func98 #[.int .i64 a0_0, .int .i64 a0_1] (h := ?_); (with_reducible refine (r4_name.calls a0_0 a0_1 false _ A2.out).mono ?_); rintro e w' ⟨rfl,⟨nd,rfl⟩⟩; refine ⟨_,rfl, ?_⟩))
  go_ret
  exact ⟨re,bw HB⟩
 as_aux_lemma =>
 subst c3
 rw [if_pos rfl] at H
 by_cases c4 : a0_2 = 2
 ·as_aux_lemma =>
  rw [if_pos c4] at H
  obtain ⟨c4b0,c4b1⟩:=bT c4
  clear c4
  obtain ⟨t184,A5,H⟩:=bE H
  by_cases c6 : t184 = true; rotate_left
  ·replace c6:=Zf c6
   subst c6
   rw [if_neg nft] at H
   obtain rfl:=Zo H
   go_enter Tryz.func69,Tryz.ntmps69
   go_wp2_with (first | ((with_reducible refine Qaf (N:=1) rfl ?_); (try (refine Qah (by rfl) ?_; dsimp only)); refine bx 1 #[.int .i64 a0_0, .int .i64 a0_1, .int .i64 a0_2, .int .i64 a0_3, .int .i64 a0_4, .int .i64 a0_5, .string a0_6, .slice A0_7 l0_7.length c0_7, .int .i64 a0_8, .int .i64 a0_9, .int .i64 a0_10] 34 (h := ?_); intro gb182 hg w47 hbox hb; have BK182:=Zz.k (hbox); have GW182:=bz HB hg; have GE182:=bz HB hg; replace HB:=bs HB hb; clear hb hbox hg; obtain ⟨_,_,_,_,_,_,_,_,_,_,_,_,_,_,_,_,_,_,_,_,_,_⟩:=kc11 BK182) | ((with_reducible refine Qac (f:=98) rfl ?_); refine gl (some 10) Tryz.func98 #[.int .i64 a0_0, .int .i64 a0_1] (h := ?_); (with_reducible refine (r4_name.calls a0_0 a0_1 true _ A2.out).mono ?_); rintro e w' ⟨rfl,⟨nd,rfl⟩⟩; refine ⟨_,rfl, ?_⟩) | ((with_reducible refine Qac (f:=98) rfl ?_); refine gl (some 19) Tryz.func98 #[.int .i64 a0_8, .int .i64 a0_9] (h := ?_); (with_reducible refine (r4_name.calls a0_8 a0_9 false _ A5.out).mono ?_); rintro e w' ⟨rfl,⟨nd,rfl⟩⟩; refine ⟨_,rfl, ?_⟩))
   go_ret
   exact ⟨re,bw HB⟩
  as_aux_lemma =>
  subst c6
  rw [if_pos rfl] at H
  by_cases c7 : a0_8 = a0_0; rotate_left
  ·rw [if_neg c7] at H
   obtain ⟨c7b0,c7b1⟩:=bF c7
   obtain ⟨t187,A29,H⟩:=bE H
   by_cases c30 : t187 = true; rotate_left
   ·replace c30:=Zf c30
    subst c30
    rw [if_neg nft] at H
    obtain rfl:=Zo H
    go_enter Tryz.func69,Tryz.ntmps69
    go_wp2_with (first | ((with_reducible refine Qaf (N:=1) rfl ?_); (try (refine Qah (by rfl) ?_; dsimp only)); refine bx 1 #[.int .i64 a0_0, .int .i64 a0_1, .int .i64 a0_2, .int .i64 a0_3, .int .i64 a0_4, .int .i64 a0_5, .string a0_6, .slice A0_7 l0_7.length c0_7, .int .i64 a0_8, .int .i64 a0_9, .int .i64 a0_10] 34 (h := ?_); intro gb182 hg w45 hbox hb; have BK182:=Zz.k (hbox); have GW182:=bz HB hg; have GE182:=bz HB hg; replace HB:=bs HB hb; clear hb hbox hg; obtain ⟨_,_,_,_,_,_,_,_,_,_,_,_,_,_,_,_,_,_,_,_,_,_⟩:=kc11 BK182) | ((with_reducible refine Qac (f:=98) rfl ?_); refine gl (some 10) Tryz.func98 #[.int .i64 a0_0, .int .i64 a0_1] (h := ?_); (with_reducible refine (r4_name.calls a0_0 a0_1 true _ A2.out).mono ?_); rintro e w' ⟨rfl,⟨nd,rfl⟩⟩; refine ⟨_,rfl, ?_⟩) | ((with_reducible refine Qac (f:=98) rfl ?_); refine gl (some 19) Tryz.func98 #[.int .i64 a0_8, .int .i64 a0_9] (h := ?_); (with_reducible refine (r4_name.calls a0_8 a0_9 true _ A5.out).mono ?_); rintro e w' ⟨rfl,⟨nd,rfl⟩⟩; refine ⟨_,rfl, ?_⟩) | (go_at_call 60; (with_reducible refine (r0_Num.calls a0_10 268435456 false _ A29.out).mono ?_); rintro e w' ⟨rfl,⟨nd,rfl⟩⟩))
    go_ret
    exact ⟨re,bw HB⟩
   as_aux_lemma =>
   subst c30
   rw [if_pos rfl] at H
   obtain ⟨t188,A31,H⟩:=bE H
   by_cases c32 : t188 = true; rotate_left
   ·replace c32:=Zf c32
    subst c32
    rw [if_neg nft] at H
    obtain rfl:=Zo H
    go_enter Tryz.func69,Tryz.ntmps69
    go_wp2_with (first | ((with_reducible refine Qaf (N:=1) rfl ?_); (try (refine Qah (by rfl) ?_; dsimp only)); refine bx 1 #[.int .i64 a0_0, .int .i64 a0_1, .int .i64 a0_2, .int .i64 a0_3, .int .i64 a0_4, .int .i64 a0_5, .string a0_6, .slice A0_7 l0_7.length c0_7, .int .i64 a0_8, .int .i64 a0_9, .int .i64 a0_10] 34 (h := ?_); intro gb182 hg w42 hbox hb; have BK182:=Zz.k (hbox); have GW182:=bz HB hg; have GE182:=bz HB hg; replace HB:=bs HB hb; clear hb hbox hg; obtain ⟨_,_,_,_,_,_,_,_,_,_,_,_,_,_,_,_,_,_,_,_,_,_⟩:=kc11 BK182) | ((with_reducible refine Qac (f:=98) rfl ?_); refine gl (some 10) Tryz.func98 #[.int .i64 a0_0, .int .i64 a0_1] (h := ?_); (with_reducible refine (r4_name.calls a0_0 a0_1 true _ A2.out).mono ?_); rintro e w' ⟨rfl,⟨nd,rfl⟩⟩; refine ⟨_,rfl, ?_⟩) | ((with_reducible refine Qac (f:=98) rfl ?_); refine gl (some 19) Tryz.func98 #[.int .i64 a0_8, .int .i64 a0_9] (h := ?_); (with_reducible refine (r4_name.calls a0_8 a0_9 true _ A5.out).mono ?_); rintro e w' ⟨rfl,⟨nd,rfl⟩⟩; refine ⟨_,rfl, ?_⟩) | (go_at_call 60; (with_reducible refine (r0_Num.calls a0_10 268435456 true _ A29.out).mono ?_); rintro e w' ⟨rfl,⟨nd,rfl⟩⟩) | (go_at_call 71; (with_reducible refine (r4_Begin.calls a0_3 a0_4 a0_5 false _ A31.out).mono ?_); rintro e w44 ⟨rfl,hb⟩; replace BK182:=bl BK182 hb; replace HB:=bs HB hb; clear hb))
    go_ret
    exact ⟨re,bw HB⟩
   as_aux_lemma =>
   subst c32
   rw [if_pos rfl] at H
   by_cases c33 : a0_6.toList = ([] : List UInt8)
   ·rw [if_pos c33] at H
    obtain ⟨c33b0,c33b1⟩:=bT c33
    clear c33
    obtain rfl:=Zo H
    go_enter Tryz.func69,Tryz.ntmps69
    go_wp2_with (first | ((with_reducible refine Qaf (N:=1) rfl ?_); (try (refine Qah (by rfl) ?_; dsimp only)); refine bx 1 #[.int .i64 a0_0, .int .i64 a0_1, .int .i64 a0_2, .int .i64 a0_3, .int .i64 a0_4, .int .i64 a0_5, .string a0_6, .slice A0_7 l0_7.length c0_7, .int .i64 a0_8, .int .i64 a0_9, .int .i64 a0_10] 34 (h := ?_); intro gb182 hg w34 hbox hb; have BK182:=Zz.k (hbox); have GW182:=bz HB hg; have GE182:=bz HB hg; replace HB:=bs HB hb; clear hb hbox hg; obtain ⟨_,_,_,_,_,_,_,_,_,_,_,_,_,_,_,_,_,_,_,_,_,_⟩:=kc11 BK182) | ((with_reducible refine Qac (f:=98) rfl ?_); refine gl (some 10) Tryz.func98 #[.int .i64 a0_0, .int .i64 a0_1] (h := ?_); (with_reducible refine (r4_name.calls a0_0 a0_1 true _ A2.out).mono ?_); rintro e w' ⟨rfl,⟨nd,rfl⟩⟩; refine ⟨_,rfl, ?_⟩) | ((with_reducible refine Qac (f:=98) rfl ?_); refine gl (some 19) Tryz.func98 #[.int .i64 a0_8, .int .i64 a0_9] (h := ?_); (with_reducible refine (r4_name.calls a0_8 a0_9 true _ A5.out).mono ?_); rintro e w' ⟨rfl,⟨nd,rfl⟩⟩; refine ⟨_,rfl, ?_⟩) | (go_at_call 60; (with_reducible refine (r0_Num.calls a0_10 268435456 true _ A29.out).mono ?_); rintro e w' ⟨rfl,⟨nd,rfl⟩⟩) | (go_at_call 71; (with_reducible refine (r4_Begin.calls a0_3 a0_4 a0_5 true _ A31.out).mono ?_); rintro e w36 ⟨rfl,hb⟩; replace BK182:=bl BK182 hb; replace HB:=bs HB hb; clear hb; obtain ⟨_,_,_,_,_,_,_,_,_,_,_,_,_,_,_,_,_,_,_,_,_,_⟩:=kc11 BK182))
    go_ret
    exact ⟨re,bw HB⟩
   rw [if_neg c33] at H
   obtain ⟨c33b0,c33b1⟩:=bF c33
   obtain rfl:=Zo H
   go_enter Tryz.func69,Tryz.ntmps69
   go_wp2_with (first | ((with_reducible refine Qaf (N:=1) rfl ?_); (try (refine Qah (by rfl) ?_; dsimp only)); refine bx 1 #[.int .i64 a0_0, .int .i64 a0_1, .int .i64 a0_2, .int .i64 a0_3, .int .i64 a0_4, .int .i64 a0_5, .string a0_6, .slice A0_7 l0_7.length c0_7, .int .i64 a0_8, .int .i64 a0_9, .int .i64 a0_10] 34 (h := ?_); intro gb182 hg w38 hbox hb; have BK182:=Zz.k (hbox); have GW182:=bz HB hg; have GE182:=bz HB hg; replace HB:=bs HB hb; clear hb hbox hg; obtain ⟨_,_,_,_,_,_,_,_,_,_,_,_,_,_,_,_,_,_,_,_,_,_⟩:=kc11 BK182) | ((with_reducible refine Qac (f:=98) rfl ?_); refine gl (some 10) Tryz.func98 #[.int .i64 a0_0, .int .i64 a0_1] (h := ?_); (with_reducible refine (r4_name.calls a0_0 a0_1 true _ A2.out).mono ?_); rintro e w' ⟨rfl,⟨nd,rfl⟩⟩; refine ⟨_,rfl, ?_⟩) | ((with_reducible refine Qac (f:=98) rfl ?_); refine gl (some 19) Tryz.func98 #[.int .i64 a0_8, .int .i64 a0_9] (h := ?_); (with_reducible refine (r4_name.calls a0_8 a0_9 true _ A5.out).mono ?_); rintro e w' ⟨rfl,⟨nd,rfl⟩⟩; refine ⟨_,rfl, ?_⟩) | (go_at_call 60; (with_reducible refine (r0_Num.calls a0_10 268435456 true _ A29.out).mono ?_); rintro e w' ⟨rfl,⟨nd,rfl⟩⟩) | (go_at_call 71; (with_reducible refine (r4_Begin.calls a0_3 a0_4 a0_5 true _ A31.out).mono ?_); rintro e w40 ⟨rfl,hb⟩; replace BK182:=bl BK182 hb; replace HB:=bs HB hb; clear hb; obtain ⟨_,_,_,_,_,_,_,_,_,_,_,_,_,_,_,_,_,_,_,_,_,_⟩:=kc11 BK182))
   go_ret
   exact ⟨re,bw HB⟩
  as_aux_lemma =>
  rw [if_pos c7] at H
  obtain ⟨c7b0,c7b1⟩:=bT c7
  clear c7
  by_cases c8 : a0_9 = a0_1
  ·rw [if_pos c8] at H
   obtain ⟨c8b0,c8b1⟩:=bT c8
   clear c8
   obtain rfl:=Zo H
   go_enter Tryz.func69,Tryz.ntmps69
   go_wp2_with (first | ((with_reducible refine Qaf (N:=1) rfl ?_); (try (refine Qah (by rfl) ?_; dsimp only)); refine bx 1 #[.int .i64 a0_0, .int .i64 a0_1, .int .i64 a0_2, .int .i64 a0_3, .int .i64 a0_4, .int .i64 a0_5, .string a0_6, .slice A0_7 l0_7.length c0_7, .int .i64 a0_8, .int .i64 a0_9, .int .i64 a0_10] 34 (h := ?_); intro gb182 hg w9 hbox hb; have BK182:=Zz.k (hbox); have GW182:=bz HB hg; have GE182:=bz HB hg; replace HB:=bs HB hb; clear hb hbox hg; obtain ⟨_,_,_,_,_,_,_,_,_,_,_,_,_,_,_,_,_,_,_,_,_,_⟩:=kc11 BK182) | ((with_reducible refine Qac (f:=98) rfl ?_); refine gl (some 10) Tryz.func98 #[.int .i64 a0_0, .int .i64 a0_1] (h := ?_); (with_reducible refine (r4_name.calls a0_0 a0_1 true _ A2.out).mono ?_); rintro e w' ⟨rfl,⟨nd,rfl⟩⟩; refine ⟨_,rfl, ?_⟩) | ((with_reducible refine Qac (f:=98) rfl ?_); refine gl (some 19) Tryz.func98 #[.int .i64 a0_8, .int .i64 a0_9] (h := ?_); (with_reducible refine (r4_name.calls a0_8 a0_9 true _ A5.out).mono ?_); rintro e w' ⟨rfl,⟨nd,rfl⟩⟩; refine ⟨_,rfl, ?_⟩))
   go_ret
   exact ⟨re,bw HB⟩
  rw [if_neg c8] at H
  obtain ⟨c8b0,c8b1⟩:=bF c8
  obtain ⟨t185,A11,H⟩:=bE H
  by_cases c12 : t185 = true; rotate_left
  ·replace c12:=Zf c12
   subst c12
   rw [if_neg nft] at H
   obtain rfl:=Zo H
   go_enter Tryz.func69,Tryz.ntmps69
   go_wp2_with (first | ((with_reducible refine Qaf (N:=1) rfl ?_); (try (refine Qah (by rfl) ?_; dsimp only)); refine bx 1 #[.int .i64 a0_0, .int .i64 a0_1, .int .i64 a0_2, .int .i64 a0_3, .int .i64 a0_4, .int .i64 a0_5, .string a0_6, .slice A0_7 l0_7.length c0_7, .int .i64 a0_8, .int .i64 a0_9, .int .i64 a0_10] 34 (h := ?_); intro gb182 hg w27 hbox hb; have BK182:=Zz.k (hbox); have GW182:=bz HB hg; have GE182:=bz HB hg; replace HB:=bs HB hb; clear hb hbox hg; obtain ⟨_,_,_,_,_,_,_,_,_,_,_,_,_,_,_,_,_,_,_,_,_,_⟩:=kc11 BK182) | ((with_reducible refine Qac (f:=98) rfl ?_); refine gl (some 10) Tryz.func98 #[.int .i64 a0_0, .int .i64 a0_1] (h := ?_); (with_reducible refine (r4_name.calls a0_0 a0_1 true _ A2.out).mono ?_); rintro e w' ⟨rfl,⟨nd,rfl⟩⟩; refine ⟨_,rfl, ?_⟩) | ((with_reducible refine Qac (f:=98) rfl ?_); refine gl (some 19) Tryz.func98 #[.int .i64 a0_8, .int .i64 a0_9] (h := ?_); (with_reducible refine (r4_name.calls a0_8 a0_9 true _ A5.out).mono ?_); rintro e w' ⟨rfl,⟨nd,rfl⟩⟩; refine ⟨_,rfl, ?_⟩) | (go_at_call 60; (with_reducible refine (r0_Num.calls a0_10 268435456 false _ A11.out).mono ?_); rintro e w' ⟨rfl,⟨nd,rfl⟩⟩))
   go_ret
   exact ⟨re,bw HB⟩
  as_aux_lemma =>
  subst c12
  rw [if_pos rfl] at H
  obtain ⟨t186,A13,H⟩:=bE H
  by_cases c14 : t186 = true; rotate_left
  ·replace c14:=Zf c14
   subst c14
   rw [if_neg nft] at H
   obtain rfl:=Zo H
   go_enter Tryz.func69,Tryz.ntmps69
   go_wp2_with (first | ((with_reducible refine Qaf (N:=1) rfl ?_); (try (refine Qah (by rfl) ?_; dsimp only)); refine bx 1 #[.int .i64 a0_0, .int .i64 a0_1, .int .i64 a0_2, .int .i64 a0_3, .int .i64 a0_4, .int .i64 a0_5, .string a0_6, .slice A0_7 l0_7.length c0_7, .int .i64 a0_8, .int .i64 a0_9, .int .i64 a0_10] 34 (h := ?_); intro gb182 hg w24 hbox hb; have BK182:=Zz.k (hbox); have GW182:=bz HB hg; have GE182:=bz HB hg; replace HB:=bs HB hb; clear hb hbox hg; obtain ⟨_,_,_,_,_,_,_,_,_,_,_,_,_,_,_,_,_,_,_,_,_,_⟩:=kc11 BK182) | ((with_reducible refine Qac (f:=98) rfl ?_); refine gl (some 10) Tryz.func98 #[.int .i64 a0_0, .int .i64 a0_1] (h := ?_); (with_reducible refine (r4_name.calls a0_0 a0_1 true _ A2.out).mono ?_); rintro e w' ⟨rfl,⟨nd,rfl⟩⟩; refine ⟨_,rfl, ?_⟩) | ((with_reducible refine Qac (f:=98) rfl ?_); refine gl (some 19) Tryz.func98 #[.int .i64 a0_8, .int .i64 a0_9] (h := ?_); (with_reducible refine (r4_name.calls a0_8 a0_9 true _ A5.out).mono ?_); rintro e w' ⟨rfl,⟨nd,rfl⟩⟩; refine ⟨_,rfl, ?_⟩) | (go_at_call 60; (with_reducible refine (r0_Num.calls a0_10 268435456 true _ A11.out).mono ?_); rintro e w' ⟨rfl,⟨nd,rfl⟩⟩) | (go_at_call 71; (with_reducible refine (r4_Begin.calls a0_3 a0_4 a0_5 false _ A13.out).mono ?_); rintro e w26 ⟨rfl,hb⟩; replace BK182:=bl BK182 hb; replace HB:=bs HB hb; clear hb))
   go_ret
   exact ⟨re,bw HB⟩
  as_aux_lemma =>
  subst c14
  rw [if_pos rfl] at H
  by_cases c15 : a0_6.toList = ([] : List UInt8)
  ·rw [if_pos c15] at H
   obtain ⟨c15b0,c15b1⟩:=bT c15
   clear c15
   obtain rfl:=Zo H
   go_enter Tryz.func69,Tryz.ntmps69
   go_wp2_with (first | ((with_reducible refine Qaf (N:=1) rfl ?_); (try (refine Qah (by rfl) ?_; dsimp only)); refine bx 1 #[.int .i64 a0_0, .int .i64 a0_1, .int .i64 a0_2, .int .i64 a0_3, .int .i64 a0_4, .int .i64 a0_5, .string a0_6, .slice A0_7 l0_7.length c0_7, .int .i64 a0_8, .int .i64 a0_9, .int .i64 a0_10] 34 (h := ?_); intro gb182 hg w16 hbox hb; have BK182:=Zz.k (hbox); have GW182:=bz HB hg; have GE182:=bz HB hg; replace HB:=bs HB hb; clear hb hbox hg; obtain ⟨_,_,_,_,_,_,_,_,_,_,_,_,_,_,_,_,_,_,_,_,_,_⟩:=kc11 BK182) | ((with_reducible refine Qac (f:=98) rfl ?_); refine gl (some 10) Tryz.func98 #[.int .i64 a0_0, .int .i64 a0_1] (h := ?_); (with_reducible refine (r4_name.calls a0_0 a0_1 true _ A2.out).mono ?_); rintro e w' ⟨rfl,⟨nd,rfl⟩⟩; refine ⟨_,rfl, ?_⟩) | ((with_reducible refine Qac (f:=98) rfl ?_); refine gl (some 19) Tryz.func98 #[.int .i64 a0_8, .int .i64 a0_9] (h := ?_); (with_reducible refine (r4_name.calls a0_8 a0_9 true _ A5.out).mono ?_); rintro e w' ⟨rfl,⟨nd,rfl⟩⟩; refine ⟨_,rfl, ?_⟩) | (go_at_call 60; (with_reducible refine (r0_Num.calls a0_10 268435456 true _ A11.out).mono ?_); rintro e w' ⟨rfl,⟨nd,rfl⟩⟩) | (go_at_call 71; (with_reducible refine (r4_Begin.calls a0_3 a0_4 a0_5 true _ A13.out).mono ?_); rintro e w18 ⟨rfl,hb⟩; replace BK182:=bl BK182 hb; replace HB:=bs HB hb; clear hb; obtain ⟨_,_,_,_,_,_,_,_,_,_,_,_,_,_,_,_,_,_,_,_,_,_⟩:=kc11 BK182))
   go_ret
   exact ⟨re,bw HB⟩
  rw [if_neg c15] at H
  obtain ⟨c15b0,c15b1⟩:=bF c15
  obtain rfl:=Zo H
  go_enter Tryz.func69,Tryz.ntmps69
  go_wp2_with (first | ((with_reducible refine Qaf (N:=1) rfl ?_); (try (refine Qah (by rfl) ?_; dsimp only)); refine bx 1 #[.int .i64 a0_0, .int .i64 a0_1, .int .i64 a0_2, .int .i64 a0_3, .int .i64 a0_4, .int .i64 a0_5, .string a0_6, .slice A0_7 l0_7.length c0_7, .int .i64 a0_8, .int .i64 a0_9, .int .i64 a0_10] 34 (h := ?_); intro gb182 hg w20 hbox hb; have BK182:=Zz.k (hbox); have GW182:=bz HB hg; have GE182:=bz HB hg; replace HB:=bs HB hb; clear hb hbox hg; obtain ⟨_,_,_,_,_,_,_,_,_,_,_,_,_,_,_,_,_,_,_,_,_,_⟩:=kc11 BK182) | ((with_reducible refine Qac (f:=98) rfl ?_); refine gl (some 10) Tryz.func98 #[.int .i64 a0_0, .int .i64 a0_1] (h := ?_); (with_reducible refine (r4_name.calls a0_0 a0_1 true _ A2.out).mono ?_); rintro e w' ⟨rfl,⟨nd,rfl⟩⟩; refine ⟨_,rfl, ?_⟩) | ((with_reducible refine Qac (f:=98) rfl ?_); refine gl (some 19) Tryz.func98 #[.int .i64 a0_8, .int .i64 a0_9] (h := ?_); (with_reducible refine (r4_name.calls a0_8 a0_9 true _ A5.out).mono ?_); rintro e w' ⟨rfl,⟨nd,rfl⟩⟩; refine ⟨_,rfl, ?_⟩) | (go_at_call 60; (with_reducible refine (r0_Num.calls a0_10 268435456 true _ A11.out).mono ?_); rintro e w' ⟨rfl,⟨nd,rfl⟩⟩) | (go_at_call 71; (with_reducible refine (r4_Begin.calls a0_3 a0_4 a0_5 true _ A13.out).mono ?_); rintro e w22 ⟨rfl,hb⟩; replace BK182:=bl BK182 hb; replace HB:=bs HB hb; clear hb; obtain ⟨_,_,_,_,_,_,_,_,_,_,_,_,_,_,_,_,_,_,_,_,_,_⟩:=kc11 BK182))
  go_ret
  exact ⟨re,bw HB⟩
 rw [if_neg c4] at H
 obtain ⟨c4b0,c4b1⟩:=bF c4
 have HC49:=Zz.k H
 clear H
 go_enter Tryz.func69,Tryz.ntmps69
 go_upto_region 5 with (first | ((with_reducible refine Qaf (N:=1) rfl ?_); (try (refine Qah (by rfl) ?_; dsimp only)); refine bx 1 #[.int .i64 a0_0, .int .i64 a0_1, .int .i64 a0_2, .int .i64 a0_3, .int .i64 a0_4, .int .i64 a0_5, .string a0_6, .slice A0_7 l0_7.length c0_7, .int .i64 a0_8, .int .i64 a0_9, .int .i64 a0_10] 34 (h := ?_); intro gb182 hg w50 hbox hb; have BK182:=Zz.k (hbox); have GW182:=bz HB hg; have GE182:=bz HB hg; replace HB:=bs HB hb; clear hb hbox hg; obtain ⟨_,_,_,_,_,_,_,_,_,_,_,_,_,_,_,_,_,_,_,_,_,_⟩:=kc11 BK182) | ((with_reducible refine Qac (f:=98) rfl ?_); refine gl (some 10) Tryz.func98 #[.int .i64 a0_0, .int .i64 a0_1] (h := ?_); (with_reducible refine (r4_name.calls a0_0 a0_1 true _ A2.out).mono ?_); rintro e w' ⟨rfl,⟨nd,rfl⟩⟩; refine ⟨_,rfl, ?_⟩))
 (try simp only [Act.put,List.setIfInBounds_toArray,List.set_cons_zero,List.set_cons_succ])
 go_cut [89] (fun v89 wc => ∃ (kq : Nat) (x89_48 : Bool),v89 = .bool x89_48 /\ Zz (r4_Op.j0 kq x89_48 a0_0 a0_1 a0_2 a0_3 a0_4 a0_5 a0_6 l0_7 a0_8 a0_9 a0_10 = some r) /\ Zz (kq <= k) /\ Zz (wc.heap[gb182]? = some (.cells #[.int .i64 a0_0, .int .i64 a0_1, .int .i64 a0_2, .int .i64 a0_3, .int .i64 a0_4, .int .i64 a0_5, .string a0_6,(.slice A0_7 l0_7.length c0_7), .int .i64 a0_8, .int .i64 a0_9, .int .i64 a0_10] 34 (0,0))) /\ Zz (Below w.heap.size w wc))
 case first =>
  have H:=HC49.out
  clear HC49
  by_cases c52 : a0_2 = 1; rotate_left
  ·rw [if_neg c52] at H
   obtain ⟨c52b0,c52b1⟩:=bF c52
   (first | rw [c52b0] | (simp only [Qbe,Qbi]; rw [c52b0]) | skip)
   have H':=Zz.k H
   clear H
   obtain ⟨_,_,_,_,_,_,_,_,_,_,_,_,_,_,_,_,_,_,_,_,_,_⟩:=kc11 BK182
   go_wp2
   go_meet
   case rel => exact ⟨_,(true),rf,H',⟨by first | omega | exact Nat.le_refl _⟩,⟨kk BK182⟩,⟨bw HB⟩⟩
  as_aux_lemma =>
  rw [if_pos c52] at H
  obtain ⟨c52b0,c52b1⟩:=bT c52
  clear c52
  (first | rw [c52b0] | (simp only [Qbe,Qbi]; rw [c52b0]) | skip)
  by_cases c53 : a0_8 = 0; rotate_left
  ·rw [if_neg c53] at H
   obtain ⟨c53b0,c53b1⟩:=bF c53
   have H':=Zz.k H
   clear H
   obtain ⟨_,_,_,_,_,_,_,_,_,_,_,_,_,_,_,_,_,_,_,_,_,_⟩:=kc11 BK182
   go_wp2
   go_meet
   case rel => exact ⟨_,(true),rf,H',⟨by first | omega | exact Nat.le_refl _⟩,⟨kk BK182⟩,⟨bw HB⟩⟩
  as_aux_lemma =>
  rw [if_pos c53] at H
  obtain ⟨c53b0,c53b1⟩:=bT c53
  clear c53
  by_cases c54 : a0_9 = 0; rotate_left
  ·rw [if_neg c54] at H
   obtain ⟨c54b0,c54b1⟩:=bF c54
   have H':=Zz.k H
   clear H
   obtain ⟨_,_,_,_,_,_,_,_,_,_,_,_,_,_,_,_,_,_,_,_,_,_⟩:=kc11 BK182
   go_wp2
   go_meet
   case rel => exact ⟨_,(true),rf,H',⟨by first | omega | exact Nat.le_refl _⟩,⟨kk BK182⟩,⟨bw HB⟩⟩
  as_aux_lemma =>
  rw [if_pos c54] at H
  obtain ⟨c54b0,c54b1⟩:=bT c54
  clear c54
  by_cases c55 : a0_10 = 0; rotate_left
  ·rw [if_neg c55] at H
   obtain ⟨c55b0,c55b1⟩:=bF c55
   have H':=Zz.k H
   clear H
   obtain ⟨_,_,_,_,_,_,_,_,_,_,_,_,_,_,_,_,_,_,_,_,_,_⟩:=kc11 BK182
   go_wp2
   go_meet
   case rel => exact ⟨_,(true),rf,H',⟨by first | omega | exact Nat.le_refl _⟩,⟨kk BK182⟩,⟨bw HB⟩⟩
  as_aux_lemma =>
  rw [if_pos c55] at H
  obtain ⟨c55b0,c55b1⟩:=bT c55
  clear c55
  by_cases c56 : (l0_7.length : Int) > 200
  ·as_aux_lemma =>
   rw [if_pos c56] at H
   have c56b0:=Zd c56
   have c56b1 : decide (200 < l0_7.length) = true:=Zd (by omega)
   clear c56
   have H':=Zz.k H
   clear H
   obtain ⟨_,_,_,_,_,_,_,_,_,_,_,_,_,_,_,_,_,_,_,_,_,_⟩:=kc11 BK182
   go_wp2
   go_meet
   case rel => exact ⟨_,(true),rf,H',⟨by first | omega | exact Nat.le_refl _⟩,⟨kk BK182⟩,⟨bw HB⟩⟩
  rw [if_neg c56] at H
  have c56b0:=Ze c56
  have c56b1 : decide (200 < l0_7.length) = false:=Ze (by omega)
  clear c56
  by_cases c58 : a0_6.toList = ([] : List UInt8); rotate_left
  ·rw [if_neg c58] at H
   obtain ⟨c58b0,c58b1⟩:=bF c58
   have H':=Zz.k H
   clear H
   obtain ⟨_,_,_,_,_,_,_,_,_,_,_,_,_,_,_,_,_,_,_,_,_,_⟩:=kc11 BK182
   go_wp2
   go_meet
   case rel => exact ⟨_,(false),rf,H',⟨by first | omega | exact Nat.le_refl _⟩,⟨kk BK182⟩,⟨bw HB⟩⟩
  as_aux_lemma =>
  rw [if_pos c58] at H
  obtain ⟨c58b0,c58b1⟩:=bT c58
  clear c58
  have H':=Zz.k H
  clear H
  obtain ⟨_,_,_,_,_,_,_,_,_,_,_,_,_,_,_,_,_,_,_,_,_,_⟩:=kc11 BK182
  go_wp2
  go_meet
  case rel => exact ⟨_,(((l0_7.length : Int) == 0)),rf,H',⟨by first | omega | exact Nat.le_refl _⟩,⟨kk BK182⟩,⟨bw HB⟩⟩
 case rest =>
  clear HC49
  try clear c3; try clear c4; try clear c4b0; try clear c4b1
  obtain ⟨kq,x89_48,rfl,HA,HJ48,BK182,HB⟩:=hcut
  cases kq with
  | zero => exact absurd HA.out (by simp [r4_Op.j0])
  | succ kj48 =>
   have H:=HA.out
   clear HA
   simp only [r4_Op.j0] at H
   by_cases c65 : x89_48 = true
   ·subst c65
    rw [if_pos rfl] at H
    obtain rfl:=Zo H
    go_wp2
    go_ret
    exact ⟨re,bw HB⟩
   replace c65:=Zf c65
   subst c65
   rw [if_neg nft] at H
   obtain ⟨⟨t189,t190⟩,A66,H⟩:=bE H
   try dsimp only at H
   have HC67:=Zz.k H
   clear H
   obtain ⟨_,_,_,_,_,_,_,_,_,_,_,_,_,_,_,_,_,_,_,_,_,_⟩:=kc11 BK182
   go_upto_region 8 with (first | ((with_reducible refine Qac (f:=18) rfl ?_); refine gl (some 93) Tryz.func18 #[.string a0_6] (h := ?_); (with_reducible refine (r1_Runes.calls kj48 a0_6 t189 t190 _ ?side1 A66.out).mono ?_); (case side1 => exact (hT.below (bw HB))); rintro e w69 ⟨v191,rfl,ho0,hb⟩; refine ⟨_,rfl, ?_⟩; have HO192:=Zz.k (Kd.R_lower ho0 (Qal (bw HB))); replace BK182:=bl BK182 hb; replace HB:=bs HB hb; clear hb; clear ho0))
   (try simp only [Act.put,List.setIfInBounds_toArray,List.set_cons_zero,List.set_cons_succ])
   go_cut [125] (fun v125 wc => ∃ (kq : Nat) (x125_66 : Bool),v125 = .bool x125_66 /\ Zz (r4_Op.j1 kq x125_66 a0_0 a0_1 a0_2 a0_3 a0_4 a0_5 a0_6 l0_7 a0_8 a0_9 a0_10 = some r) /\ Zz (kq <= kj48) /\ Zz (wc.heap[gb182]? = some (.cells #[.int .i64 a0_0, .int .i64 a0_1, .int .i64 a0_2, .int .i64 a0_3, .int .i64 a0_4, .int .i64 a0_5, .string a0_6,(.slice A0_7 l0_7.length c0_7), .int .i64 a0_8, .int .i64 a0_9, .int .i64 a0_10] 34 (0,0))) /\ Zz (Below w.heap.size w wc))
   case first =>
    have H:=HC67.out
    clear HC67
    by_cases c70 : t190 = true; rotate_left
    ·replace c70:=Zf c70
     subst c70
     rw [if_neg nft] at H
     have H':=Zz.k H
     clear H
     go_wp2
     go_meet
     case rel => exact ⟨_,(true),rf,H',⟨by have:=HJ48.out; first | omega | exact Nat.le_refl _⟩,⟨kk BK182⟩,⟨bw HB⟩⟩
    as_aux_lemma =>
    subst c70
    rw [if_pos rfl] at H
    by_cases c71 : (t189.length : Int) > 12
    ·as_aux_lemma =>
     rw [if_pos c71] at H
     have c71b0:=Zd c71
     have c71b1 : decide (12 < t189.length) = true:=Zd (by omega)
     clear c71
     (first | rw [c71b0] | (simp only [Qbe,Qbi]; rw [c71b0]) | skip)
     have H':=Zz.k H
     clear H
     obtain ⟨Ao72,co72,eo72⟩:=Kd.R_slice HO192.out
     subst eo72
     go_wp2
     go_meet
     case rel => exact ⟨_,(true),rf,H',⟨by have:=HJ48.out; first | omega | exact Nat.le_refl _⟩,⟨kk BK182⟩,⟨bw HB⟩⟩
    rw [if_neg c71] at H
    have c71b0:=Ze c71
    have c71b1 : decide (12 < t189.length) = false:=Ze (by omega)
    clear c71
    (first | rw [c71b0] | (simp only [Qbe,Qbi]; rw [c71b0]) | skip)
    obtain ⟨t193,A73,H⟩:=bE H
    by_cases c74 : t193 = true; rotate_left
    ·replace c74:=Zf c74
     subst c74
     rw [if_neg nft] at H
     have H':=Zz.k H
     clear H
     obtain ⟨Ao97,co97,eo97⟩:=Kd.R_slice HO192.out
     subst eo97
     obtain ⟨_,_,_,_,_,_,_,_,_,_,_,_,_,_,_,_,_,_,_,_,_,_⟩:=kc11 BK182
     go_wp2_with (first | (go_at_call 99; (with_reducible refine (r4_Elem.calls a0_3 a0_4 a0_5 false _ A73.out).mono ?_); rintro e w99 ⟨rfl,hb⟩; replace HO192:=rb HO192 hb; replace BK182:=bl BK182 hb; replace HB:=bs HB hb; clear hb))
     go_meet
     case rel => exact ⟨_,(true),rf,H',⟨by have:=HJ48.out; first | omega | exact Nat.le_refl _⟩,⟨kk BK182⟩,⟨bw HB⟩⟩
    as_aux_lemma =>
    subst c74
    rw [if_pos rfl] at H
    by_cases c75 : (t189.length : Int) = 0; rotate_left
    ·rw [if_neg c75] at H
     obtain ⟨c75b0,c75b1⟩:=bF c75
     have c75b2 : ¬ (t189 = []):=fun h_ => c75 (by rw [h_]; rfl)
     obtain ⟨t196,A91,H⟩:=bE H
     have H':=Zz.k H
     clear H
     obtain ⟨Ao92,co92,eo92⟩:=Kd.R_slice HO192.out
     subst eo92
     obtain ⟨_,_,_,_,_,_,_,_,_,_,_,_,_,_,_,_,_,_,_,_,_,_⟩:=kc11 BK182
     go_wp2_with (first | (go_at_call 99; (with_reducible refine (r4_Elem.calls a0_3 a0_4 a0_5 true _ A73.out).mono ?_); rintro e w94 ⟨rfl,hb⟩; replace HO192:=rb HO192 hb; replace BK182:=bl BK182 hb; replace HB:=bs HB hb; clear hb; obtain ⟨_,_,_,_,_,_,_,_,_,_,_,_,_,_,_,_,_,_,_,_,_,_⟩:=kc11 BK182) | (go_at_call 100; (with_reducible refine (r4_own.calls a0_0 a0_1 a0_2 a0_3 a0_4 a0_5 a0_6 _ _ l0_7 a0_8 a0_9 a0_10 a0_3 a0_4 a0_5 t196 _ ?side1 ?side2 A91.out).mono ?_); (case side1 => exact cb HR0_7 HB); (case side2 => exact HC0_7.out); rintro e w96 ⟨rfl,hb⟩; replace HO192:=rb HO192 hb; replace BK182:=bl BK182 hb; replace HB:=bs HB hb; clear hb))
     go_meet
     case rel => exact ⟨_,(t196),rf,H',⟨by have:=HJ48.out; first | omega | exact Nat.le_refl _⟩,⟨kk BK182⟩,⟨bw HB⟩⟩
    as_aux_lemma =>
    rw [if_pos c75] at H
    obtain ⟨c75b0,c75b1⟩:=bT c75
    clear c75
    obtain ⟨t194,A76,H⟩:=bE H
    by_cases c77 : t194 = true
    ·as_aux_lemma =>
     subst c77
     rw [if_pos rfl] at H
     obtain ⟨t195,A78,H⟩:=bE H
     have H':=Zz.k H
     clear H
     obtain ⟨Ao79,co79,eo79⟩:=Kd.R_slice HO192.out
     subst eo79
     obtain ⟨_,_,_,_,_,_,_,_,_,_,_,_,_,_,_,_,_,_,_,_,_,_⟩:=kc11 BK182
     go_wp2_with (first | (go_at_call 99; (with_reducible refine (r4_Elem.calls a0_3 a0_4 a0_5 true _ A73.out).mono ?_); rintro e w81 ⟨rfl,hb⟩; replace HO192:=rb HO192 hb; replace BK182:=bl BK182 hb; replace HB:=bs HB hb; clear hb; obtain ⟨_,_,_,_,_,_,_,_,_,_,_,_,_,_,_,_,_,_,_,_,_,_⟩:=kc11 BK182) | (go_at_call 71; (with_reducible refine (r4_Begin.calls a0_3 a0_4 a0_5 true _ A76.out).mono ?_); rintro e w83 ⟨rfl,hb⟩; replace HO192:=rb HO192 hb; replace BK182:=bl BK182 hb; replace HB:=bs HB hb; clear hb; obtain ⟨_,_,_,_,_,_,_,_,_,_,_,_,_,_,_,_,_,_,_,_,_,_⟩:=kc11 BK182) | (go_at_call 100; (with_reducible refine (r4_own.calls a0_0 a0_1 a0_2 a0_3 a0_4 a0_5 a0_6 _ _ l0_7 a0_8 a0_9 a0_10 a0_3 a0_4 a0_5 t195 _ ?side1 ?side2 A78.out).mono ?_); (case side1 => exact cb HR0_7 HB); (case side2 => exact HC0_7.out); rintro e w85 ⟨rfl,hb⟩; replace HO192:=rb HO192 hb; replace BK182:=bl BK182 hb; replace HB:=bs HB hb; clear hb))
     go_meet
     case rel => exact ⟨_,(t195),rf,H',⟨by have:=HJ48.out; first | omega | exact Nat.le_refl _⟩,⟨kk BK182⟩,⟨bw HB⟩⟩
    replace c77:=Zf c77
    subst c77
    rw [if_neg nft] at H
    have H':=Zz.k H
    clear H
    obtain ⟨Ao86,co86,eo86⟩:=Kd.R_slice HO192.out
    subst eo86
    obtain ⟨_,_,_,_,_,_,_,_,_,_,_,_,_,_,_,_,_,_,_,_,_,_⟩:=kc11 BK182
    go_wp2_with (first | (go_at_call 99; (with_reducible refine (r4_Elem.calls a0_3 a0_4 a0_5 true _ A73.out).mono ?_); rintro e w88 ⟨rfl,hb⟩; replace HO192:=rb HO192 hb; replace BK182:=bl BK182 hb; replace HB:=bs HB hb; clear hb; obtain ⟨_,_,_,_,_,_,_,_,_,_,_,_,_,_,_,_,_,_,_,_,_,_⟩:=kc11 BK182) | (go_at_call 71; (with_reducible refine (r4_Begin.calls a0_3 a0_4 a0_5 false _ A76.out).mono ?_); rintro e w90 ⟨rfl,hb⟩; replace HO192:=rb HO192 hb; replace BK182:=bl BK182 hb; replace HB:=bs HB hb; clear hb))
    go_meet
    case rel => exact ⟨_,(true),rf,H',⟨by have:=HJ48.out; first | omega | exact Nat.le_refl _⟩,⟨kk BK182⟩,⟨bw HB⟩⟩
   case rest =>
    clear HC67
    try clear c65
    obtain ⟨kq,x125_66,rfl,HA,HJ66,BK182,HB⟩:=hcut
    cases kq with
    | zero => exact absurd HA.out (by simp [r4_Op.j1])
    | succ kj66 =>
     have H:=HA.out
     clear HA
     simp only [r4_Op.j1] at H
     by_cases c100 : x125_66 = true
     ·subst c100
      rw [if_pos rfl] at H
      obtain rfl:=Zo H
      go_wp2
      go_ret
      exact ⟨re,bw HB⟩
     replace c100:=Zf c100
     subst c100
     rw [if_neg nft] at H
     have H':=Zz.k H
     clear H
     go_wp2
     go_loopg [5] kj66 (fun kq v5 w' => ∃ (x5_3 : Int),v5 = .int .i64 x5_3 /\ Zz (r4_Op.l0 kq x5_3 a0_0 a0_1 a0_2 a0_3 a0_4 a0_5 a0_6 l0_7 a0_8 a0_9 a0_10 = some r) /\ Zz (kq <= kj66) /\ Zz (w'.heap[gb182]? = some (.cells #[.int .i64 a0_0, .int .i64 a0_1, .int .i64 a0_2, .int .i64 a0_3, .int .i64 a0_4, .int .i64 a0_5, .string a0_6,(.slice A0_7 l0_7.length c0_7), .int .i64 a0_8, .int .i64 a0_9, .int .i64 a0_10] 34 (0,0))) /\ Zz (Below w.heap.size w w'))
     case atStart => exact ⟨(0),rf,H',⟨Nat.le_refl _⟩,⟨kk BK182⟩,⟨bw HB⟩⟩
     case round =>
      clear H'
      try clear c100
      obtain ⟨x5_3,rfl,HA,HK3,BK182,HB⟩:=hrel
      cases gk with
      | zero => exact absurd HA.out (by simp [r4_Op.l0])
      | succ k3 =>
       have H:=HA.out
       clear HA
       simp only [r4_Op.l0] at H
       by_cases c101 : x5_3 < (l0_7.length : Int); rotate_left
       ·rw [if_neg c101] at H
        have c101b0:=Ze c101
        clear c101
        obtain rfl:=Zo H
        obtain ⟨_,_,_,_,_,_,_,_,_,_,_,_,_,_,_,_,_,_,_,_,_,_⟩:=kc11 BK182
        go_wp2
        go_ret
        exact ⟨re,bw HB⟩
       as_aux_lemma =>
       rw [if_pos c101] at H
       have c101b0:=Zd c101
       clear c101
       by_cases c102 : 0 <= x5_3; rotate_left
       ·rw [if_neg c102] at H
        exact absurd H (by simp)
       as_aux_lemma =>
       rw [if_pos c102] at H
       have c102b0:=Zd c102
       clear c102
       obtain ⟨t198,A103,H⟩:=bE H
       by_cases c104 : t198 = true
       ·as_aux_lemma =>
        subst c104
        rw [if_pos rfl] at H
        obtain rfl:=Zo H
        obtain ⟨_,_,_,_,_,_,_,_,_,_,_,_,_,_,_,_,_,_,_,_,_,_⟩:=kc11 BK182
        try go_wp2
        have n0_:=Zz.k (Qao BK182.out)
        have n1_:=Zz.k (Qae HB.out)
        clear BK182
        clear HB
        have BK182:=n0_
        have HB:=n1_
        clear n0_ n1_
        have p197 : 0 <= (x5_3 : Int):=od
        have q197 : x5_3 < (l0_7.length : Int):=od
        obtain ⟨ad197,e197,hx197_0,hx197_1,hx197_2⟩:=Qbd HR0_7.out x5_3 p197 q197
        have hw197_2:=hx197_2
        have hw197_1:=hx197_1
        have hw197_0:=hx197_0
        cases e197
        replace hx197_0:=cl HB hx197_0
        replace hx197_1:=cl HB hx197_1
        replace hx197_2:=cl HB hx197_2
        replace p197:=eq_true p197
        replace q197:=eq_true q197
        refine stP (fun w' => B11 w' gb182 (.int .i64 a0_0) (.int .i64 a0_1) (.int .i64 a0_2) (.int .i64 a0_3) (.int .i64 a0_4) (.int .i64 a0_5) (.string a0_6) (.slice (some ad197) l0_7.length c0_7) (.int .i64 a0_8) (.int .i64 a0_9) (.int .i64 a0_10) (w'.cell? (ad197.add ((x5_3).toNat * 3)) = some (.int .i64 ((Qaa l0_7 x5_3).f0)) /\ w'.cell? ⟨(ad197.add ((x5_3).toNat * 3)).block,(ad197.add ((x5_3).toNat * 3)).off + 1,none⟩ = some (.int .i64 ((Qaa l0_7 x5_3).f1)) /\ w'.cell? ⟨(ad197.add ((x5_3).toNat * 3)).block,(ad197.add ((x5_3).toNat * 3)).off + 2,none⟩ = some (.int .i64 ((Qaa l0_7 x5_3).f2)))) 43 (b11 BK182 ⟨(cW HB hw197_0),(cW HB hw197_1),(cW HB hw197_2)⟩) (h:=fun hHeld => ?_); refine Qaw r4_Op.tab13 r4_Op.bits13 (fun HT_ HW_ => ?_)
        generalize wr.drew = w106 at BK182 HB hx197_0 hx197_1 hx197_2 hHeld ⊢
        refine pu HT_ 0 133 1 (h := ?_)
        refine pu HT_ 2 135 5 (h := ?_)
        refine tk HT_ HW_ hHeld 1 134 7 (h := ?_)
        refine pu HT_ 3 136 15 (h := ?_)
        refine tk HT_ HW_ hHeld 4 137 31 (h := ?_)
        refine on HT_ 5 (some 138) 63 (h:=fun K hK => ?_)
        refine gS Tryz.func71 #[.agg #[.int .i64 ((Qaa l0_7 x5_3).f0), .int .i64 ((Qaa l0_7 x5_3).f1), .int .i64 ((Qaa l0_7 x5_3).f2)]] (h := ?_)
        with_reducible refine (r4_Begin.calls ((Qaa l0_7 x5_3).f0) ((Qaa l0_7 x5_3).f1) ((Qaa l0_7 x5_3).f2) true _ A103.out).mono ?_
        rintro e w107 ⟨rfl,hb⟩
        refine ⟨_,rfl, ?_⟩
        have n0_:=bl BK182 hb
        have n1_:=bs HB hb
        clear BK182
        clear HB
        have BK182:=n0_
        have HB:=n1_
        clear n0_ n1_
        (try clear hb)
        (try clear hb2)
        (try clear hk)
        (try clear hi)
        refine hK.out _ _ (b11 BK182 ⟨(cW HB hw197_0),(cW HB hw197_1),(cW HB hw197_2)⟩) (fun hHeld => ?_)
        clear hK K
        refine nn 138 (h := ?_)
        refine pu HT_ 6 139 127 (h := ?_)
        refine off HT_ 7 140 255 (h := ?_)
        refine off HT_ 8 141 511 (h := ?_)
        refine off HT_ 9 142 1023 (h := ?_)
        refine off HT_ 10 143 2047 (h := ?_)
        refine off HT_ 11 144 4095 (h := ?_)
        refine off HT_ 12 145 8191 (h := ?_)
        refine off HT_ 13 146 16383 (h := ?_)
        refine pu HT_ 14 147 32767 (h := ?_)
        refine pu HT_ 15 148 65535 (h := ?_)
        refine off HT_ 16 149 131071 (h := ?_)
        refine off HT_ 17 150 262143 (h := ?_)
        refine off HT_ 18 151 524287 (h := ?_)
        refine off HT_ 19 152 1048575 (h := ?_)
        refine off HT_ 20 153 2097151 (h := ?_)
        refine off HT_ 21 154 4194303 (h := ?_)
        refine off HT_ 22 155 8388607 (h := ?_)
        refine pu HT_ 23 156 16777215 (h := ?_)
        refine pu HT_ 24 157 33554431 (h := ?_)
        refine off HT_ 25 158 67108863 (h := ?_)
        refine off HT_ 26 159 134217727 (h := ?_)
        refine off HT_ 27 160 268435455 (h := ?_)
        refine off HT_ 28 161 536870911 (h := ?_)
        refine off HT_ 29 162 1073741823 (h := ?_)
        refine off HT_ 30 163 2147483647 (h := ?_)
        refine off HT_ 31 164 4294967295 (h := ?_)
        refine off HT_ 32 165 8589934591 (h := ?_)
        refine off HT_ 33 166 17179869183 (h := ?_)
        refine off HT_ 34 167 34359738367 (h := ?_)
        refine off HT_ 35 168 68719476735 (h := ?_)
        refine off HT_ 36 169 137438953471 (h := ?_)
        refine off HT_ 37 170 274877906943 (h := ?_)
        refine off HT_ 38 171 549755813887 (h := ?_)
        refine off HT_ 39 172 1099511627775 (h := ?_)
        refine off HT_ 40 173 2199023255551 (h := ?_)
        refine off HT_ 41 174 4398046511103 (h := ?_)
        refine pu HT_ 42 175 8796093022207 (h := ?_)
        refine dn HT_ (h := ?_)
        try go_wp2
        go_ret
        exact ⟨re,bw HB⟩
       replace c104:=Zf c104
       subst c104
       rw [if_neg nft] at H
       obtain ⟨t200,A108,H⟩:=bE H
       by_cases c109 : t200 = true; rotate_left
       ·replace c109:=Zf c109
        subst c109
        rw [if_neg nft] at H
        obtain rfl:=Zo H
        obtain ⟨_,_,_,_,_,_,_,_,_,_,_,_,_,_,_,_,_,_,_,_,_,_⟩:=kc11 BK182
        try go_wp2
        have n0_:=Zz.k (Qao BK182.out)
        have n1_:=Zz.k (Qae HB.out)
        clear BK182
        clear HB
        have BK182:=n0_
        have HB:=n1_
        clear n0_ n1_
        have p197 : 0 <= (x5_3 : Int):=od
        have q197 : x5_3 < (l0_7.length : Int):=od
        obtain ⟨ad197,e197,hx197_0,hx197_1,hx197_2⟩:=Qbd HR0_7.out x5_3 p197 q197
        have hw197_2:=hx197_2
        have hw197_1:=hx197_1
        have hw197_0:=hx197_0
        cases e197
        replace hx197_0:=cl HB hx197_0
        replace hx197_1:=cl HB hx197_1
        replace hx197_2:=cl HB hx197_2
        replace p197:=eq_true p197
        replace q197:=eq_true q197
        refine stP (fun w' => B11 w' gb182 (.int .i64 a0_0) (.int .i64 a0_1) (.int .i64 a0_2) (.int .i64 a0_3) (.int .i64 a0_4) (.int .i64 a0_5) (.string a0_6) (.slice (some ad197) l0_7.length c0_7) (.int .i64 a0_8) (.int .i64 a0_9) (.int .i64 a0_10) (w'.cell? (ad197.add ((x5_3).toNat * 3)) = some (.int .i64 ((Qaa l0_7 x5_3).f0)) /\ w'.cell? ⟨(ad197.add ((x5_3).toNat * 3)).block,(ad197.add ((x5_3).toNat * 3)).off + 1,none⟩ = some (.int .i64 ((Qaa l0_7 x5_3).f1)) /\ w'.cell? ⟨(ad197.add ((x5_3).toNat * 3)).block,(ad197.add ((x5_3).toNat * 3)).off + 2,none⟩ = some (.int .i64 ((Qaa l0_7 x5_3).f2)))) 43 (b11 BK182 ⟨(cW HB hw197_0),(cW HB hw197_1),(cW HB hw197_2)⟩) (h:=fun hHeld => ?_); refine Qaw r4_Op.tab13 r4_Op.bits13 (fun HT_ HW_ => ?_)
        generalize wr.drew = w141 at BK182 HB hx197_0 hx197_1 hx197_2 hx197_0 hx197_1 hx197_2 hHeld ⊢
        refine pu HT_ 0 133 1 (h := ?_)
        refine pu HT_ 2 135 5 (h := ?_)
        refine tk HT_ HW_ hHeld 1 134 7 (h := ?_)
        refine pu HT_ 3 136 15 (h := ?_)
        refine tk HT_ HW_ hHeld 4 137 31 (h := ?_)
        refine on HT_ 5 (some 138) 63 (h:=fun K hK => ?_)
        refine gS Tryz.func71 #[.agg #[.int .i64 ((Qaa l0_7 x5_3).f0), .int .i64 ((Qaa l0_7 x5_3).f1), .int .i64 ((Qaa l0_7 x5_3).f2)]] (h := ?_)
        with_reducible refine (r4_Begin.calls ((Qaa l0_7 x5_3).f0) ((Qaa l0_7 x5_3).f1) ((Qaa l0_7 x5_3).f2) false _ A103.out).mono ?_
        rintro e w142 ⟨rfl,hb⟩
        refine ⟨_,rfl, ?_⟩
        have n0_:=bl BK182 hb
        have n1_:=bs HB hb
        clear BK182
        clear HB
        have BK182:=n0_
        have HB:=n1_
        clear n0_ n1_
        (try clear hb)
        (try clear hb2)
        (try clear hk)
        (try clear hi)
        refine hK.out _ _ (b11 BK182 ⟨(cW HB hw197_0),(cW HB hw197_1),(cW HB hw197_2)⟩) (fun hHeld => ?_)
        clear hK K
        refine nn 138 (h := ?_)
        refine pu HT_ 6 139 127 (h := ?_)
        refine pu HT_ 7 140 255 (h := ?_)
        refine pu HT_ 9 142 767 (h := ?_)
        refine tk HT_ HW_ hHeld 8 141 1023 (h := ?_)
        refine pu HT_ 10 143 2047 (h := ?_)
        refine tk HT_ HW_ hHeld 11 144 4095 (h := ?_)
        refine on HT_ 12 (some 145) 8191 (h:=fun K hK => ?_)
        refine gS Tryz.func99 #[.agg #[.int .i64 ((Qaa l0_7 x5_3).f0), .int .i64 ((Qaa l0_7 x5_3).f1), .int .i64 ((Qaa l0_7 x5_3).f2)]] (h := ?_)
        with_reducible refine (r4_Elem.calls ((Qaa l0_7 x5_3).f0) ((Qaa l0_7 x5_3).f1) ((Qaa l0_7 x5_3).f2) false _ A108.out).mono ?_
        rintro e w143 ⟨rfl,hb⟩
        refine ⟨_,rfl, ?_⟩
        have n0_:=bl BK182 hb
        have n1_:=bs HB hb
        clear BK182
        clear HB
        have BK182:=n0_
        have HB:=n1_
        clear n0_ n1_
        (try clear hb)
        (try clear hb2)
        (try clear hk)
        (try clear hi)
        refine hK.out _ _ (b11 BK182 ⟨(cW HB hw197_0),(cW HB hw197_1),(cW HB hw197_2)⟩) (fun hHeld => ?_)
        clear hK K
        refine nn 145 (h := ?_)
        refine pu HT_ 13 146 16383 (h := ?_)
        refine pu HT_ 14 147 32767 (h := ?_)
        refine pu HT_ 15 148 65535 (h := ?_)
        refine off HT_ 16 149 131071 (h := ?_)
        refine off HT_ 17 150 262143 (h := ?_)
        refine off HT_ 18 151 524287 (h := ?_)
        refine off HT_ 19 152 1048575 (h := ?_)
        refine off HT_ 20 153 2097151 (h := ?_)
        refine off HT_ 21 154 4194303 (h := ?_)
        refine off HT_ 22 155 8388607 (h := ?_)
        refine pu HT_ 23 156 16777215 (h := ?_)
        refine pu HT_ 24 157 33554431 (h := ?_)
        refine off HT_ 25 158 67108863 (h := ?_)
        refine off HT_ 26 159 134217727 (h := ?_)
        refine off HT_ 27 160 268435455 (h := ?_)
        refine off HT_ 28 161 536870911 (h := ?_)
        refine off HT_ 29 162 1073741823 (h := ?_)
        refine off HT_ 30 163 2147483647 (h := ?_)
        refine off HT_ 31 164 4294967295 (h := ?_)
        refine off HT_ 32 165 8589934591 (h := ?_)
        refine off HT_ 33 166 17179869183 (h := ?_)
        refine off HT_ 34 167 34359738367 (h := ?_)
        refine off HT_ 35 168 68719476735 (h := ?_)
        refine off HT_ 36 169 137438953471 (h := ?_)
        refine off HT_ 37 170 274877906943 (h := ?_)
        refine off HT_ 38 171 549755813887 (h := ?_)
        refine off HT_ 39 172 1099511627775 (h := ?_)
        refine off HT_ 40 173 2199023255551 (h := ?_)
        refine off HT_ 41 174 4398046511103 (h := ?_)
        refine pu HT_ 42 175 8796093022207 (h := ?_)
        refine dn HT_ (h := ?_)
        try go_wp2
        go_ret
        exact ⟨re,bw HB⟩
       as_aux_lemma =>
       subst c109
       rw [if_pos rfl] at H
       obtain ⟨t202,A110,H⟩:=bE H
       by_cases c111 : t202 = true
       ·as_aux_lemma =>
        subst c111
        rw [if_pos rfl] at H
        obtain rfl:=Zo H
        obtain ⟨_,_,_,_,_,_,_,_,_,_,_,_,_,_,_,_,_,_,_,_,_,_⟩:=kc11 BK182
        try go_wp2
        have n0_:=Zz.k (Qao BK182.out)
        have n1_:=Zz.k (Qae HB.out)
        clear BK182
        clear HB
        have BK182:=n0_
        have HB:=n1_
        clear n0_ n1_
        have p197 : 0 <= (x5_3 : Int):=od
        have q197 : x5_3 < (l0_7.length : Int):=od
        obtain ⟨ad197,e197,hx197_0,hx197_1,hx197_2⟩:=Qbd HR0_7.out x5_3 p197 q197
        have hw197_2:=hx197_2
        have hw197_1:=hx197_1
        have hw197_0:=hx197_0
        cases e197
        replace hx197_0:=cl HB hx197_0
        replace hx197_1:=cl HB hx197_1
        replace hx197_2:=cl HB hx197_2
        replace p197:=eq_true p197
        replace q197:=eq_true q197
        refine stP (fun w' => B11 w' gb182 (.int .i64 a0_0) (.int .i64 a0_1) (.int .i64 a0_2) (.int .i64 a0_3) (.int .i64 a0_4) (.int .i64 a0_5) (.string a0_6) (.slice (some ad197) l0_7.length c0_7) (.int .i64 a0_8) (.int .i64 a0_9) (.int .i64 a0_10) (w'.cell? (ad197.add ((x5_3).toNat * 3)) = some (.int .i64 ((Qaa l0_7 x5_3).f0)) /\ w'.cell? ⟨(ad197.add ((x5_3).toNat * 3)).block,(ad197.add ((x5_3).toNat * 3)).off + 1,none⟩ = some (.int .i64 ((Qaa l0_7 x5_3).f1)) /\ w'.cell? ⟨(ad197.add ((x5_3).toNat * 3)).block,(ad197.add ((x5_3).toNat * 3)).off + 2,none⟩ = some (.int .i64 ((Qaa l0_7 x5_3).f2)))) 43 (b11 BK182 ⟨(cW HB hw197_0),(cW HB hw197_1),(cW HB hw197_2)⟩) (h:=fun hHeld => ?_); refine Qaw r4_Op.tab13 r4_Op.bits13 (fun HT_ HW_ => ?_)
        generalize wr.drew = w113 at BK182 HB hx197_0 hx197_1 hx197_2 hx197_0 hx197_1 hx197_2 hx197_0 hx197_1 hx197_2 hHeld ⊢
        refine pu HT_ 0 133 1 (h := ?_)
        refine pu HT_ 2 135 5 (h := ?_)
        refine tk HT_ HW_ hHeld 1 134 7 (h := ?_)
        refine pu HT_ 3 136 15 (h := ?_)
        refine tk HT_ HW_ hHeld 4 137 31 (h := ?_)
        refine on HT_ 5 (some 138) 63 (h:=fun K hK => ?_)
        refine gS Tryz.func71 #[.agg #[.int .i64 ((Qaa l0_7 x5_3).f0), .int .i64 ((Qaa l0_7 x5_3).f1), .int .i64 ((Qaa l0_7 x5_3).f2)]] (h := ?_)
        with_reducible refine (r4_Begin.calls ((Qaa l0_7 x5_3).f0) ((Qaa l0_7 x5_3).f1) ((Qaa l0_7 x5_3).f2) false _ A103.out).mono ?_
        rintro e w114 ⟨rfl,hb⟩
        refine ⟨_,rfl, ?_⟩
        have n0_:=bl BK182 hb
        have n1_:=bs HB hb
        clear BK182
        clear HB
        have BK182:=n0_
        have HB:=n1_
        clear n0_ n1_
        (try clear hb)
        (try clear hb2)
        (try clear hk)
        (try clear hi)
        refine hK.out _ _ (b11 BK182 ⟨(cW HB hw197_0),(cW HB hw197_1),(cW HB hw197_2)⟩) (fun hHeld => ?_)
        clear hK K
        refine nn 138 (h := ?_)
        refine pu HT_ 6 139 127 (h := ?_)
        refine pu HT_ 7 140 255 (h := ?_)
        refine pu HT_ 9 142 767 (h := ?_)
        refine tk HT_ HW_ hHeld 8 141 1023 (h := ?_)
        refine pu HT_ 10 143 2047 (h := ?_)
        refine tk HT_ HW_ hHeld 11 144 4095 (h := ?_)
        refine on HT_ 12 (some 145) 8191 (h:=fun K hK => ?_)
        refine gS Tryz.func99 #[.agg #[.int .i64 ((Qaa l0_7 x5_3).f0), .int .i64 ((Qaa l0_7 x5_3).f1), .int .i64 ((Qaa l0_7 x5_3).f2)]] (h := ?_)
        with_reducible refine (r4_Elem.calls ((Qaa l0_7 x5_3).f0) ((Qaa l0_7 x5_3).f1) ((Qaa l0_7 x5_3).f2) true _ A108.out).mono ?_
        rintro e w115 ⟨rfl,hb⟩
        refine ⟨_,rfl, ?_⟩
        have n0_:=bl BK182 hb
        have n1_:=bs HB hb
        clear BK182
        clear HB
        have BK182:=n0_
        have HB:=n1_
        clear n0_ n1_
        (try clear hb)
        (try clear hb2)
        (try clear hk)
        (try clear hi)
        refine hK.out _ _ (b11 BK182 ⟨(cW HB hw197_0),(cW HB hw197_1),(cW HB hw197_2)⟩) (fun hHeld => ?_)
        clear hK K
        refine nn 145 (h := ?_)
        refine pu HT_ 13 146 16383 (h := ?_)
        refine pu HT_ 14 147 32767 (h := ?_)
        refine pu HT_ 15 148 65535 (h := ?_)
        refine pu HT_ 17 150 196607 (h := ?_)
        refine pu HT_ 19 152 720895 (h := ?_)
        refine tk HT_ HW_ hHeld 16 149 786431 (h := ?_)
        refine tk HT_ HW_ hHeld 18 151 1048575 (h := ?_)
        refine pu HT_ 20 153 2097151 (h := ?_)
        refine tk HT_ HW_ hHeld 21 154 4194303 (h := ?_)
        refine on HT_ 22 (some 155) 8388607 (h:=fun K hK => ?_)
        refine gS Tryz.func100 #[.agg #[.int .i64 a0_0, .int .i64 a0_1, .int .i64 a0_2, .int .i64 a0_3, .int .i64 a0_4, .int .i64 a0_5, .string a0_6, .slice (some ad197) l0_7.length c0_7, .int .i64 a0_8, .int .i64 a0_9, .int .i64 a0_10], .agg #[.int .i64 ((Qaa l0_7 x5_3).f0), .int .i64 ((Qaa l0_7 x5_3).f1), .int .i64 ((Qaa l0_7 x5_3).f2)]] (h := ?_)
        with_reducible refine (r4_own.calls a0_0 a0_1 a0_2 a0_3 a0_4 a0_5 a0_6 _ _ l0_7 a0_8 a0_9 a0_10 ((Qaa l0_7 x5_3).f0) ((Qaa l0_7 x5_3).f1) ((Qaa l0_7 x5_3).f2) true _ ?side1 ?side2 A110.out).mono ?_
        (case side1 => exact cb HR0_7 HB)
        (case side2 => exact HC0_7.out)
        rintro e w116 ⟨rfl,hb⟩
        refine ⟨_,rfl, ?_⟩
        have n0_:=bl BK182 hb
        have n1_:=bs HB hb
        clear BK182
        clear HB
        have BK182:=n0_
        have HB:=n1_
        clear n0_ n1_
        (try clear hb)
        (try clear hb2)
        (try clear hk)
        (try clear hi)
        refine hK.out _ _ (b11 BK182 ⟨(cW HB hw197_0),(cW HB hw197_1),(cW HB hw197_2)⟩) (fun hHeld => ?_)
        clear hK K
        refine nn 155 (h := ?_)
        refine pu HT_ 23 156 16777215 (h := ?_)
        refine pu HT_ 24 157 33554431 (h := ?_)
        refine off HT_ 25 158 67108863 (h := ?_)
        refine off HT_ 26 159 134217727 (h := ?_)
        refine off HT_ 27 160 268435455 (h := ?_)
        refine off HT_ 28 161 536870911 (h := ?_)
        refine off HT_ 29 162 1073741823 (h := ?_)
        refine off HT_ 30 163 2147483647 (h := ?_)
        refine off HT_ 31 164 4294967295 (h := ?_)
        refine off HT_ 32 165 8589934591 (h := ?_)
        refine off HT_ 33 166 17179869183 (h := ?_)
        refine off HT_ 34 167 34359738367 (h := ?_)
        refine off HT_ 35 168 68719476735 (h := ?_)
        refine off HT_ 36 169 137438953471 (h := ?_)
        refine off HT_ 37 170 274877906943 (h := ?_)
        refine off HT_ 38 171 549755813887 (h := ?_)
        refine off HT_ 39 172 1099511627775 (h := ?_)
        refine off HT_ 40 173 2199023255551 (h := ?_)
        refine off HT_ 41 174 4398046511103 (h := ?_)
        refine pu HT_ 42 175 8796093022207 (h := ?_)
        refine dn HT_ (h := ?_)
        try go_wp2
        go_ret
        exact ⟨re,bw HB⟩
       replace c111:=Zf c111
       subst c111
       rw [if_neg nft] at H
       by_cases c117 : x5_3 > 0; rotate_left
       ·rw [if_neg c117] at H
        have c117b0:=Ze c117
        clear c117
        have H':=Zz.k H
        clear H
        obtain ⟨_,_,_,_,_,_,_,_,_,_,_,_,_,_,_,_,_,_,_,_,_,_⟩:=kc11 BK182
        try go_wp2
        have n0_:=Zz.k (Qao BK182.out)
        have n1_:=Zz.k (Qae HB.out)
        clear BK182
        clear HB
        have BK182:=n0_
        have HB:=n1_
        clear n0_ n1_
        have p197 : 0 <= (x5_3 : Int):=od
        have q197 : x5_3 < (l0_7.length : Int):=od
        obtain ⟨ad197,e197,hx197_0,hx197_1,hx197_2⟩:=Qbd HR0_7.out x5_3 p197 q197
        have hw197_2:=hx197_2
        have hw197_1:=hx197_1
        have hw197_0:=hx197_0
        cases e197
        replace hx197_0:=cl HB hx197_0
        replace hx197_1:=cl HB hx197_1
        replace hx197_2:=cl HB hx197_2
        replace p197:=eq_true p197
        replace q197:=eq_true q197
        refine stP (fun w' => B11 w' gb182 (.int .i64 a0_0) (.int .i64 a0_1) (.int .i64 a0_2) (.int .i64 a0_3) (.int .i64 a0_4) (.int .i64 a0_5) (.string a0_6) (.slice (some ad197) l0_7.length c0_7) (.int .i64 a0_8) (.int .i64 a0_9) (.int .i64 a0_10) (w'.cell? (ad197.add ((x5_3).toNat * 3)) = some (.int .i64 ((Qaa l0_7 x5_3).f0)) /\ w'.cell? ⟨(ad197.add ((x5_3).toNat * 3)).block,(ad197.add ((x5_3).toNat * 3)).off + 1,none⟩ = some (.int .i64 ((Qaa l0_7 x5_3).f1)) /\ w'.cell? ⟨(ad197.add ((x5_3).toNat * 3)).block,(ad197.add ((x5_3).toNat * 3)).off + 2,none⟩ = some (.int .i64 ((Qaa l0_7 x5_3).f2)))) 43 (b11 BK182 ⟨(cW HB hw197_0),(cW HB hw197_1),(cW HB hw197_2)⟩) (h:=fun hHeld => ?_); refine Qaw r4_Op.tab13 r4_Op.bits13 (fun HT_ HW_ => ?_)
        generalize wr.drew = w136 at BK182 HB hx197_0 hx197_1 hx197_2 hx197_0 hx197_1 hx197_2 hx197_0 hx197_1 hx197_2 hHeld ⊢
        refine pu HT_ 0 133 1 (h := ?_)
        refine pu HT_ 2 135 5 (h := ?_)
        refine tk HT_ HW_ hHeld 1 134 7 (h := ?_)
        refine pu HT_ 3 136 15 (h := ?_)
        refine tk HT_ HW_ hHeld 4 137 31 (h := ?_)
        refine on HT_ 5 (some 138) 63 (h:=fun K hK => ?_)
        refine gS Tryz.func71 #[.agg #[.int .i64 ((Qaa l0_7 x5_3).f0), .int .i64 ((Qaa l0_7 x5_3).f1), .int .i64 ((Qaa l0_7 x5_3).f2)]] (h := ?_)
        with_reducible refine (r4_Begin.calls ((Qaa l0_7 x5_3).f0) ((Qaa l0_7 x5_3).f1) ((Qaa l0_7 x5_3).f2) false _ A103.out).mono ?_
        rintro e w137 ⟨rfl,hb⟩
        refine ⟨_,rfl, ?_⟩
        have n0_:=bl BK182 hb
        have n1_:=bs HB hb
        clear BK182
        clear HB
        have BK182:=n0_
        have HB:=n1_
        clear n0_ n1_
        (try clear hb)
        (try clear hb2)
        (try clear hk)
        (try clear hi)
        refine hK.out _ _ (b11 BK182 ⟨(cW HB hw197_0),(cW HB hw197_1),(cW HB hw197_2)⟩) (fun hHeld => ?_)
        clear hK K
        refine nn 138 (h := ?_)
        refine pu HT_ 6 139 127 (h := ?_)
        refine pu HT_ 7 140 255 (h := ?_)
        refine pu HT_ 9 142 767 (h := ?_)
        refine tk HT_ HW_ hHeld 8 141 1023 (h := ?_)
        refine pu HT_ 10 143 2047 (h := ?_)
        refine tk HT_ HW_ hHeld 11 144 4095 (h := ?_)
        refine on HT_ 12 (some 145) 8191 (h:=fun K hK => ?_)
        refine gS Tryz.func99 #[.agg #[.int .i64 ((Qaa l0_7 x5_3).f0), .int .i64 ((Qaa l0_7 x5_3).f1), .int .i64 ((Qaa l0_7 x5_3).f2)]] (h := ?_)
        with_reducible refine (r4_Elem.calls ((Qaa l0_7 x5_3).f0) ((Qaa l0_7 x5_3).f1) ((Qaa l0_7 x5_3).f2) true _ A108.out).mono ?_
        rintro e w138 ⟨rfl,hb⟩
        refine ⟨_,rfl, ?_⟩
        have n0_:=bl BK182 hb
        have n1_:=bs HB hb
        clear BK182
        clear HB
        have BK182:=n0_
        have HB:=n1_
        clear n0_ n1_
        (try clear hb)
        (try clear hb2)
        (try clear hk)
        (try clear hi)
        refine hK.out _ _ (b11 BK182 ⟨(cW HB hw197_0),(cW HB hw197_1),(cW HB hw197_2)⟩) (fun hHeld => ?_)
        clear hK K
        refine nn 145 (h := ?_)
        refine pu HT_ 13 146 16383 (h := ?_)
        refine pu HT_ 14 147 32767 (h := ?_)
        refine pu HT_ 15 148 65535 (h := ?_)
        refine pu HT_ 17 150 196607 (h := ?_)
        refine pu HT_ 19 152 720895 (h := ?_)
        refine tk HT_ HW_ hHeld 16 149 786431 (h := ?_)
        refine tk HT_ HW_ hHeld 18 151 1048575 (h := ?_)
        refine pu HT_ 20 153 2097151 (h := ?_)
        refine tk HT_ HW_ hHeld 21 154 4194303 (h := ?_)
        refine on HT_ 22 (some 155) 8388607 (h:=fun K hK => ?_)
        refine gS Tryz.func100 #[.agg #[.int .i64 a0_0, .int .i64 a0_1, .int .i64 a0_2, .int .i64 a0_3, .int .i64 a0_4, .int .i64 a0_5, .string a0_6, .slice (some ad197) l0_7.length c0_7, .int .i64 a0_8, .int .i64 a0_9, .int .i64 a0_10], .agg #[.int .i64 ((Qaa l0_7 x5_3).f0), .int .i64 ((Qaa l0_7 x5_3).f1), .int .i64 ((Qaa l0_7 x5_3).f2)]] (h := ?_)
        with_reducible refine (r4_own.calls a0_0 a0_1 a0_2 a0_3 a0_4 a0_5 a0_6 _ _ l0_7 a0_8 a0_9 a0_10 ((Qaa l0_7 x5_3).f0) ((Qaa l0_7 x5_3).f1) ((Qaa l0_7 x5_3).f2) false _ ?side1 ?side2 A110.out).mono ?_
        (case side1 => exact cb HR0_7 HB)
        (case side2 => exact HC0_7.out)
        rintro e w139 ⟨rfl,hb⟩
        refine ⟨_,rfl, ?_⟩
        have n0_:=bl BK182 hb
        have n1_:=bs HB hb
        clear BK182
        clear HB
        have BK182:=n0_
        have HB:=n1_
        clear n0_ n1_
        (try clear hb)
        (try clear hb2)
        (try clear hk)
        (try clear hi)
        refine hK.out _ _ (b11 BK182 ⟨(cW HB hw197_0),(cW HB hw197_1),(cW HB hw197_2)⟩) (fun hHeld => ?_)
        clear hK K
        refine nn 155 (h := ?_)
        refine pu HT_ 23 156 16777215 (h := ?_)
        refine pu HT_ 24 157 33554431 (h := ?_)
        refine pu HT_ 25 158 67108863 (h := ?_)
        refine pu HT_ 26 159 134217727 (h := ?_)
        refine pu HT_ 27 160 268435455 (h := ?_)
        refine off HT_ 28 161 536870911 (h := ?_)
        refine off HT_ 29 162 1073741823 (h := ?_)
        refine off HT_ 30 163 2147483647 (h := ?_)
        refine off HT_ 31 164 4294967295 (h := ?_)
        refine off HT_ 32 165 8589934591 (h := ?_)
        refine off HT_ 33 166 17179869183 (h := ?_)
        refine off HT_ 34 167 34359738367 (h := ?_)
        refine off HT_ 35 168 68719476735 (h := ?_)
        refine off HT_ 36 169 137438953471 (h := ?_)
        refine off HT_ 37 170 274877906943 (h := ?_)
        refine off HT_ 38 171 549755813887 (h := ?_)
        refine off HT_ 39 172 1099511627775 (h := ?_)
        refine off HT_ 40 173 2199023255551 (h := ?_)
        refine pu HT_ 41 174 4398046511103 (h := ?_)
        refine pu HT_ 42 175 8796093022207 (h := ?_)
        refine dn HT_ (h := ?_)
        try go_wp2
        go_roundg k3
        case measure => have:=HJ48.out; have:=HJ66.out; have:=HK3.out; omega
        case rel => exact ⟨(wrap64 (x5_3 + 1)),rf,H',⟨by have:=HJ48.out; have:=HJ66.out; have:=HK3.out; omega⟩,⟨kk BK182⟩,⟨bw HB⟩⟩
       as_aux_lemma =>
       rw [if_pos c117] at H
       have c117b0:=Zd c117
       clear c117
       obtain ⟨ji118,hji118⟩ : ∃ j_ : Int,(wrap64 (x5_3 - 1)) = j_:=⟨_,rfl⟩
       replace H : (if 0 <= (ji118) then (if (ji118) < (l0_7.length : Int) then ((r4_Less.f ((Qaa l0_7 (ji118)).f0) ((Qaa l0_7 (ji118)).f1) ((Qaa l0_7 (ji118)).f2) ((Qaa l0_7 x5_3).f0) ((Qaa l0_7 x5_3).f1) ((Qaa l0_7 x5_3).f2)).bind fun t205 => (if t205 = true then (r4_Op.l0 k3 (wrap64 (x5_3 + 1)) a0_0 a0_1 a0_2 a0_3 a0_4 a0_5 a0_6 l0_7 a0_8 a0_9 a0_10) else (some false))) else (none)) else (none)) = some r:=by first | (rw [hji118] at H; exact H) | (simp only [hji118] at H ⊢; exact H)
       (try rw [hji118] at A103)
       (try rw [hji118] at A108)
       (try rw [hji118] at A110)
       have hji118w : (IntKind.i64.wrap (x5_3 - 1)) = ji118:=(Qbe _).trans hji118
       by_cases c119 : 0 <= (ji118); rotate_left
       ·rw [if_neg c119] at H
        exact absurd H (by simp)
       as_aux_lemma =>
       rw [if_pos c119] at H
       have c119b0:=Zd c119
       clear c119
       by_cases c120 : (ji118) < (l0_7.length : Int); rotate_left
       ·rw [if_neg c120] at H
        exact absurd H (by simp)
       as_aux_lemma =>
       rw [if_pos c120] at H
       have c120b0:=Zd c120
       clear c120
       obtain ⟨t205,A121,H⟩:=bE H
       by_cases c122 : t205 = true; rotate_left
       ·replace c122:=Zf c122
        subst c122
        rw [if_neg nft] at H
        obtain rfl:=Zo H
        obtain ⟨_,_,_,_,_,_,_,_,_,_,_,_,_,_,_,_,_,_,_,_,_,_⟩:=kc11 BK182
        try go_wp2
        have n0_:=Zz.k (Qao BK182.out)
        have n1_:=Zz.k (Qae HB.out)
        clear BK182
        clear HB
        have BK182:=n0_
        have HB:=n1_
        clear n0_ n1_
        have p197 : 0 <= (x5_3 : Int):=od
        have q197 : x5_3 < (l0_7.length : Int):=od
        obtain ⟨ad197,e197,hx197_0,hx197_1,hx197_2⟩:=Qbd HR0_7.out x5_3 p197 q197
        have hw197_2:=hx197_2
        have hw197_1:=hx197_1
        have hw197_0:=hx197_0
        cases e197
        replace hx197_0:=cl HB hx197_0
        replace hx197_1:=cl HB hx197_1
        replace hx197_2:=cl HB hx197_2
        replace p197:=eq_true p197
        replace q197:=eq_true q197
        have p203 : 0 <= ((ji118) : Int):=od
        have q203 : (ji118) < (l0_7.length : Int):=od
        obtain ⟨ad203,e203,hx203_0,hx203_1,hx203_2⟩:=Qbd HR0_7.out (ji118) p203 q203
        have hw203_2:=hx203_2
        have hw203_1:=hx203_1
        have hw203_0:=hx203_0
        obtain rfl : ad197 = ad203:=(by injection e203)
        replace hx203_0:=cl HB hx203_0
        replace hx203_1:=cl HB hx203_1
        replace hx203_2:=cl HB hx203_2
        replace p203:=eq_true p203
        replace q203:=eq_true q203
        refine stP (fun w' => B11 w' gb182 (.int .i64 a0_0) (.int .i64 a0_1) (.int .i64 a0_2) (.int .i64 a0_3) (.int .i64 a0_4) (.int .i64 a0_5) (.string a0_6) (.slice (some ad197) l0_7.length c0_7) (.int .i64 a0_8) (.int .i64 a0_9) (.int .i64 a0_10) (w'.cell? (ad197.add ((x5_3).toNat * 3)) = some (.int .i64 ((Qaa l0_7 x5_3).f0)) /\ w'.cell? ⟨(ad197.add ((x5_3).toNat * 3)).block,(ad197.add ((x5_3).toNat * 3)).off + 1,none⟩ = some (.int .i64 ((Qaa l0_7 x5_3).f1)) /\ w'.cell? ⟨(ad197.add ((x5_3).toNat * 3)).block,(ad197.add ((x5_3).toNat * 3)).off + 2,none⟩ = some (.int .i64 ((Qaa l0_7 x5_3).f2)) /\ w'.cell? (ad197.add (((ji118)).toNat * 3)) = some (.int .i64 ((Qaa l0_7 (ji118)).f0)) /\ w'.cell? ⟨(ad197.add (((ji118)).toNat * 3)).block,(ad197.add (((ji118)).toNat * 3)).off + 1,none⟩ = some (.int .i64 ((Qaa l0_7 (ji118)).f1)) /\ w'.cell? ⟨(ad197.add (((ji118)).toNat * 3)).block,(ad197.add (((ji118)).toNat * 3)).off + 2,none⟩ = some (.int .i64 ((Qaa l0_7 (ji118)).f2)))) 43 (b11 BK182 ⟨(cW HB hw197_0),(cW HB hw197_1),(cW HB hw197_2),(cW HB hw203_0),(cW HB hw203_1),(cW HB hw203_2)⟩) (h:=fun hHeld => ?_); refine Qaw r4_Op.tab13 r4_Op.bits13 (fun HT_ HW_ => ?_)
        generalize wr.drew = w130 at BK182 HB hx197_0 hx197_1 hx197_2 hx197_0 hx197_1 hx197_2 hx197_0 hx197_1 hx197_2 hx203_0 hx203_1 hx203_2 hx197_0 hx197_1 hx197_2 hHeld ⊢
        refine pu HT_ 0 133 1 (h := ?_)
        refine pu HT_ 2 135 5 (h := ?_)
        refine tk HT_ HW_ hHeld 1 134 7 (h := ?_)
        refine pu HT_ 3 136 15 (h := ?_)
        refine tk HT_ HW_ hHeld 4 137 31 (h := ?_)
        refine on HT_ 5 (some 138) 63 (h:=fun K hK => ?_)
        refine gS Tryz.func71 #[.agg #[.int .i64 ((Qaa l0_7 x5_3).f0), .int .i64 ((Qaa l0_7 x5_3).f1), .int .i64 ((Qaa l0_7 x5_3).f2)]] (h := ?_)
        with_reducible refine (r4_Begin.calls ((Qaa l0_7 x5_3).f0) ((Qaa l0_7 x5_3).f1) ((Qaa l0_7 x5_3).f2) false _ A103.out).mono ?_
        rintro e w131 ⟨rfl,hb⟩
        refine ⟨_,rfl, ?_⟩
        have n0_:=bl BK182 hb
        have n1_:=bs HB hb
        clear BK182
        clear HB
        have BK182:=n0_
        have HB:=n1_
        clear n0_ n1_
        (try clear hb)
        (try clear hb2)
        (try clear hk)
        (try clear hi)
        refine hK.out _ _ (b11 BK182 ⟨(cW HB hw197_0),(cW HB hw197_1),(cW HB hw197_2),(cW HB hw203_0),(cW HB hw203_1),(cW HB hw203_2)⟩) (fun hHeld => ?_)
        clear hK K
        refine nn 138 (h := ?_)
        refine pu HT_ 6 139 127 (h := ?_)
        refine pu HT_ 7 140 255 (h := ?_)
        refine pu HT_ 9 142 767 (h := ?_)
        refine tk HT_ HW_ hHeld 8 141 1023 (h := ?_)
        refine pu HT_ 10 143 2047 (h := ?_)
        refine tk HT_ HW_ hHeld 11 144 4095 (h := ?_)
        refine on HT_ 12 (some 145) 8191 (h:=fun K hK => ?_)
        refine gS Tryz.func99 #[.agg #[.int .i64 ((Qaa l0_7 x5_3).f0), .int .i64 ((Qaa l0_7 x5_3).f1), .int .i64 ((Qaa l0_7 x5_3).f2)]] (h := ?_)
        with_reducible refine (r4_Elem.calls ((Qaa l0_7 x5_3).f0) ((Qaa l0_7 x5_3).f1) ((Qaa l0_7 x5_3).f2) true _ A108.out).mono ?_
        rintro e w132 ⟨rfl,hb⟩
        refine ⟨_,rfl, ?_⟩
        have n0_:=bl BK182 hb
        have n1_:=bs HB hb
        clear BK182
        clear HB
        have BK182:=n0_
        have HB:=n1_
        clear n0_ n1_
        (try clear hb)
        (try clear hb2)
        (try clear hk)
        (try clear hi)
        refine hK.out _ _ (b11 BK182 ⟨(cW HB hw197_0),(cW HB hw197_1),(cW HB hw197_2),(cW HB hw203_0),(cW HB hw203_1),(cW HB hw203_2)⟩) (fun hHeld => ?_)
        clear hK K
        refine nn 145 (h := ?_)
        refine pu HT_ 13 146 16383 (h := ?_)
        refine pu HT_ 14 147 32767 (h := ?_)
        refine pu HT_ 15 148 65535 (h := ?_)
        refine pu HT_ 17 150 196607 (h := ?_)
        refine pu HT_ 19 152 720895 (h := ?_)
        refine tk HT_ HW_ hHeld 16 149 786431 (h := ?_)
        refine tk HT_ HW_ hHeld 18 151 1048575 (h := ?_)
        refine pu HT_ 20 153 2097151 (h := ?_)
        refine tk HT_ HW_ hHeld 21 154 4194303 (h := ?_)
        refine on HT_ 22 (some 155) 8388607 (h:=fun K hK => ?_)
        refine gS Tryz.func100 #[.agg #[.int .i64 a0_0, .int .i64 a0_1, .int .i64 a0_2, .int .i64 a0_3, .int .i64 a0_4, .int .i64 a0_5, .string a0_6, .slice (some ad197) l0_7.length c0_7, .int .i64 a0_8, .int .i64 a0_9, .int .i64 a0_10], .agg #[.int .i64 ((Qaa l0_7 x5_3).f0), .int .i64 ((Qaa l0_7 x5_3).f1), .int .i64 ((Qaa l0_7 x5_3).f2)]] (h := ?_)
        with_reducible refine (r4_own.calls a0_0 a0_1 a0_2 a0_3 a0_4 a0_5 a0_6 _ _ l0_7 a0_8 a0_9 a0_10 ((Qaa l0_7 x5_3).f0) ((Qaa l0_7 x5_3).f1) ((Qaa l0_7 x5_3).f2) false _ ?side1 ?side2 A110.out).mono ?_
        (case side1 => exact cb HR0_7 HB)
        (case side2 => exact HC0_7.out)
        rintro e w133 ⟨rfl,hb⟩
        refine ⟨_,rfl, ?_⟩
        have n0_:=bl BK182 hb
        have n1_:=bs HB hb
        clear BK182
        clear HB
        have BK182:=n0_
        have HB:=n1_
        clear n0_ n1_
        (try clear hb)
        (try clear hb2)
        (try clear hk)
        (try clear hi)
        refine hK.out _ _ (b11 BK182 ⟨(cW HB hw197_0),(cW HB hw197_1),(cW HB hw197_2),(cW HB hw203_0),(cW HB hw203_1),(cW HB hw203_2)⟩) (fun hHeld => ?_)
        clear hK K
        refine nn 155 (h := ?_)
        refine pu HT_ 23 156 16777215 (h := ?_)
        refine pu HT_ 24 157 33554431 (h := ?_)
        refine pu HT_ 25 158 67108863 (h := ?_)
        refine pu HT_ 26 159 134217727 (h := ?_)
        refine pu HT_ 27 160 268435455 (h := ?_)
        refine pu HT_ 28 161 536870911 (h := ?_)
        refine pu HT_ 30 163 1610612735 (h := ?_)
        refine pu HT_ 31 164 3758096383 (h := ?_)
        refine pu HT_ 34 167 20937965567 (h := ?_)
        refine pu HT_ 36 169 89657442303 (h := ?_)
        refine tk HT_ HW_ hHeld 29 162 90194313215 (h := ?_)
        refine pu HT_ 32 165 94489280511 (h := ?_)
        refine tk HT_ HW_ hHeld 33 166 103079215103 (h := ?_)
        refine tk HT_ HW_ hHeld 35 168 137438953471 (h := ?_)
        refine pu HT_ 37 170 274877906943 (h := ?_)
        refine tk HT_ HW_ hHeld 38 171 549755813887 (h := ?_)
        refine on HT_ 39 (some 172) 1099511627775 (h:=fun K hK => ?_)
        refine goes_ Tryz.func93 (by kernel_rfl) rfl #[.agg #[.int .i64 ((Qaa l0_7 (ji118)).f0), .int .i64 ((Qaa l0_7 (ji118)).f1), .int .i64 ((Qaa l0_7 (ji118)).f2)], .agg #[.int .i64 ((Qaa l0_7 x5_3).f0), .int .i64 ((Qaa l0_7 x5_3).f1), .int .i64 ((Qaa l0_7 x5_3).f2)]] (by rfl) rfl rfl (by (try simp only [List.map_toArray,List.map_cons,List.map_nil]); first | done | (simp only [hji118]; rfl) | rfl | (simp only [List.length_drop,List.length_take]; rfl)) ?_
        with_reducible refine (r4_Less.calls ((Qaa l0_7 (ji118)).f0) ((Qaa l0_7 (ji118)).f1) ((Qaa l0_7 (ji118)).f2) ((Qaa l0_7 x5_3).f0) ((Qaa l0_7 x5_3).f1) ((Qaa l0_7 x5_3).f2) false _ A121.out).mono ?_
        rintro e w134 ⟨rfl,hb⟩
        refine ⟨_,rfl, ?_⟩
        have n0_:=bl BK182 hb
        have n1_:=bs HB hb
        clear BK182
        clear HB
        have BK182:=n0_
        have HB:=n1_
        clear n0_ n1_
        (try clear hb)
        (try clear hb2)
        (try clear hk)
        (try clear hi)
        refine hK.out _ _ (b11 BK182 ⟨(cW HB hw197_0),(cW HB hw197_1),(cW HB hw197_2),(cW HB hw203_0),(cW HB hw203_1),(cW HB hw203_2)⟩) (fun hHeld => ?_)
        clear hK K
        refine nn 172 (h := ?_)
        refine pu HT_ 40 173 2199023255551 (h := ?_)
        refine pu HT_ 41 174 4398046511103 (h := ?_)
        refine pu HT_ 42 175 8796093022207 (h := ?_)
        refine dn HT_ (h := ?_)
        try go_wp2
        go_ret
        exact ⟨by first | rfl | (simp [errW_none,errW_some] <;> rfl) | (simp only [<- hji118]; first | rfl | (simp [errW_none,errW_some] <;> rfl)) | (simp [*,errW_none,errW_some] <;> rfl),bw HB⟩
       as_aux_lemma =>
       subst c122
       rw [if_pos rfl] at H
       have H':=Zz.k H
       clear H
       obtain ⟨_,_,_,_,_,_,_,_,_,_,_,_,_,_,_,_,_,_,_,_,_,_⟩:=kc11 BK182
       try go_wp2
       have n0_:=Zz.k (Qao BK182.out)
       have n1_:=Zz.k (Qae HB.out)
       clear BK182
       clear HB
       have BK182:=n0_
       have HB:=n1_
       clear n0_ n1_
       have p197 : 0 <= (x5_3 : Int):=od
       have q197 : x5_3 < (l0_7.length : Int):=od
       obtain ⟨ad197,e197,hx197_0,hx197_1,hx197_2⟩:=Qbd HR0_7.out x5_3 p197 q197
       have hw197_2:=hx197_2
       have hw197_1:=hx197_1
       have hw197_0:=hx197_0
       cases e197
       replace hx197_0:=cl HB hx197_0
       replace hx197_1:=cl HB hx197_1
       replace hx197_2:=cl HB hx197_2
       replace p197:=eq_true p197
       replace q197:=eq_true q197
       have p203 : 0 <= ((ji118) : Int):=od
       have q203 : (ji118) < (l0_7.length : Int):=od
       obtain ⟨ad203,e203,hx203_0,hx203_1,hx203_2⟩:=Qbd HR0_7.out (ji118) p203 q203
       have hw203_2:=hx203_2
       have hw203_1:=hx203_1
       have hw203_0:=hx203_0
       obtain rfl : ad197 = ad203:=(by injection e203)
       replace hx203_0:=cl HB hx203_0
       replace hx203_1:=cl HB hx203_1
       replace hx203_2:=cl HB hx203_2
       replace p203:=eq_true p203
       replace q203:=eq_true q203
       refine stP (fun w' => B11 w' gb182 (.int .i64 a0_0) (.int .i64 a0_1) (.int .i64 a0_2) (.int .i64 a0_3) (.int .i64 a0_4) (.int .i64 a0_5) (.string a0_6) (.slice (some ad197) l0_7.length c0_7) (.int .i64 a0_8) (.int .i64 a0_9) (.int .i64 a0_10) (w'.cell? (ad197.add ((x5_3).toNat * 3)) = some (.int .i64 ((Qaa l0_7 x5_3).f0)) /\ w'.cell? ⟨(ad197.add ((x5_3).toNat * 3)).block,(ad197.add ((x5_3).toNat * 3)).off + 1,none⟩ = some (.int .i64 ((Qaa l0_7 x5_3).f1)) /\ w'.cell? ⟨(ad197.add ((x5_3).toNat * 3)).block,(ad197.add ((x5_3).toNat * 3)).off + 2,none⟩ = some (.int .i64 ((Qaa l0_7 x5_3).f2)) /\ w'.cell? (ad197.add (((ji118)).toNat * 3)) = some (.int .i64 ((Qaa l0_7 (ji118)).f0)) /\ w'.cell? ⟨(ad197.add (((ji118)).toNat * 3)).block,(ad197.add (((ji118)).toNat * 3)).off + 1,none⟩ = some (.int .i64 ((Qaa l0_7 (ji118)).f1)) /\ w'.cell? ⟨(ad197.add (((ji118)).toNat * 3)).block,(ad197.add (((ji118)).toNat * 3)).off + 2,none⟩ = some (.int .i64 ((Qaa l0_7 (ji118)).f2)))) 43 (b11 BK182 ⟨(cW HB hw197_0),(cW HB hw197_1),(cW HB hw197_2),(cW HB hw203_0),(cW HB hw203_1),(cW HB hw203_2)⟩) (h:=fun hHeld => ?_); refine Qaw r4_Op.tab13 r4_Op.bits13 (fun HT_ HW_ => ?_)
       generalize wr.drew = w124 at BK182 HB hx197_0 hx197_1 hx197_2 hx197_0 hx197_1 hx197_2 hx197_0 hx197_1 hx197_2 hx203_0 hx203_1 hx203_2 hx197_0 hx197_1 hx197_2 hHeld ⊢
       refine pu HT_ 0 133 1 (h := ?_)
       refine pu HT_ 2 135 5 (h := ?_)
       refine tk HT_ HW_ hHeld 1 134 7 (h := ?_)
       refine pu HT_ 3 136 15 (h := ?_)
       refine tk HT_ HW_ hHeld 4 137 31 (h := ?_)
       refine on HT_ 5 (some 138) 63 (h:=fun K hK => ?_)
       refine gS Tryz.func71 #[.agg #[.int .i64 ((Qaa l0_7 x5_3).f0), .int .i64 ((Qaa l0_7 x5_3).f1), .int .i64 ((Qaa l0_7 x5_3).f2)]] (h := ?_)
       with_reducible refine (r4_Begin.calls ((Qaa l0_7 x5_3).f0) ((Qaa l0_7 x5_3).f1) ((Qaa l0_7 x5_3).f2) false _ A103.out).mono ?_
       rintro e w125 ⟨rfl,hb⟩
       refine ⟨_,rfl, ?_⟩
       have n0_:=bl BK182 hb
       have n1_:=bs HB hb
       clear BK182
       clear HB
       have BK182:=n0_
       have HB:=n1_
       clear n0_ n1_
       (try clear hb)
       (try clear hb2)
       (try clear hk)
       (try clear hi)
       refine hK.out _ _ (b11 BK182 ⟨(cW HB hw197_0),(cW HB hw197_1),(cW HB hw197_2),(cW HB hw203_0),(cW HB hw203_1),(cW HB hw203_2)⟩) (fun hHeld => ?_)
       clear hK K
       refine nn 138 (h := ?_)
       refine pu HT_ 6 139 127 (h := ?_)
       refine pu HT_ 7 140 255 (h := ?_)
       refine pu HT_ 9 142 767 (h := ?_)
       refine tk HT_ HW_ hHeld 8 141 1023 (h := ?_)
       refine pu HT_ 10 143 2047 (h := ?_)
       refine tk HT_ HW_ hHeld 11 144 4095 (h := ?_)
       refine on HT_ 12 (some 145) 8191 (h:=fun K hK => ?_)
       refine gS Tryz.func99 #[.agg #[.int .i64 ((Qaa l0_7 x5_3).f0), .int .i64 ((Qaa l0_7 x5_3).f1), .int .i64 ((Qaa l0_7 x5_3).f2)]] (h := ?_)
       with_reducible refine (r4_Elem.calls ((Qaa l0_7 x5_3).f0) ((Qaa l0_7 x5_3).f1) ((Qaa l0_7 x5_3).f2) true _ A108.out).mono ?_
       rintro e w126 ⟨rfl,hb⟩
       refine ⟨_,rfl, ?_⟩
       have n0_:=bl BK182 hb
       have n1_:=bs HB hb
       clear BK182
       clear HB
       have BK182:=n0_
       have HB:=n1_
       clear n0_ n1_
       (try clear hb)
       (try clear hb2)
       (try clear hk)
       (try clear hi)
       refine hK.out _ _ (b11 BK182 ⟨(cW HB hw197_0),(cW HB hw197_1),(cW HB hw197_2),(cW HB hw203_0),(cW HB hw203_1),(cW HB hw203_2)⟩) (fun hHeld => ?_)
       clear hK K
       refine nn 145 (h := ?_)
       refine pu HT_ 13 146 16383 (h := ?_)
       refine pu HT_ 14 147 32767 (h := ?_)
       refine pu HT_ 15 148 65535 (h := ?_)
       refine pu HT_ 17 150 196607 (h := ?_)
       refine pu HT_ 19 152 720895 (h := ?_)
       refine tk HT_ HW_ hHeld 16 149 786431 (h := ?_)
       refine tk HT_ HW_ hHeld 18 151 1048575 (h := ?_)
       refine pu HT_ 20 153 2097151 (h := ?_)
       refine tk HT_ HW_ hHeld 21 154 4194303 (h := ?_)
       refine on HT_ 22 (some 155) 8388607 (h:=fun K hK => ?_)
       refine gS Tryz.func100 #[.agg #[.int .i64 a0_0, .int .i64 a0_1, .int .i64 a0_2, .int .i64 a0_3, .int .i64 a0_4, .int .i64 a0_5, .string a0_6, .slice (some ad197) l0_7.length c0_7, .int .i64 a0_8, .int .i64 a0_9, .int .i64 a0_10], .agg #[.int .i64 ((Qaa l0_7 x5_3).f0), .int .i64 ((Qaa l0_7 x5_3).f1), .int .i64 ((Qaa l0_7 x5_3).f2)]] (h := ?_)
       with_reducible refine (r4_own.calls a0_0 a0_1 a0_2 a0_3 a0_4 a0_5 a0_6 _ _ l0_7 a0_8 a0_9 a0_10 ((Qaa l0_7 x5_3).f0) ((Qaa l0_7 x5_3).f1) ((Qaa l0_7 x5_3).f2) false _ ?side1 ?side2 A110.out).mono ?_
       (case side1 => exact cb HR0_7 HB)
       (case side2 => exact HC0_7.out)
       rintro e w127 ⟨rfl,hb⟩
       refine ⟨_,rfl, ?_⟩
       have n0_:=bl BK182 hb
       have n1_:=bs HB hb
       clear BK182
       clear HB
       have BK182:=n0_
       have HB:=n1_
       clear n0_ n1_
       (try clear hb)
       (try clear hb2)
       (try clear hk)
       (try clear hi)
       refine hK.out _ _ (b11 BK182 ⟨(cW HB hw197_0),(cW HB hw197_1),(cW HB hw197_2),(cW HB hw203_0),(cW HB hw203_1),(cW HB hw203_2)⟩) (fun hHeld => ?_)
       clear hK K
       refine nn 155 (h := ?_)
       refine pu HT_ 23 156 16777215 (h := ?_)
       refine pu HT_ 24 157 33554431 (h := ?_)
       refine pu HT_ 25 158 67108863 (h := ?_)
       refine pu HT_ 26 159 134217727 (h := ?_)
       refine pu HT_ 27 160 268435455 (h := ?_)
       refine pu HT_ 28 161 536870911 (h := ?_)
       refine pu HT_ 30 163 1610612735 (h := ?_)
       refine pu HT_ 31 164 3758096383 (h := ?_)
       refine pu HT_ 34 167 20937965567 (h := ?_)
       refine pu HT_ 36 169 89657442303 (h := ?_)
       refine tk HT_ HW_ hHeld 29 162 90194313215 (h := ?_)
       refine pu HT_ 32 165 94489280511 (h := ?_)
       refine tk HT_ HW_ hHeld 33 166 103079215103 (h := ?_)
       refine tk HT_ HW_ hHeld 35 168 137438953471 (h := ?_)
       refine pu HT_ 37 170 274877906943 (h := ?_)
       refine tk HT_ HW_ hHeld 38 171 549755813887 (h := ?_)
       refine on HT_ 39 (some 172) 1099511627775 (h:=fun K hK => ?_)
       refine goes_ Tryz.func93 (by kernel_rfl) rfl #[.agg #[.int .i64 ((Qaa l0_7 (ji118)).f0), .int .i64 ((Qaa l0_7 (ji118)).f1), .int .i64 ((Qaa l0_7 (ji118)).f2)], .agg #[.int .i64 ((Qaa l0_7 x5_3).f0), .int .i64 ((Qaa l0_7 x5_3).f1), .int .i64 ((Qaa l0_7 x5_3).f2)]] (by rfl) rfl rfl (by (try simp only [List.map_toArray,List.map_cons,List.map_nil]); first | done | (simp only [hji118]; rfl) | rfl | (simp only [List.length_drop,List.length_take]; rfl)) ?_
       with_reducible refine (r4_Less.calls ((Qaa l0_7 (ji118)).f0) ((Qaa l0_7 (ji118)).f1) ((Qaa l0_7 (ji118)).f2) ((Qaa l0_7 x5_3).f0) ((Qaa l0_7 x5_3).f1) ((Qaa l0_7 x5_3).f2) true _ A121.out).mono ?_
       rintro e w128 ⟨rfl,hb⟩
       refine ⟨_,rfl, ?_⟩
       have n0_:=bl BK182 hb
       have n1_:=bs HB hb
       clear BK182
       clear HB
       have BK182:=n0_
       have HB:=n1_
       clear n0_ n1_
       (try clear hb)
       (try clear hb2)
       (try clear hk)
       (try clear hi)
       refine hK.out _ _ (b11 BK182 ⟨(cW HB hw197_0),(cW HB hw197_1),(cW HB hw197_2),(cW HB hw203_0),(cW HB hw203_1),(cW HB hw203_2)⟩) (fun hHeld => ?_)
       clear hK K
       refine nn 172 (h := ?_)
       refine pu HT_ 40 173 2199023255551 (h := ?_)
       refine pu HT_ 41 174 4398046511103 (h := ?_)
       refine pu HT_ 42 175 8796093022207 (h := ?_)
       refine dn HT_ (h := ?_)
       try go_wp2
       go_roundg k3
       case measure => have:=HJ48.out; have:=HJ66.out; have:=HK3.out; omega
       case rel => exact ⟨(wrap64 (x5_3 + 1)),rf,H',⟨by have:=HJ48.out; have:=HJ66.out; have:=HK3.out; omega⟩,⟨kk BK182⟩,⟨bw HB⟩⟩
end
section
attribute [local go_sem] Qbm Qbk Qbu Qbt Qbc Qbb Qbl Qbj
mutual
def r4_Goes.j0 : Nat -> List (SOp) -> Bool -> Int -> Int -> Int -> Int -> Int -> Int -> ByteArray -> List (SElem) -> Int -> Int -> Int -> Option (Bool)
 | 0,_,_,_,_,_,_,_,_,_,_,_,_,_ => none
 | k + 1,x0,x25,x217000,x217001,x217002,x217003,x217004,x217005,x217006,x217007,x217008,x217009,x217010 => if x25 = true then (some false) else (r4_Goes.l0 k x0 0 x217000 x217001 x217002 x217003 x217004 x217005 x217006 x217007 x217008 x217009 x217010)
def r4_Goes.l0 : Nat -> List (SOp) -> Int -> Int -> Int -> Int -> Int -> Int -> Int -> ByteArray -> List (SElem) -> Int -> Int -> Int -> Option (Bool)
 | 0,_,_,_,_,_,_,_,_,_,_,_,_,_ => none
 | k + 1,x0,x5,x217000,x217001,x217002,x217003,x217004,x217005,x217006,x217007,x217008,x217009,x217010 => if x5 < (x217007.length : Int) then (if 0 <= x5 then ((r4_written.f k x0 ((Qaa x217007 x5).f0) ((Qaa x217007 x5).f1) ((Qaa x217007 x5).f2)).bind fun t221 => (if t221 = true then (r4_Goes.l0 k x0 (wrap64 (x5 + 1)) x217000 x217001 x217002 x217003 x217004 x217005 x217006 x217007 x217008 x217009 x217010) else (some false))) else (none)) else (if x217002 = 1 then (some true) else ((r4_Edit.f k x0 x217008 x217009).bind fun t222 => (some t222)))
end
def r4_Goes.f (k : Nat) (l0 : List (SOp)) (a1_0 : Int) (a1_1 : Int) (a1_2 : Int) (a1_3 : Int) (a1_4 : Int) (a1_5 : Int) (a1_6 : ByteArray) (l1_7 : List (SElem)) (a1_8 : Int) (a1_9 : Int) (a1_10 : Int) : Option (Bool):=(r4_Op.f k a1_0 a1_1 a1_2 a1_3 a1_4 a1_5 a1_6 l1_7 a1_8 a1_9 a1_10).bind fun t217 => (if t217 = true then ((r4_Many.f k l0 a1_0).bind fun t218 => (if a1_1 = (wrap64 (t218 + 1)) then ((r4_written.f k l0 a1_3 a1_4 a1_5).bind fun t219 => (r4_Goes.j0 k l0 (!t219) a1_0 a1_1 a1_2 a1_3 a1_4 a1_5 a1_6 l1_7 a1_8 a1_9 a1_10)) else (r4_Goes.j0 k l0 true a1_0 a1_1 a1_2 a1_3 a1_4 a1_5 a1_6 l1_7 a1_8 a1_9 a1_10))) else (r4_Goes.j0 k l0 true a1_0 a1_1 a1_2 a1_3 a1_4 a1_5 a1_6 l1_7 a1_8 a1_9 a1_10))
def r4_Goes.T1 : Bool × List (List Nat × List Nat):=(true,[([],[]),([0],[0]),([1],[1]),([2,1],[2]),([3],[3]),([4,3],[3,4]),([3],[3]),([3],[3]),([7,3],[3,7]),([6,8,3,3],[3,6,8]),([9,3],[3,9]),([5,10,3],[3,5,10]),([3,11],[3,11]),([12,9],[12]),([13],[13]),([13],[13]),([15,13],[13,15]),([14,16,13,13],[13,14,16]),([17,13],[13,17]),([13,18],[13,18])])
def r4_Goes.B1 : List Nat:=[0,1,3,7,15,31,15,15,143,463,975,2047,4095,8191,16383,16383,49151,131071,262143,524287]
theorem r4_Goes.tab1 : rtab .any (Qdb Tryz.f39 1) = r4_Goes.T1:=by kernel_rfl
theorem r4_Goes.bits1 : Qay r4_Goes.T1.2 r4_Goes.B1 = true:=by kernel_rfl
theorem r4_Goes.calls (k : Nat) (A0 : Option Addr) (c0 : Nat) (l0 : List (SOp)) (a1_0 : Int) (a1_1 : Int) (a1_2 : Int) (a1_3 : Int) (a1_4 : Int) (a1_5 : Int) (a1_6 : ByteArray) (A1_7 : Option Addr) (c1_7 : Nat) (l1_7 : List (SElem)) (a1_8 : Int) (a1_9 : Int) (a1_10 : Int) (r : Bool) (w : World) (hr0 : Kd.C kOp w A0 l0.length l0) (hc0 : l0.length <= c0) (hr1_7 : Kd.C Qap w A1_7 l1_7.length l1_7) (hc1_7 : l1_7.length <= c1_7) (hT : GT w) (h : r4_Goes.f k l0 a1_0 a1_1 a1_2 a1_3 a1_4 a1_5 a1_6 l1_7 a1_8 a1_9 a1_10 = some r) :
  Calls Tryz.prog 39 #[.slice A0 l0.length c0, .agg #[.int .i64 a1_0, .int .i64 a1_1, .int .i64 a1_2, .int .i64 a1_3, .int .i64 a1_4, .int .i64 a1_5, .string a1_6, .slice A1_7 l1_7.length c1_7, .int .i64 a1_8, .int .i64 a1_9, .int .i64 a1_10]] w fun e w' => e = .returned (.bool r) /\ Below w.heap.size w w':=by
 have hu34:=Tryz.underlying34
 have hu32:=Tryz.underlying32
 have HR0:=Zz.k hr0
 have HC0:=Zz.k hc0
 clear hr0 hc0
 have HR1_7:=Zz.k hr1_7
 have HC1_7:=Zz.k hc1_7
 clear hr1_7 hc1_7
 have HB:=Zz.k (Below.refl w.heap.size w)
 unfold r4_Goes.f at h; have H:=h
 clear h
 have HC3:=Zz.k H
 clear H
 go_enter Tryz.func39,Tryz.ntmps39
 go_upto_region 1 with (first | ((with_reducible refine Qaf (N:=3) rfl ?_); refine bx 3 #[.int .i64 a1_0, .int .i64 a1_1, .int .i64 a1_2, .int .i64 a1_3, .int .i64 a1_4, .int .i64 a1_5, .string a1_6, .slice A1_7 l1_7.length c1_7, .int .i64 a1_8, .int .i64 a1_9, .int .i64 a1_10] 34 (h := ?_); intro gb216 hg w4 hbox hb; have BK216:=Zz.k (hbox); have GW216:=bz HB hg; have GE216:=bz HB hg; replace HB:=bs HB hb; clear hb hbox hg))
 (try simp only [Act.put,List.setIfInBounds_toArray,List.set_cons_zero,List.set_cons_succ])
 go_cut [25] (fun v25 wc => ∃ (kq : Nat) (x25_2 : Bool),v25 = .bool x25_2 /\ Zz (r4_Goes.j0 kq l0 x25_2 a1_0 a1_1 a1_2 a1_3 a1_4 a1_5 a1_6 l1_7 a1_8 a1_9 a1_10 = some r) /\ Zz (kq <= k) /\ Zz (wc.heap[gb216]? = some (.cells #[.int .i64 a1_0, .int .i64 a1_1, .int .i64 a1_2, .int .i64 a1_3, .int .i64 a1_4, .int .i64 a1_5, .string a1_6,(.slice A1_7 l1_7.length c1_7), .int .i64 a1_8, .int .i64 a1_9, .int .i64 a1_10] 34 (0,0))) /\ Zz (Below w.heap.size w wc))
 case first =>
  have H:=HC3.out
  clear HC3
  obtain ⟨t217,A5,H⟩:=bE H
  by_cases c6 : t217 = true; rotate_left
  ·replace c6:=Zf c6
   subst c6
   rw [if_neg nft] at H
   have H':=Zz.k H
   clear H
   try go_wp2
   have n0_:=Zz.k (Qao BK216.out)
   have n1_:=Zz.k (Qae HB.out)
   clear BK216
   clear HB
   have BK216:=n0_
   have HB:=n1_
   clear n0_ n1_
   refine stP (fun w' => E11 w' gb216 (.int .i64 a1_0) (.int .i64 a1_1) (.int .i64 a1_2) (.int .i64 a1_3) (.int .i64 a1_4) (.int .i64 a1_5) (.string a1_6) (.slice A1_7 l1_7.length c1_7) (.int .i64 a1_8) (.int .i64 a1_9) (.int .i64 a1_10)) 20 (e11 BK216) (h:=fun hHeld => ?_); refine Qaw r4_Goes.tab1 r4_Goes.bits1 (fun HT_ HW_ => ?_)
   generalize w4.drew = w15 at BK216 HB hHeld ⊢
   refine tk HT_ HW_ hHeld 0 6 1 (h := ?_)
   refine on HT_ 1 (some 7) 3 (h:=fun K hK => ?_)
   refine gS Tryz.func69 #[.agg #[.int .i64 a1_0, .int .i64 a1_1, .int .i64 a1_2, .int .i64 a1_3, .int .i64 a1_4, .int .i64 a1_5, .string a1_6, .slice A1_7 l1_7.length c1_7, .int .i64 a1_8, .int .i64 a1_9, .int .i64 a1_10]] (h := ?_)
   with_reducible refine (r4_Op.calls k a1_0 a1_1 a1_2 a1_3 a1_4 a1_5 a1_6 _ _ l1_7 a1_8 a1_9 a1_10 false _ ?side1 ?side2 ?side3 A5.out).mono ?_
   (case side1 => exact cb HR1_7 HB)
   (case side2 => exact HC1_7.out)
   (case side3 => exact (hT.below (bw HB)))
   rintro e w16 ⟨rfl,hb⟩
   refine ⟨_,rfl, ?_⟩
   have n0_:=bl BK216 hb
   have n1_:=bs HB hb
   clear BK216
   clear HB
   have BK216:=n0_
   have HB:=n1_
   clear n0_ n1_
   (try clear hb)
   (try clear hb2)
   (try clear hk)
   (try clear hi)
   refine hK.out _ _ (e11 BK216) (fun hHeld => ?_)
   clear hK K
   refine nn 7 (h := ?_)
   refine pu HT_ 2 8 7 (h := ?_)
   refine pu HT_ 3 9 15 (h := ?_)
   refine off HT_ 4 10 31 (h := ?_)
   refine off HT_ 5 11 63 (h := ?_)
   refine off HT_ 6 12 127 (h := ?_)
   refine off HT_ 7 13 255 (h := ?_)
   refine off HT_ 8 14 511 (h := ?_)
   refine off HT_ 9 15 1023 (h := ?_)
   refine off HT_ 10 16 2047 (h := ?_)
   refine off HT_ 11 17 4095 (h := ?_)
   refine pu HT_ 12 18 8191 (h := ?_)
   refine pu HT_ 13 19 16383 (h := ?_)
   refine off HT_ 14 20 32767 (h := ?_)
   refine off HT_ 15 21 65535 (h := ?_)
   refine off HT_ 16 22 131071 (h := ?_)
   refine off HT_ 17 23 262143 (h := ?_)
   refine off HT_ 18 24 524287 (h := ?_)
   refine pu HT_ 19 25 1048575 (h := ?_)
   refine dn HT_ (h := ?_)
   try go_wp2
   go_meet
   case rel => exact ⟨_,(true),rf,H',⟨by first | omega | exact Nat.le_refl _⟩,⟨kk BK216⟩,⟨bw HB⟩⟩
  subst c6
  rw [if_pos rfl] at H
  obtain ⟨t218,A7,H⟩:=bE H
  by_cases c8 : a1_1 = (wrap64 (t218 + 1)); rotate_left
  ·rw [if_neg c8] at H
   obtain ⟨c8b0,c8b1⟩:=bF c8
   (first | rw [c8b0] | (simp only [Qbe,Qbi]; rw [c8b0]) | skip)
   have H':=Zz.k H
   clear H
   try go_wp2
   have n0_:=Zz.k (Qao BK216.out)
   have n1_:=Zz.k (Qae HB.out)
   clear BK216
   clear HB
   have BK216:=n0_
   have HB:=n1_
   clear n0_ n1_
   refine stP (fun w' => E11 w' gb216 (.int .i64 a1_0) (.int .i64 a1_1) (.int .i64 a1_2) (.int .i64 a1_3) (.int .i64 a1_4) (.int .i64 a1_5) (.string a1_6) (.slice A1_7 l1_7.length c1_7) (.int .i64 a1_8) (.int .i64 a1_9) (.int .i64 a1_10)) 20 (e11 BK216) (h:=fun hHeld => ?_); refine Qaw r4_Goes.tab1 r4_Goes.bits1 (fun HT_ HW_ => ?_)
   generalize w4.drew = w13 at BK216 HB hHeld ⊢
   refine tk HT_ HW_ hHeld 0 6 1 (h := ?_)
   refine on HT_ 1 (some 7) 3 (h:=fun K hK => ?_)
   refine gS Tryz.func69 #[.agg #[.int .i64 a1_0, .int .i64 a1_1, .int .i64 a1_2, .int .i64 a1_3, .int .i64 a1_4, .int .i64 a1_5, .string a1_6, .slice A1_7 l1_7.length c1_7, .int .i64 a1_8, .int .i64 a1_9, .int .i64 a1_10]] (h := ?_)
   with_reducible refine (r4_Op.calls k a1_0 a1_1 a1_2 a1_3 a1_4 a1_5 a1_6 _ _ l1_7 a1_8 a1_9 a1_10 true _ ?side1 ?side2 ?side3 A5.out).mono ?_
   (case side1 => exact cb HR1_7 HB)
   (case side2 => exact HC1_7.out)
   (case side3 => exact (hT.below (bw HB)))
   rintro e w14 ⟨rfl,hb⟩
   refine ⟨_,rfl, ?_⟩
   have n0_:=bl BK216 hb
   have n1_:=bs HB hb
   clear BK216
   clear HB
   have BK216:=n0_
   have HB:=n1_
   clear n0_ n1_
   (try clear hb)
   (try clear hb2)
   (try clear hk)
   (try clear hi)
   refine hK.out _ _ (e11 BK216) (fun hHeld => ?_)
   clear hK K
   refine nn 7 (h := ?_)
   refine pu HT_ 2 8 7 (h := ?_)
   refine pu HT_ 3 9 15 (h := ?_)
   refine pu HT_ 4 10 31 (h := ?_)
   refine pu HT_ 6 12 95 (h := ?_)
   refine pu HT_ 7 13 223 (h := ?_)
   refine tk HT_ HW_ hHeld 5 11 255 (h := ?_)
   refine tk HT_ HW_ hHeld 8 14 511 (h := ?_)
   refine on HT_ 9 (some 15) 1023 (h:=fun K hK => ?_)
   refine gS Tryz.func61 #[.slice A0 l0.length c0, .int .i64 a1_0] (h := ?_)
   with_reducible refine (r4_Many.calls k _ _ l0 a1_0 t218 _ ?side1 ?side2 A7.out).mono ?_
   (case side1 => exact cb HR0 HB)
   (case side2 => exact HC0.out)
   rintro e w' ⟨rfl,⟨nd,rfl⟩⟩
   refine ⟨_,rfl, ?_⟩
   refine hK.out _ _ (e11 BK216) (fun hHeld => ?_)
   clear hK K
   refine nn 15 (h := ?_)
   refine pu HT_ 10 16 2047 (h := ?_)
   refine pu HT_ 11 17 4095 (h := ?_)
   refine pu HT_ 12 18 8191 (h := ?_)
   refine pu HT_ 13 19 16383 (h := ?_)
   refine off HT_ 14 20 32767 (h := ?_)
   refine off HT_ 15 21 65535 (h := ?_)
   refine off HT_ 16 22 131071 (h := ?_)
   refine off HT_ 17 23 262143 (h := ?_)
   refine off HT_ 18 24 524287 (h := ?_)
   refine pu HT_ 19 25 1048575 (h := ?_)
   refine dn HT_ (h := ?_)
   try go_wp2
   go_meet
   case rel => exact ⟨_,(true),rf,H',⟨by first | omega | exact Nat.le_refl _⟩,⟨kk BK216⟩,⟨bw HB⟩⟩
  rw [if_pos c8] at H
  obtain ⟨c8b0,c8b1⟩:=bT c8
  clear c8
  (first | rw [c8b0] | (simp only [Qbe,Qbi]; rw [c8b0]) | skip)
  obtain ⟨t219,A9,H⟩:=bE H
  have H':=Zz.k H
  clear H
  try go_wp2
  have n0_:=Zz.k (Qao BK216.out)
  have n1_:=Zz.k (Qae HB.out)
  clear BK216
  clear HB
  have BK216:=n0_
  have HB:=n1_
  clear n0_ n1_
  refine stP (fun w' => E11 w' gb216 (.int .i64 a1_0) (.int .i64 a1_1) (.int .i64 a1_2) (.int .i64 a1_3) (.int .i64 a1_4) (.int .i64 a1_5) (.string a1_6) (.slice A1_7 l1_7.length c1_7) (.int .i64 a1_8) (.int .i64 a1_9) (.int .i64 a1_10)) 20 (e11 BK216) (h:=fun hHeld => ?_); refine Qaw r4_Goes.tab1 r4_Goes.bits1 (fun HT_ HW_ => ?_)
  generalize w4.drew = w10 at BK216 HB hHeld ⊢
  refine tk HT_ HW_ hHeld 0 6 1 (h := ?_)
  refine on HT_ 1 (some 7) 3 (h:=fun K hK => ?_)
  refine gS Tryz.func69 #[.agg #[.int .i64 a1_0, .int .i64 a1_1, .int .i64 a1_2, .int .i64 a1_3, .int .i64 a1_4, .int .i64 a1_5, .string a1_6, .slice A1_7 l1_7.length c1_7, .int .i64 a1_8, .int .i64 a1_9, .int .i64 a1_10]] (h := ?_)
  with_reducible refine (r4_Op.calls k a1_0 a1_1 a1_2 a1_3 a1_4 a1_5 a1_6 _ _ l1_7 a1_8 a1_9 a1_10 true _ ?side1 ?side2 ?side3 A5.out).mono ?_
  (case side1 => exact cb HR1_7 HB)
  (case side2 => exact HC1_7.out)
  (case side3 => exact (hT.below (bw HB)))
  rintro e w11 ⟨rfl,hb⟩
  refine ⟨_,rfl, ?_⟩
  have n0_:=bl BK216 hb
  have n1_:=bs HB hb
  clear BK216
  clear HB
  have BK216:=n0_
  have HB:=n1_
  clear n0_ n1_
  (try clear hb)
  (try clear hb2)
  (try clear hk)
  (try clear hi)
  refine hK.out _ _ (e11 BK216) (fun hHeld => ?_)
  clear hK K
  refine nn 7 (h := ?_)
  refine pu HT_ 2 8 7 (h := ?_)
  refine pu HT_ 3 9 15 (h := ?_)
  refine pu HT_ 4 10 31 (h := ?_)
  refine pu HT_ 6 12 95 (h := ?_)
  refine pu HT_ 7 13 223 (h := ?_)
  refine tk HT_ HW_ hHeld 5 11 255 (h := ?_)
  refine tk HT_ HW_ hHeld 8 14 511 (h := ?_)
  refine on HT_ 9 (some 15) 1023 (h:=fun K hK => ?_)
  refine gS Tryz.func61 #[.slice A0 l0.length c0, .int .i64 a1_0] (h := ?_)
  with_reducible refine (r4_Many.calls k _ _ l0 a1_0 t218 _ ?side1 ?side2 A7.out).mono ?_
  (case side1 => exact cb HR0 HB)
  (case side2 => exact HC0.out)
  rintro e w' ⟨rfl,⟨nd,rfl⟩⟩
  refine ⟨_,rfl, ?_⟩
  refine hK.out _ _ (e11 BK216) (fun hHeld => ?_)
  clear hK K
  refine nn 15 (h := ?_)
  refine pu HT_ 10 16 2047 (h := ?_)
  refine pu HT_ 11 17 4095 (h := ?_)
  refine pu HT_ 12 18 8191 (h := ?_)
  refine pu HT_ 13 19 16383 (h := ?_)
  refine pu HT_ 14 20 32767 (h := ?_)
  refine pu HT_ 15 21 65535 (h := ?_)
  refine tk HT_ HW_ hHeld 16 22 131071 (h := ?_)
  refine on HT_ 17 (some 23) 262143 (h:=fun K hK => ?_)
  refine gS Tryz.func70 #[.slice A0 l0.length c0, .agg #[.int .i64 a1_3, .int .i64 a1_4, .int .i64 a1_5]] (h := ?_)
  with_reducible refine (r4_written.calls k _ _ l0 a1_3 a1_4 a1_5 t219 _ ?side1 ?side2 ?side3 A9.out).mono ?_
  (case side1 => repeat (first | exact (Kd.C_below HR0.out (bw HB)) | (with_reducible refine Kd.C_alloc ?_ _) | (with_reducible refine Kd.C_drewN ?_ _) | (with_reducible refine Kd.C_drew ?_)))
  (case side2 => exact HC0.out)
  (case side3 => exact (hT.below (bw HB)))
  rintro e w12 ⟨rfl,hb⟩
  refine ⟨_,rfl, ?_⟩
  have n0_:=bl BK216 hb
  have n1_:=bs HB hb
  clear BK216
  clear HB
  have BK216:=n0_
  have HB:=n1_
  clear n0_ n1_
  (try clear hb)
  (try clear hb2)
  (try clear hk)
  (try clear hi)
  refine hK.out _ _ (e11 BK216) (fun hHeld => ?_)
  clear hK K
  refine nn 23 (h := ?_)
  refine pu HT_ 18 24 524287 (h := ?_)
  refine pu HT_ 19 25 1048575 (h := ?_)
  refine dn HT_ (h := ?_)
  try go_wp2
  go_meet
  case rel => exact ⟨_,(!t219),rf,H',⟨by first | omega | exact Nat.le_refl _⟩,⟨kk BK216⟩,⟨bw HB⟩⟩
 case rest =>
  clear HC3
  obtain ⟨kq,x25_2,rfl,HA,HJ2,BK216,HB⟩:=hcut
  cases kq with
  | zero => exact absurd HA.out (by simp [r4_Goes.j0])
  | succ kj2 =>
   have H:=HA.out
   clear HA
   simp only [r4_Goes.j0] at H
   by_cases c17 : x25_2 = true
   ·subst c17
    rw [if_pos rfl] at H
    obtain rfl:=Zo H
    go_wp2
    go_ret
    exact ⟨re,bw HB⟩
   replace c17:=Zf c17
   subst c17
   rw [if_neg nft] at H
   have H':=Zz.k H
   clear H
   go_wp2
   go_loopg [5] kj2 (fun kq v5 w' => ∃ (x5_2 : Int),v5 = .int .i64 x5_2 /\ Zz (r4_Goes.l0 kq l0 x5_2 a1_0 a1_1 a1_2 a1_3 a1_4 a1_5 a1_6 l1_7 a1_8 a1_9 a1_10 = some r) /\ Zz (kq <= kj2) /\ Zz (w'.heap[gb216]? = some (.cells #[.int .i64 a1_0, .int .i64 a1_1, .int .i64 a1_2, .int .i64 a1_3, .int .i64 a1_4, .int .i64 a1_5, .string a1_6,(.slice A1_7 l1_7.length c1_7), .int .i64 a1_8, .int .i64 a1_9, .int .i64 a1_10] 34 (0,0))) /\ Zz (Below w.heap.size w w'))
   case atStart => exact ⟨(0),rf,H',⟨Nat.le_refl _⟩,⟨kk BK216⟩,⟨bw HB⟩⟩
   case round =>
    clear H'
    try clear c17
    obtain ⟨x5_2,rfl,HA,HK2,BK216,HB⟩:=hrel
    cases gk with
    | zero => exact absurd HA.out (by simp [r4_Goes.l0])
    | succ k2 =>
     have H:=HA.out
     clear HA
     simp only [r4_Goes.l0] at H
     by_cases c18 : x5_2 < (l1_7.length : Int); rotate_left
     ·rw [if_neg c18] at H
      have c18b0:=Ze c18
      clear c18
      by_cases c26 : a1_2 = 1
      ·rw [if_pos c26] at H
       obtain ⟨c26b0,c26b1⟩:=bT c26
       clear c26
       obtain rfl:=Zo H
       obtain ⟨_,_,_,_,_,_,_,_,_,_,_,_,_,_,_,_,_,_,_,_,_,_⟩:=kc11 BK216
       go_wp2
       go_ret
       exact ⟨re,bw HB⟩
      rw [if_neg c26] at H
      obtain ⟨c26b0,c26b1⟩:=bF c26
      obtain ⟨t222,A28,H⟩:=bE H
      obtain rfl:=Zo H
      obtain ⟨_,_,_,_,_,_,_,_,_,_,_,_,_,_,_,_,_,_,_,_,_,_⟩:=kc11 BK216
      go_wp2_with (first | (go_at_call 64; (with_reducible refine (r4_Edit.calls k2 _ _ l0 a1_8 a1_9 t222 _ ?side1 ?side2 A28.out).mono ?_); (case side1 => exact cb HR0 HB); (case side2 => exact HC0.out); rintro e w' ⟨rfl,⟨nd,rfl⟩⟩))
      go_ret
      exact ⟨re,bw HB⟩
     rw [if_pos c18] at H
     have c18b0:=Zd c18
     clear c18
     by_cases c19 : 0 <= x5_2; rotate_left
     ·rw [if_neg c19] at H
      exact absurd H (by simp)
     rw [if_pos c19] at H
     have c19b0:=Zd c19
     clear c19
     obtain ⟨t221,A20,H⟩:=bE H
     by_cases c21 : t221 = true
     ·subst c21
      rw [if_pos rfl] at H
      have H':=Zz.k H
      clear H
      obtain ⟨_,_,_,_,_,_,_,_,_,_,_,_,_,_,_,_,_,_,_,_,_,_⟩:=kc11 BK216
      have p220 : 0 <= (x5_2 : Int):=od
      have q220 : x5_2 < (l1_7.length : Int):=od
      obtain ⟨ad220,e220,hx220_0,hx220_1,hx220_2⟩:=Qbd HR1_7.out x5_2 p220 q220
      cases e220
      replace hx220_0:=cl HB hx220_0
      replace hx220_1:=cl HB hx220_1
      replace hx220_2:=cl HB hx220_2
      replace p220:=eq_true p220
      replace q220:=eq_true q220
      go_wp2_with (first | ((with_reducible refine Qac (f:=70) rfl ?_); refine gl (some 39) Tryz.func70 #[.slice A0 l0.length c0, .agg #[.int .i64 ((Qaa l1_7 x5_2).f0), .int .i64 ((Qaa l1_7 x5_2).f1), .int .i64 ((Qaa l1_7 x5_2).f2)]] (h := ?_); (with_reducible refine (r4_written.calls k2 _ _ l0 ((Qaa l1_7 x5_2).f0) ((Qaa l1_7 x5_2).f1) ((Qaa l1_7 x5_2).f2) true _ ?side1 ?side2 ?side3 A20.out).mono ?_); (case side1 => exact cb HR0 HB); (case side2 => exact HC0.out); (case side3 => exact (hT.below (bw HB))); rintro e w23 ⟨rfl,hb⟩; refine ⟨_,rfl, ?_⟩; replace BK216:=bl BK216 hb; replace HB:=bs HB hb; clear hb))
      go_roundg k2
      case measure => have:=HJ2.out; have:=HK2.out; omega
      case rel => exact ⟨(wrap64 (x5_2 + 1)),rf,H',⟨by have:=HJ2.out; have:=HK2.out; omega⟩,⟨kk BK216⟩,⟨bw HB⟩⟩
     replace c21:=Zf c21
     subst c21
     rw [if_neg nft] at H
     obtain rfl:=Zo H
     obtain ⟨_,_,_,_,_,_,_,_,_,_,_,_,_,_,_,_,_,_,_,_,_,_⟩:=kc11 BK216
     have p220 : 0 <= (x5_2 : Int):=od
     have q220 : x5_2 < (l1_7.length : Int):=od
     obtain ⟨ad220,e220,hx220_0,hx220_1,hx220_2⟩:=Qbd HR1_7.out x5_2 p220 q220
     cases e220
     replace hx220_0:=cl HB hx220_0
     replace hx220_1:=cl HB hx220_1
     replace hx220_2:=cl HB hx220_2
     replace p220:=eq_true p220
     replace q220:=eq_true q220
     go_wp2_with (first | ((with_reducible refine Qac (f:=70) rfl ?_); refine gl (some 39) Tryz.func70 #[.slice A0 l0.length c0, .agg #[.int .i64 ((Qaa l1_7 x5_2).f0), .int .i64 ((Qaa l1_7 x5_2).f1), .int .i64 ((Qaa l1_7 x5_2).f2)]] (h := ?_); (with_reducible refine (r4_written.calls k2 _ _ l0 ((Qaa l1_7 x5_2).f0) ((Qaa l1_7 x5_2).f1) ((Qaa l1_7 x5_2).f2) false _ ?side1 ?side2 ?side3 A20.out).mono ?_); (case side1 => exact cb HR0 HB); (case side2 => exact HC0.out); (case side3 => exact (hT.below (bw HB))); rintro e w25 ⟨rfl,hb⟩; refine ⟨_,rfl, ?_⟩; replace BK216:=bl BK216 hb; replace HB:=bs HB hb; clear hb))
     go_ret
     exact ⟨re,bw HB⟩
end
end Go.Proofs.YtlllghajjamdpaaGreatDoor.L
end
