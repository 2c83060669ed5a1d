/- Part 5 of the proof that for every argument the law OpForms answers true: ops of each form, with each part spoilt by itself, may be, or not, as the page says: by ops made here. -/
import Derived.Test.YtonoaflfobajcaaDoorZOF4
section
namespace Go.Proofs.YtonoaflfobajcaaDoor.L
open Go.RowKit Go.Proofs.YtonoaflfobajcaaDoorW.PrintWords Go.Proofs.YtonoaflfobajcaaDoorW.PrintLast Go.Proofs.YtonoaflfobajcaaDoorW.PrintMore
set_option linter.unusedVariables false
set_option linter.unusedSimpArgs false
set_option maxHeartbeats 40000000
set_option maxRecDepth 1000000
section
attribute [local go_sem] Qbq Qbo Qcd Qcc Qba Qaz Qbp Qbn
attribute [local go_sem high] eqAElem
def r0_Num.f (a0 : Int) (a1 : Int) : Option (Bool):=if a0 >= 0 then (some (decide (a0 <= a1))) else (some false)
theorem r0_Num.calls (a0 : Int) (a1 : Int) (r : Bool) (w : World) (h : r0_Num.f a0 a1 = some r) :
  Calls Tryd.prog 50 #[.int .i64 a0, .int .i64 a1] w fun e w' => e = .returned (.bool r) /\ Drawn0 w w':=by
 unfold r0_Num.f at h; have H:=h
 clear h
 by_cases c3 : a0 >= 0
 ·rw [if_pos c3] at H
  have c3b0:=Zd c3
  clear c3
  obtain rfl:=Zo H
  go_enter Tryd.func50,Tryd.ntmps50
  go_wp2
  go_ret
  exact ⟨rf,by repeat (first | exact Drawn0.refl _ | apply Drawn0.step)⟩
 rw [if_neg c3] at H
 have c3b0:=Ze c3
 clear c3
 obtain rfl:=Zo H
 go_enter Tryd.func50,Tryd.ntmps50
 go_wp2
 go_ret
 exact ⟨rf,by repeat (first | exact Drawn0.refl _ | apply Drawn0.step)⟩
def r4_Begin.f (a0_0 : Int) (a0_1 : Int) (a0_2 : Int) : Option (Bool):=some (a0_0 == 0 && (a0_1 == 0 && (a0_2 == 0)))
theorem r4_Begin.calls (a0_0 : Int) (a0_1 : Int) (a0_2 : Int) (r : Bool) (w : World) (h : r4_Begin.f a0_0 a0_1 a0_2 = some r) :
  Calls Tryd.prog 62 #[.agg #[.int .i64 a0_0, .int .i64 a0_1, .int .i64 a0_2]] w fun e w' => e = .returned (.bool r) /\ Below w.heap.size w w':=by
 have hu43:=Tryd.underlying43
 have HB:=Zz.k (Below.refl w.heap.size w)
 unfold r4_Begin.f at h; have H:=h
 clear h
 obtain rfl:=Zo H
 go_enter Tryd.func62,Tryd.ntmps62
 go_wp2_with (first | ((with_reducible refine Qac (N:=1) rfl ?_); refine bx 1 #[.int .i64 a0_0, .int .i64 a0_1, .int .i64 a0_2] 43 (h := ?_); intro gb177 hg w2 hbox hb; have BK177:=Zz.k (hbox); have GW177:=bz HB hg; have GE177:=bz HB hg; replace HB:=bs HB hb; clear hb hbox hg; obtain ⟨_,_,_,_,_,_⟩:=kc3 BK177))
 go_ret
 exact ⟨re,bw HB⟩
def r0_Between.f (a0 : Int) (a1 : Int) (a2 : Int) : Option (Bool):=if a0 >= a1 then (some (decide (a0 <= a2))) else (some false)
theorem r0_Between.calls (a0 : Int) (a1 : Int) (a2 : Int) (r : Bool) (w : World) (h : r0_Between.f a0 a1 a2 = some r) :
  Calls Tryd.prog 124 #[.int .i64 a0, .int .i64 a1, .int .i64 a2] w fun e w' => e = .returned (.bool r) /\ Drawn0 w w':=by
 unfold r0_Between.f at h; have H:=h
 clear h
 by_cases c4 : a0 >= a1
 ·rw [if_pos c4] at H
  have c4b0:=Zd c4
  clear c4
  obtain rfl:=Zo H
  go_enter Tryd.func124,Tryd.ntmps124
  go_wp2
  go_ret
  exact ⟨rf,by repeat (first | exact Drawn0.refl _ | apply Drawn0.step)⟩
 rw [if_neg c4] at H
 have c4b0:=Ze c4
 clear c4
 obtain rfl:=Zo H
 go_enter Tryd.func124,Tryd.ntmps124
 go_wp2
 go_ret
 exact ⟨rf,by repeat (first | exact Drawn0.refl _ | apply Drawn0.step)⟩
def r4_name.f (a0 : Int) (a1 : Int) : Option (Bool):=(r0_Between.f a0 1 8).bind fun t178 => (if t178 = true then ((r0_Between.f a1 1 268435456).bind fun t179 => (some t179)) else (some false))
theorem r4_name.calls (a0 : Int) (a1 : Int) (r : Bool) (w : World) (h : r4_name.f a0 a1 = some r) :
  Calls Tryd.prog 91 #[.int .i64 a0, .int .i64 a1] w fun e w' => e = .returned (.bool r) /\ Drawn0 w w':=by
 unfold r4_name.f at h; have H:=h
 clear h
 obtain ⟨t178,A3,H⟩:=bE H
 by_cases c4 : t178 = true
 ·subst c4
  rw [if_pos rfl] at H
  obtain ⟨t179,A5,H⟩:=bE H
  obtain rfl:=Zo H
  go_enter Tryd.func91,Tryd.ntmps91
  go_wp2_with (first | ((with_reducible refine Qab (f:=124) rfl ?_); refine gl (some 6) Tryd.func124 #[.int .i64 a0, .int .i64 1, .int .i64 8] (h := ?_); (with_reducible refine (r0_Between.calls a0 1 8 true _ A3.out).mono ?_); rintro e w' ⟨rfl,⟨nd,rfl⟩⟩; refine ⟨_,rfl, ?_⟩) | (go_at_call 124; (with_reducible refine (r0_Between.calls a1 1 268435456 t179 _ A5.out).mono ?_); rintro e w' ⟨rfl,⟨nd,rfl⟩⟩))
  go_ret
  exact ⟨rf,by repeat (first | exact Drawn0.refl _ | apply Drawn0.step)⟩
 replace c4:=Zf c4
 subst c4
 rw [if_neg nft] at H
 obtain rfl:=Zo H
 go_enter Tryd.func91,Tryd.ntmps91
 go_wp2_with (first | ((with_reducible refine Qab (f:=124) rfl ?_); refine gl (some 6) Tryd.func124 #[.int .i64 a0, .int .i64 1, .int .i64 8] (h := ?_); (with_reducible refine (r0_Between.calls a0 1 8 false _ A3.out).mono ?_); rintro e w' ⟨rfl,⟨nd,rfl⟩⟩; refine ⟨_,rfl, ?_⟩))
 go_ret
 exact ⟨rf,by repeat (first | exact Drawn0.refl _ | apply Drawn0.step)⟩
def r4_Elem.f (a0_0 : Int) (a0_1 : Int) (a0_2 : Int) : Option (Bool):=(r4_Begin.f a0_0 a0_1 a0_2).bind fun t181 => (if t181 = true then (some true) else ((r4_name.f a0_0 a0_1).bind fun t182 => (if t182 = true then ((r0_Num.f a0_2 11).bind fun t183 => (some t183)) else (some false))))
theorem r4_Elem.calls (a0_0 : Int) (a0_1 : Int) (a0_2 : Int) (r : Bool) (w : World) (h : r4_Elem.f a0_0 a0_1 a0_2 = some r) :
  Calls Tryd.prog 53 #[.agg #[.int .i64 a0_0, .int .i64 a0_1, .int .i64 a0_2]] w fun e w' => e = .returned (.bool r) /\ Below w.heap.size w w':=by
 have hu43:=Tryd.underlying43
 have HB:=Zz.k (Below.refl w.heap.size w)
 unfold r4_Elem.f at h; have H:=h
 clear h
 obtain ⟨t181,A2,H⟩:=bE H
 by_cases c3 : t181 = true
 ·subst c3
  rw [if_pos rfl] at H
  obtain rfl:=Zo H
  go_enter Tryd.func53,Tryd.ntmps53
  go_wp2_with (first | ((with_reducible refine Qac (N:=1) rfl ?_); refine bx 1 #[.int .i64 a0_0, .int .i64 a0_1, .int .i64 a0_2] 43 (h := ?_); intro gb180 hg w4 hbox hb; have BK180:=Zz.k (hbox); have GW180:=bz HB hg; have GE180:=bz HB hg; replace HB:=bs HB hb; clear hb hbox hg; obtain ⟨_,_,_,_,_,_⟩:=kc3 BK180) | ((with_reducible refine Qab (f:=62) rfl ?_); refine gl (some 4) Tryd.func62 #[.agg #[.int .i64 a0_0, .int .i64 a0_1, .int .i64 a0_2]] (h := ?_); (with_reducible refine (r4_Begin.calls a0_0 a0_1 a0_2 true _ A2.out).mono ?_); rintro e w6 ⟨rfl,hb⟩; refine ⟨_,rfl, ?_⟩; replace BK180:=bl BK180 hb; replace HB:=bs HB hb; clear hb))
  go_ret
  exact ⟨re,bw HB⟩
 replace c3:=Zf c3
 subst c3
 rw [if_neg nft] at H
 obtain ⟨t182,A7,H⟩:=bE H
 by_cases c8 : t182 = true
 ·subst c8
  rw [if_pos rfl] at H
  obtain ⟨t183,A9,H⟩:=bE H
  obtain rfl:=Zo H
  go_enter Tryd.func53,Tryd.ntmps53
  go_wp2_with (first | ((with_reducible refine Qac (N:=1) rfl ?_); refine bx 1 #[.int .i64 a0_0, .int .i64 a0_1, .int .i64 a0_2] 43 (h := ?_); intro gb180 hg w10 hbox hb; have BK180:=Zz.k (hbox); have GW180:=bz HB hg; have GE180:=bz HB hg; replace HB:=bs HB hb; clear hb hbox hg; obtain ⟨_,_,_,_,_,_⟩:=kc3 BK180) | ((with_reducible refine Qab (f:=62) rfl ?_); refine gl (some 4) Tryd.func62 #[.agg #[.int .i64 a0_0, .int .i64 a0_1, .int .i64 a0_2]] (h := ?_); (with_reducible refine (r4_Begin.calls a0_0 a0_1 a0_2 false _ A2.out).mono ?_); rintro e w12 ⟨rfl,hb⟩; refine ⟨_,rfl, ?_⟩; replace BK180:=bl BK180 hb; replace HB:=bs HB hb; clear hb; obtain ⟨_,_,_,_,_,_⟩:=kc3 BK180) | (go_at_call 91; (with_reducible refine (r4_name.calls a0_0 a0_1 true _ A7.out).mono ?_); rintro e w' ⟨rfl,⟨nd,rfl⟩⟩) | (go_at_call 50; (with_reducible refine (r0_Num.calls a0_2 11 t183 _ A9.out).mono ?_); rintro e w' ⟨rfl,⟨nd,rfl⟩⟩))
  go_ret
  exact ⟨re,bw HB⟩
 replace c8:=Zf c8
 subst c8
 rw [if_neg nft] at H
 obtain rfl:=Zo H
 go_enter Tryd.func53,Tryd.ntmps53
 go_wp2_with (first | ((with_reducible refine Qac (N:=1) rfl ?_); refine bx 1 #[.int .i64 a0_0, .int .i64 a0_1, .int .i64 a0_2] 43 (h := ?_); intro gb180 hg w14 hbox hb; have BK180:=Zz.k (hbox); have GW180:=bz HB hg; have GE180:=bz HB hg; replace HB:=bs HB hb; clear hb hbox hg; obtain ⟨_,_,_,_,_,_⟩:=kc3 BK180) | ((with_reducible refine Qab (f:=62) rfl ?_); refine gl (some 4) Tryd.func62 #[.agg #[.int .i64 a0_0, .int .i64 a0_1, .int .i64 a0_2]] (h := ?_); (with_reducible refine (r4_Begin.calls a0_0 a0_1 a0_2 false _ A2.out).mono ?_); rintro e w16 ⟨rfl,hb⟩; refine ⟨_,rfl, ?_⟩; replace BK180:=bl BK180 hb; replace HB:=bs HB hb; clear hb; obtain ⟨_,_,_,_,_,_⟩:=kc3 BK180) | (go_at_call 91; (with_reducible refine (r4_name.calls a0_0 a0_1 false _ A7.out).mono ?_); rintro e w' ⟨rfl,⟨nd,rfl⟩⟩))
 go_ret
 exact ⟨re,bw HB⟩
def r4_Less.f (a0_0 : Int) (a0_1 : Int) (a0_2 : Int) (a1_0 : Int) (a1_1 : Int) (a1_2 : Int) : Option (Bool):=if a0_0 = a1_0 then (if a0_1 = a1_1 then (some (decide (a0_2 < a1_2))) else (some (decide (a0_1 < a1_1)))) else (some (decide (a0_0 < a1_0)))
theorem r4_Less.calls (a0_0 : Int) (a0_1 : Int) (a0_2 : Int) (a1_0 : Int) (a1_1 : Int) (a1_2 : Int) (r : Bool) (w : World) (h : r4_Less.f a0_0 a0_1 a0_2 a1_0 a1_1 a1_2 = some r) :
  Calls Tryd.prog 55 #[.agg #[.int .i64 a0_0, .int .i64 a0_1, .int .i64 a0_2], .agg #[.int .i64 a1_0, .int .i64 a1_1, .int .i64 a1_2]] w fun e w' => e = .returned (.bool r) /\ Below w.heap.size w w':=by
 have hu43:=Tryd.underlying43
 have HB:=Zz.k (Below.refl w.heap.size w)
 unfold r4_Less.f at h; have H:=h
 clear h
 by_cases c3 : a0_0 = a1_0; rotate_left
 ·rw [if_neg c3] at H
  obtain ⟨c3b0,c3b1⟩:=bF c3
  obtain rfl:=Zo H
  go_enter Tryd.func55,Tryd.ntmps55
  go_wp2_with (first | ((with_reducible refine Qac (N:=2) rfl ?_); refine bx 2 #[.int .i64 a0_0, .int .i64 a0_1, .int .i64 a0_2] 43 (h := ?_); intro gb184 hg w15 hbox hb; have BK184:=Zz.k (hbox); have GW184:=bz HB hg; have GE184:=bz HB hg; replace HB:=bs HB hb; clear hb hbox hg) | ((with_reducible refine Qac (N:=3) rfl ?_); refine bx 3 #[.int .i64 a1_0, .int .i64 a1_1, .int .i64 a1_2] 43 (h := ?_); intro gb185 hg w16 hbox hb; have BK185:=Zz.k (hbox); have GW185:=bz HB hg; have GE185:=bz HB hg; have NB184_185:=bn BK184 hg; have NB185_184:=bm BK184 hg; replace BK184:=bl BK184 hb; replace HB:=bs HB hb; clear hb hbox hg; have hnb17:=NB184_185.out; have hnc17:=NB185_184.out; obtain ⟨_,_,_,_,_,_⟩:=kc3 BK184; obtain ⟨_,_,_,_,_,_⟩:=kc3 BK185))
  go_ret
  exact ⟨re,bw HB⟩
 rw [if_pos c3] at H
 obtain ⟨c3b0,c3b1⟩:=bT c3
 clear c3
 by_cases c4 : a0_1 = a1_1
 ·rw [if_pos c4] at H
  obtain ⟨c4b0,c4b1⟩:=bT c4
  clear c4
  obtain rfl:=Zo H
  go_enter Tryd.func55,Tryd.ntmps55
  go_wp2_with (first | ((with_reducible refine Qac (N:=2) rfl ?_); refine bx 2 #[.int .i64 a0_0, .int .i64 a0_1, .int .i64 a0_2] 43 (h := ?_); intro gb184 hg w5 hbox hb; have BK184:=Zz.k (hbox); have GW184:=bz HB hg; have GE184:=bz HB hg; replace HB:=bs HB hb; clear hb hbox hg) | ((with_reducible refine Qac (N:=3) rfl ?_); refine bx 3 #[.int .i64 a1_0, .int .i64 a1_1, .int .i64 a1_2] 43 (h := ?_); intro gb185 hg w6 hbox hb; have BK185:=Zz.k (hbox); have GW185:=bz HB hg; have GE185:=bz HB hg; have NB184_185:=bn BK184 hg; have NB185_184:=bm BK184 hg; replace BK184:=bl BK184 hb; replace HB:=bs HB hb; clear hb hbox hg; have hnb7:=NB184_185.out; have hnc7:=NB185_184.out; obtain ⟨_,_,_,_,_,_⟩:=kc3 BK184; obtain ⟨_,_,_,_,_,_⟩:=kc3 BK185))
  go_ret
  exact ⟨re,bw HB⟩
 rw [if_neg c4] at H
 obtain ⟨c4b0,c4b1⟩:=bF c4
 obtain rfl:=Zo H
 go_enter Tryd.func55,Tryd.ntmps55
 go_wp2_with (first | ((with_reducible refine Qac (N:=2) rfl ?_); refine bx 2 #[.int .i64 a0_0, .int .i64 a0_1, .int .i64 a0_2] 43 (h := ?_); intro gb184 hg w10 hbox hb; have BK184:=Zz.k (hbox); have GW184:=bz HB hg; have GE184:=bz HB hg; replace HB:=bs HB hb; clear hb hbox hg) | ((with_reducible refine Qac (N:=3) rfl ?_); refine bx 3 #[.int .i64 a1_0, .int .i64 a1_1, .int .i64 a1_2] 43 (h := ?_); intro gb185 hg w11 hbox hb; have BK185:=Zz.k (hbox); have GW185:=bz HB hg; have GE185:=bz HB hg; have NB184_185:=bn BK184 hg; have NB185_184:=bm BK184 hg; replace BK184:=bl BK184 hb; replace HB:=bs HB hb; clear hb hbox hg; have hnb12:=NB184_185.out; have hnc12:=NB185_184.out; obtain ⟨_,_,_,_,_,_⟩:=kc3 BK184; obtain ⟨_,_,_,_,_,_⟩:=kc3 BK185))
 go_ret
 exact ⟨re,bw HB⟩
end
section
attribute [local go_sem] Qbq Qbo Qcd Qcc Qba Qaz Qbp Qbn
mutual
def r4_Op.j0 : Nat -> Bool -> Int -> Int -> Int -> Int -> Int -> Int -> ByteArray -> List (SElem) -> Int -> Int -> Int -> Option (Bool)
 | 0,_,_,_,_,_,_,_,_,_,_,_,_ => none
 | k + 1,x89,x195000,x195001,x195002,x195003,x195004,x195005,x195006,x195007,x195008,x195009,x195010 => if x89 = true then (some false) else ((r1_Runes.f k x195006).bind fun bt201 => (if bt201.2 = true then (if (bt201.1.length : Int) > 12 then (r4_Op.j1 k true x195000 x195001 x195002 x195003 x195004 x195005 x195006 x195007 x195008 x195009 x195010) else ((r4_Elem.f x195003 x195004 x195005).bind fun t205 => (if t205 = true then (if (bt201.1.length : Int) = 0 then ((r4_Begin.f x195003 x195004 x195005).bind fun t206 => (if t206 = true then ((r4_own.f x195000 x195001 x195002 x195003 x195004 x195005 x195006 x195007 x195008 x195009 x195010 x195003 x195004 x195005).bind fun t207 => (r4_Op.j1 k t207 x195000 x195001 x195002 x195003 x195004 x195005 x195006 x195007 x195008 x195009 x195010)) else (r4_Op.j1 k true x195000 x195001 x195002 x195003 x195004 x195005 x195006 x195007 x195008 x195009 x195010))) else ((r4_own.f x195000 x195001 x195002 x195003 x195004 x195005 x195006 x195007 x195008 x195009 x195010 x195003 x195004 x195005).bind fun t208 => (r4_Op.j1 k t208 x195000 x195001 x195002 x195003 x195004 x195005 x195006 x195007 x195008 x195009 x195010))) else (r4_Op.j1 k true x195000 x195001 x195002 x195003 x195004 x195005 x195006 x195007 x195008 x195009 x195010)))) else (r4_Op.j1 k true x195000 x195001 x195002 x195003 x195004 x195005 x195006 x195007 x195008 x195009 x195010)))
def r4_Op.j1 : Nat -> Bool -> Int -> Int -> Int -> Int -> Int -> Int -> ByteArray -> List (SElem) -> Int -> Int -> Int -> Option (Bool)
 | 0,_,_,_,_,_,_,_,_,_,_,_,_ => none
 | k + 1,x125,x195000,x195001,x195002,x195003,x195004,x195005,x195006,x195007,x195008,x195009,x195010 => if x125 = true then (some false) else (r4_Op.l0 k 0 x195000 x195001 x195002 x195003 x195004 x195005 x195006 x195007 x195008 x195009 x195010)
def r4_Op.l0 : Nat -> Int -> Int -> Int -> Int -> Int -> Int -> Int -> ByteArray -> List (SElem) -> Int -> Int -> Int -> Option (Bool)
 | 0,_,_,_,_,_,_,_,_,_,_,_,_ => none
 | k + 1,x5,x195000,x195001,x195002,x195003,x195004,x195005,x195006,x195007,x195008,x195009,x195010 => if x5 < (x195007.length : Int) then (if 0 <= x5 then ((r4_Begin.f ((Qaa x195007 x5).f0) ((Qaa x195007 x5).f1) ((Qaa x195007 x5).f2)).bind fun t210 => (if t210 = true then (some false) else ((r4_Elem.f ((Qaa x195007 x5).f0) ((Qaa x195007 x5).f1) ((Qaa x195007 x5).f2)).bind fun t212 => (if t212 = true then ((r4_own.f x195000 x195001 x195002 x195003 x195004 x195005 x195006 x195007 x195008 x195009 x195010 ((Qaa x195007 x5).f0) ((Qaa x195007 x5).f1) ((Qaa x195007 x5).f2)).bind fun t214 => (if t214 = true then (some false) else (if x5 > 0 then (if 0 <= (wrap64 (x5 - 1)) then (if (wrap64 (x5 - 1)) < (x195007.length : Int) then ((r4_Less.f ((Qaa x195007 (wrap64 (x5 - 1))).f0) ((Qaa x195007 (wrap64 (x5 - 1))).f1) ((Qaa x195007 (wrap64 (x5 - 1))).f2) ((Qaa x195007 x5).f0) ((Qaa x195007 x5).f1) ((Qaa x195007 x5).f2)).bind fun t217 => (if t217 = true then (r4_Op.l0 k (wrap64 (x5 + 1)) x195000 x195001 x195002 x195003 x195004 x195005 x195006 x195007 x195008 x195009 x195010) else (some false))) else (none)) else (none)) else (r4_Op.l0 k (wrap64 (x5 + 1)) x195000 x195001 x195002 x195003 x195004 x195005 x195006 x195007 x195008 x195009 x195010)))) else (some false))))) else (none)) else (some true)
end
def r4_Op.f (k : Nat) (a0_0 : Int) (a0_1 : Int) (a0_2 : Int) (a0_3 : Int) (a0_4 : Int) (a0_5 : Int) (a0_6 : ByteArray) (l0_7 : List (SElem)) (a0_8 : Int) (a0_9 : Int) (a0_10 : Int) : Option (Bool):=(r4_name.f a0_0 a0_1).bind fun t195 => (if t195 = true then (if a0_2 = 2 then ((r4_name.f a0_8 a0_9).bind fun t196 => (if t196 = true then (if a0_8 = a0_0 then (if a0_9 = a0_1 then (some false) else ((r0_Num.f a0_10 268435456).bind fun t197 => (if t197 = true then ((r4_Begin.f a0_3 a0_4 a0_5).bind fun t198 => (if t198 = true then (if a0_6.toList = ([] : List UInt8) then (some ((l0_7.length : Int) == 0)) else (some false)) else (some false))) else (some false)))) else ((r0_Num.f a0_10 268435456).bind fun t199 => (if t199 = true then ((r4_Begin.f a0_3 a0_4 a0_5).bind fun t200 => (if t200 = true then (if a0_6.toList = ([] : List UInt8) then (some ((l0_7.length : Int) == 0)) else (some false)) else (some false))) else (some false)))) else (some false))) else (if a0_2 = 1 then (if a0_8 = 0 then (if a0_9 = 0 then (if a0_10 = 0 then (if (l0_7.length : Int) > 200 then (r4_Op.j0 k true a0_0 a0_1 a0_2 a0_3 a0_4 a0_5 a0_6 l0_7 a0_8 a0_9 a0_10) else (if a0_6.toList = ([] : List UInt8) then (r4_Op.j0 k ((l0_7.length : Int) == 0) a0_0 a0_1 a0_2 a0_3 a0_4 a0_5 a0_6 l0_7 a0_8 a0_9 a0_10) else (r4_Op.j0 k false a0_0 a0_1 a0_2 a0_3 a0_4 a0_5 a0_6 l0_7 a0_8 a0_9 a0_10))) else (r4_Op.j0 k true a0_0 a0_1 a0_2 a0_3 a0_4 a0_5 a0_6 l0_7 a0_8 a0_9 a0_10)) else (r4_Op.j0 k true a0_0 a0_1 a0_2 a0_3 a0_4 a0_5 a0_6 l0_7 a0_8 a0_9 a0_10)) else (r4_Op.j0 k true a0_0 a0_1 a0_2 a0_3 a0_4 a0_5 a0_6 l0_7 a0_8 a0_9 a0_10)) else (r4_Op.j0 k true a0_0 a0_1 a0_2 a0_3 a0_4 a0_5 a0_6 l0_7 a0_8 a0_9 a0_10))) else (some false))
def r4_Op.T13 : Bool × List (List Nat × List Nat):=(true,[([],[]),([0],[0]),([],[]),([1,2],[1,2]),([3],[3]),([4],[4]),([5,5],[5]),([6],[6]),([7,6],[6,7]),([6],[6]),([8,9,6],[6,8,9]),([10,6],[6,10]),([11,6,6],[6,11]),([12,6],[6,12]),([6,13],[6,13]),([14,12],[14]),([15],[15]),([15],[15]),([17,15],[15,17]),([15],[15]),([18,19,15],[15,18,19]),([20,15],[15,20]),([16,21,15,15],[15,16,21]),([15,22],[15,22]),([23,22],[23]),([24],[24]),([25,24],[24,25]),([26,24,24],[24,26]),([27],[27]),([28,27],[27,28]),([27],[27]),([30,27],[27,30]),([29,31,27],[27,29,31]),([32,27],[27,32]),([27],[27]),([34,27],[27,34]),([27],[27]),([35,36,27],[27,35,36]),([37,27],[27,37]),([33,38,27,27],[27,33,38]),([39,27],[27,39]),([27,40,24],[24,27,40]),([24,41],[24,41])])
def r4_Op.B13 : List Nat:=[0,1,0,7,15,31,63,127,255,127,1023,2047,4095,8191,16383,32767,65535,65535,196607,65535,983039,2031615,4194303,8388607,16777215,33554431,67108863,134217727,268435455,536870911,268435455,1342177279,4294967295,8589934591,268435455,17448304639,268435455,120527519743,257966473215,549755813887,1099511627775,2199023255551,4398046511103]
theorem r4_Op.tab13 : rtab .any (opsOf Tryd.f41 13) = r4_Op.T13:=by kernel_rfl
theorem r4_Op.bits13 : Qbf r4_Op.T13.2 r4_Op.B13 = true:=by kernel_rfl
theorem r4_Op.calls (k : Nat) (a0_0 : Int) (a0_1 : Int) (a0_2 : Int) (a0_3 : Int) (a0_4 : Int) (a0_5 : Int) (a0_6 : ByteArray) (A0_7 : Option Addr) (c0_7 : Nat) (l0_7 : List (SElem)) (a0_8 : Int) (a0_9 : Int) (a0_10 : Int) (r : Bool) (w : World) (hr0_7 : Kd.C Qam w A0_7 l0_7.length l0_7) (hc0_7 : l0_7.length <= c0_7) (hT : GT w) (h : r4_Op.f k a0_0 a0_1 a0_2 a0_3 a0_4 a0_5 a0_6 l0_7 a0_8 a0_9 a0_10 = some r) :
  Calls Tryd.prog 41 #[.agg #[.int .i64 a0_0, .int .i64 a0_1, .int .i64 a0_2, .int .i64 a0_3, .int .i64 a0_4, .int .i64 a0_5, .string a0_6, .slice A0_7 l0_7.length c0_7, .int .i64 a0_8, .int .i64 a0_9, .int .i64 a0_10]] w fun e w' => e = .returned (.bool r) /\ Below w.heap.size w w':=by
 have hu55:=Tryd.underlying55
 have hu43:=Tryd.underlying43
 have HR0_7:=Zz.k hr0_7
 have HC0_7:=Zz.k hc0_7
 clear hr0_7 hc0_7
 have HB:=Zz.k (Below.refl w.heap.size w)
 unfold r4_Op.f at h; have H:=h
 clear h
 obtain ⟨t195,A2,H⟩:=bE H
 by_cases c3 : t195 = true; rotate_left
 ·replace c3:=Zf c3
  subst c3
  rw [if_neg nft] at H
  obtain rfl:=Zo H
  go_enter Tryd.func41,Tryd.ntmps41
  go_wp2_with (first | ((with_reducible refine Qac (N:=1) rfl ?_); (try (refine Qag (by rfl) ?_; dsimp only)); refine bx 1 #[.int .i64 a0_0, .int .i64 a0_1, .int .i64 a0_2, .int .i64 a0_3, .int .i64 a0_4, .int .i64 a0_5, .string a0_6, .slice A0_7 l0_7.length c0_7, .int .i64 a0_8, .int .i64 a0_9, .int .i64 a0_10] 55 (h := ?_); intro gb194 hg w145 hbox hb; have BK194:=Zz.k (hbox); have GW194:=bz HB hg; have GE194:=bz HB hg; replace HB:=bs HB hb; clear hb hbox hg; obtain ⟨_,_,_,_,_,_,_,_,_,_,_,_,_,_,_,_,_,_,_,_,_,_⟩:=kc11 BK194) | ((with_reducible refine Qab (f:=91) rfl ?_); refine gl (some 10) Tryd.func91 #[.int .i64 a0_0, .int .i64 a0_1] (h := ?_); (with_reducible refine (r4_name.calls a0_0 a0_1 false _ A2.out).mono ?_); rintro e w' ⟨rfl,⟨nd,rfl⟩⟩; refine ⟨_,rfl, ?_⟩))
  go_ret
  exact ⟨re,bw HB⟩
 as_aux_lemma =>
 subst c3
 rw [if_pos rfl] at H
 by_cases c4 : a0_2 = 2
 ·as_aux_lemma =>
  rw [if_pos c4] at H
  obtain ⟨c4b0,c4b1⟩:=bT c4
  clear c4
  obtain ⟨t196,A5,H⟩:=bE H
  by_cases c6 : t196 = true; rotate_left
  ·replace c6:=Zf c6
   subst c6
   rw [if_neg nft] at H
   obtain rfl:=Zo H
   go_enter Tryd.func41,Tryd.ntmps41
   go_wp2_with (first | ((with_reducible refine Qac (N:=1) rfl ?_); (try (refine Qag (by rfl) ?_; dsimp only)); refine bx 1 #[.int .i64 a0_0, .int .i64 a0_1, .int .i64 a0_2, .int .i64 a0_3, .int .i64 a0_4, .int .i64 a0_5, .string a0_6, .slice A0_7 l0_7.length c0_7, .int .i64 a0_8, .int .i64 a0_9, .int .i64 a0_10] 55 (h := ?_); intro gb194 hg w47 hbox hb; have BK194:=Zz.k (hbox); have GW194:=bz HB hg; have GE194:=bz HB hg; replace HB:=bs HB hb; clear hb hbox hg; obtain ⟨_,_,_,_,_,_,_,_,_,_,_,_,_,_,_,_,_,_,_,_,_,_⟩:=kc11 BK194) | ((with_reducible refine Qab (f:=91) rfl ?_); refine gl (some 10) Tryd.func91 #[.int .i64 a0_0, .int .i64 a0_1] (h := ?_); (with_reducible refine (r4_name.calls a0_0 a0_1 true _ A2.out).mono ?_); rintro e w' ⟨rfl,⟨nd,rfl⟩⟩; refine ⟨_,rfl, ?_⟩) | ((with_reducible refine Qab (f:=91) rfl ?_); refine gl (some 19) Tryd.func91 #[.int .i64 a0_8, .int .i64 a0_9] (h := ?_); (with_reducible refine (r4_name.calls a0_8 a0_9 false _ A5.out).mono ?_); rintro e w' ⟨rfl,⟨nd,rfl⟩⟩; refine ⟨_,rfl, ?_⟩))
   go_ret
   exact ⟨re,bw HB⟩
  as_aux_lemma =>
  subst c6
  rw [if_pos rfl] at H
  by_cases c7 : a0_8 = a0_0; rotate_left
  ·rw [if_neg c7] at H
   obtain ⟨c7b0,c7b1⟩:=bF c7
   obtain ⟨t199,A29,H⟩:=bE H
   by_cases c30 : t199 = true; rotate_left
   ·replace c30:=Zf c30
    subst c30
    rw [if_neg nft] at H
    obtain rfl:=Zo H
    go_enter Tryd.func41,Tryd.ntmps41
    go_wp2_with (first | ((with_reducible refine Qac (N:=1) rfl ?_); (try (refine Qag (by rfl) ?_; dsimp only)); refine bx 1 #[.int .i64 a0_0, .int .i64 a0_1, .int .i64 a0_2, .int .i64 a0_3, .int .i64 a0_4, .int .i64 a0_5, .string a0_6, .slice A0_7 l0_7.length c0_7, .int .i64 a0_8, .int .i64 a0_9, .int .i64 a0_10] 55 (h := ?_); intro gb194 hg w45 hbox hb; have BK194:=Zz.k (hbox); have GW194:=bz HB hg; have GE194:=bz HB hg; replace HB:=bs HB hb; clear hb hbox hg; obtain ⟨_,_,_,_,_,_,_,_,_,_,_,_,_,_,_,_,_,_,_,_,_,_⟩:=kc11 BK194) | ((with_reducible refine Qab (f:=91) rfl ?_); refine gl (some 10) Tryd.func91 #[.int .i64 a0_0, .int .i64 a0_1] (h := ?_); (with_reducible refine (r4_name.calls a0_0 a0_1 true _ A2.out).mono ?_); rintro e w' ⟨rfl,⟨nd,rfl⟩⟩; refine ⟨_,rfl, ?_⟩) | ((with_reducible refine Qab (f:=91) rfl ?_); refine gl (some 19) Tryd.func91 #[.int .i64 a0_8, .int .i64 a0_9] (h := ?_); (with_reducible refine (r4_name.calls a0_8 a0_9 true _ A5.out).mono ?_); rintro e w' ⟨rfl,⟨nd,rfl⟩⟩; refine ⟨_,rfl, ?_⟩) | (go_at_call 50; (with_reducible refine (r0_Num.calls a0_10 268435456 false _ A29.out).mono ?_); rintro e w' ⟨rfl,⟨nd,rfl⟩⟩))
    go_ret
    exact ⟨re,bw HB⟩
   as_aux_lemma =>
   subst c30
   rw [if_pos rfl] at H
   obtain ⟨t200,A31,H⟩:=bE H
   by_cases c32 : t200 = true; rotate_left
   ·replace c32:=Zf c32
    subst c32
    rw [if_neg nft] at H
    obtain rfl:=Zo H
    go_enter Tryd.func41,Tryd.ntmps41
    go_wp2_with (first | ((with_reducible refine Qac (N:=1) rfl ?_); (try (refine Qag (by rfl) ?_; dsimp only)); refine bx 1 #[.int .i64 a0_0, .int .i64 a0_1, .int .i64 a0_2, .int .i64 a0_3, .int .i64 a0_4, .int .i64 a0_5, .string a0_6, .slice A0_7 l0_7.length c0_7, .int .i64 a0_8, .int .i64 a0_9, .int .i64 a0_10] 55 (h := ?_); intro gb194 hg w42 hbox hb; have BK194:=Zz.k (hbox); have GW194:=bz HB hg; have GE194:=bz HB hg; replace HB:=bs HB hb; clear hb hbox hg; obtain ⟨_,_,_,_,_,_,_,_,_,_,_,_,_,_,_,_,_,_,_,_,_,_⟩:=kc11 BK194) | ((with_reducible refine Qab (f:=91) rfl ?_); refine gl (some 10) Tryd.func91 #[.int .i64 a0_0, .int .i64 a0_1] (h := ?_); (with_reducible refine (r4_name.calls a0_0 a0_1 true _ A2.out).mono ?_); rintro e w' ⟨rfl,⟨nd,rfl⟩⟩; refine ⟨_,rfl, ?_⟩) | ((with_reducible refine Qab (f:=91) rfl ?_); refine gl (some 19) Tryd.func91 #[.int .i64 a0_8, .int .i64 a0_9] (h := ?_); (with_reducible refine (r4_name.calls a0_8 a0_9 true _ A5.out).mono ?_); rintro e w' ⟨rfl,⟨nd,rfl⟩⟩; refine ⟨_,rfl, ?_⟩) | (go_at_call 50; (with_reducible refine (r0_Num.calls a0_10 268435456 true _ A29.out).mono ?_); rintro e w' ⟨rfl,⟨nd,rfl⟩⟩) | (go_at_call 62; (with_reducible refine (r4_Begin.calls a0_3 a0_4 a0_5 false _ A31.out).mono ?_); rintro e w44 ⟨rfl,hb⟩; replace BK194:=bl BK194 hb; replace HB:=bs HB hb; clear hb))
    go_ret
    exact ⟨re,bw HB⟩
   as_aux_lemma =>
   subst c32
   rw [if_pos rfl] at H
   by_cases c33 : a0_6.toList = ([] : List UInt8)
   ·rw [if_pos c33] at H
    obtain ⟨c33b0,c33b1⟩:=bT c33
    clear c33
    obtain rfl:=Zo H
    go_enter Tryd.func41,Tryd.ntmps41
    go_wp2_with (first | ((with_reducible refine Qac (N:=1) rfl ?_); (try (refine Qag (by rfl) ?_; dsimp only)); refine bx 1 #[.int .i64 a0_0, .int .i64 a0_1, .int .i64 a0_2, .int .i64 a0_3, .int .i64 a0_4, .int .i64 a0_5, .string a0_6, .slice A0_7 l0_7.length c0_7, .int .i64 a0_8, .int .i64 a0_9, .int .i64 a0_10] 55 (h := ?_); intro gb194 hg w34 hbox hb; have BK194:=Zz.k (hbox); have GW194:=bz HB hg; have GE194:=bz HB hg; replace HB:=bs HB hb; clear hb hbox hg; obtain ⟨_,_,_,_,_,_,_,_,_,_,_,_,_,_,_,_,_,_,_,_,_,_⟩:=kc11 BK194) | ((with_reducible refine Qab (f:=91) rfl ?_); refine gl (some 10) Tryd.func91 #[.int .i64 a0_0, .int .i64 a0_1] (h := ?_); (with_reducible refine (r4_name.calls a0_0 a0_1 true _ A2.out).mono ?_); rintro e w' ⟨rfl,⟨nd,rfl⟩⟩; refine ⟨_,rfl, ?_⟩) | ((with_reducible refine Qab (f:=91) rfl ?_); refine gl (some 19) Tryd.func91 #[.int .i64 a0_8, .int .i64 a0_9] (h := ?_); (with_reducible refine (r4_name.calls a0_8 a0_9 true _ A5.out).mono ?_); rintro e w' ⟨rfl,⟨nd,rfl⟩⟩; refine ⟨_,rfl, ?_⟩) | (go_at_call 50; (with_reducible refine (r0_Num.calls a0_10 268435456 true _ A29.out).mono ?_); rintro e w' ⟨rfl,⟨nd,rfl⟩⟩) | (go_at_call 62; (with_reducible refine (r4_Begin.calls a0_3 a0_4 a0_5 true _ A31.out).mono ?_); rintro e w36 ⟨rfl,hb⟩; replace BK194:=bl BK194 hb; replace HB:=bs HB hb; clear hb; obtain ⟨_,_,_,_,_,_,_,_,_,_,_,_,_,_,_,_,_,_,_,_,_,_⟩:=kc11 BK194))
    go_ret
    exact ⟨re,bw HB⟩
   rw [if_neg c33] at H
   obtain ⟨c33b0,c33b1⟩:=bF c33
   obtain rfl:=Zo H
   go_enter Tryd.func41,Tryd.ntmps41
   go_wp2_with (first | ((with_reducible refine Qac (N:=1) rfl ?_); (try (refine Qag (by rfl) ?_; dsimp only)); refine bx 1 #[.int .i64 a0_0, .int .i64 a0_1, .int .i64 a0_2, .int .i64 a0_3, .int .i64 a0_4, .int .i64 a0_5, .string a0_6, .slice A0_7 l0_7.length c0_7, .int .i64 a0_8, .int .i64 a0_9, .int .i64 a0_10] 55 (h := ?_); intro gb194 hg w38 hbox hb; have BK194:=Zz.k (hbox); have GW194:=bz HB hg; have GE194:=bz HB hg; replace HB:=bs HB hb; clear hb hbox hg; obtain ⟨_,_,_,_,_,_,_,_,_,_,_,_,_,_,_,_,_,_,_,_,_,_⟩:=kc11 BK194) | ((with_reducible refine Qab (f:=91) rfl ?_); refine gl (some 10) Tryd.func91 #[.int .i64 a0_0, .int .i64 a0_1] (h := ?_); (with_reducible refine (r4_name.calls a0_0 a0_1 true _ A2.out).mono ?_); rintro e w' ⟨rfl,⟨nd,rfl⟩⟩; refine ⟨_,rfl, ?_⟩) | ((with_reducible refine Qab (f:=91) rfl ?_); refine gl (some 19) Tryd.func91 #[.int .i64 a0_8, .int .i64 a0_9] (h := ?_); (with_reducible refine (r4_name.calls a0_8 a0_9 true _ A5.out).mono ?_); rintro e w' ⟨rfl,⟨nd,rfl⟩⟩; refine ⟨_,rfl, ?_⟩) | (go_at_call 50; (with_reducible refine (r0_Num.calls a0_10 268435456 true _ A29.out).mono ?_); rintro e w' ⟨rfl,⟨nd,rfl⟩⟩) | (go_at_call 62; (with_reducible refine (r4_Begin.calls a0_3 a0_4 a0_5 true _ A31.out).mono ?_); rintro e w40 ⟨rfl,hb⟩; replace BK194:=bl BK194 hb; replace HB:=bs HB hb; clear hb; obtain ⟨_,_,_,_,_,_,_,_,_,_,_,_,_,_,_,_,_,_,_,_,_,_⟩:=kc11 BK194))
   go_ret
   exact ⟨re,bw HB⟩
  as_aux_lemma =>
  rw [if_pos c7] at H
  obtain ⟨c7b0,c7b1⟩:=bT c7
  clear c7
  by_cases c8 : a0_9 = a0_1
  ·rw [if_pos c8] at H
   obtain ⟨c8b0,c8b1⟩:=bT c8
   clear c8
   obtain rfl:=Zo H
   go_enter Tryd.func41,Tryd.ntmps41
   go_wp2_with (first | ((with_reducible refine Qac (N:=1) rfl ?_); (try (refine Qag (by rfl) ?_; dsimp only)); refine bx 1 #[.int .i64 a0_0, .int .i64 a0_1, .int .i64 a0_2, .int .i64 a0_3, .int .i64 a0_4, .int .i64 a0_5, .string a0_6, .slice A0_7 l0_7.length c0_7, .int .i64 a0_8, .int .i64 a0_9, .int .i64 a0_10] 55 (h := ?_); intro gb194 hg w9 hbox hb; have BK194:=Zz.k (hbox); have GW194:=bz HB hg; have GE194:=bz HB hg; replace HB:=bs HB hb; clear hb hbox hg; obtain ⟨_,_,_,_,_,_,_,_,_,_,_,_,_,_,_,_,_,_,_,_,_,_⟩:=kc11 BK194) | ((with_reducible refine Qab (f:=91) rfl ?_); refine gl (some 10) Tryd.func91 #[.int .i64 a0_0, .int .i64 a0_1] (h := ?_); (with_reducible refine (r4_name.calls a0_0 a0_1 true _ A2.out).mono ?_); rintro e w' ⟨rfl,⟨nd,rfl⟩⟩; refine ⟨_,rfl, ?_⟩) | ((with_reducible refine Qab (f:=91) rfl ?_); refine gl (some 19) Tryd.func91 #[.int .i64 a0_8, .int .i64 a0_9] (h := ?_); (with_reducible refine (r4_name.calls a0_8 a0_9 true _ A5.out).mono ?_); rintro e w' ⟨rfl,⟨nd,rfl⟩⟩; refine ⟨_,rfl, ?_⟩))
   go_ret
   exact ⟨re,bw HB⟩
  rw [if_neg c8] at H
  obtain ⟨c8b0,c8b1⟩:=bF c8
  obtain ⟨t197,A11,H⟩:=bE H
  by_cases c12 : t197 = true; rotate_left
  ·replace c12:=Zf c12
   subst c12
   rw [if_neg nft] at H
   obtain rfl:=Zo H
   go_enter Tryd.func41,Tryd.ntmps41
   go_wp2_with (first | ((with_reducible refine Qac (N:=1) rfl ?_); (try (refine Qag (by rfl) ?_; dsimp only)); refine bx 1 #[.int .i64 a0_0, .int .i64 a0_1, .int .i64 a0_2, .int .i64 a0_3, .int .i64 a0_4, .int .i64 a0_5, .string a0_6, .slice A0_7 l0_7.length c0_7, .int .i64 a0_8, .int .i64 a0_9, .int .i64 a0_10] 55 (h := ?_); intro gb194 hg w27 hbox hb; have BK194:=Zz.k (hbox); have GW194:=bz HB hg; have GE194:=bz HB hg; replace HB:=bs HB hb; clear hb hbox hg; obtain ⟨_,_,_,_,_,_,_,_,_,_,_,_,_,_,_,_,_,_,_,_,_,_⟩:=kc11 BK194) | ((with_reducible refine Qab (f:=91) rfl ?_); refine gl (some 10) Tryd.func91 #[.int .i64 a0_0, .int .i64 a0_1] (h := ?_); (with_reducible refine (r4_name.calls a0_0 a0_1 true _ A2.out).mono ?_); rintro e w' ⟨rfl,⟨nd,rfl⟩⟩; refine ⟨_,rfl, ?_⟩) | ((with_reducible refine Qab (f:=91) rfl ?_); refine gl (some 19) Tryd.func91 #[.int .i64 a0_8, .int .i64 a0_9] (h := ?_); (with_reducible refine (r4_name.calls a0_8 a0_9 true _ A5.out).mono ?_); rintro e w' ⟨rfl,⟨nd,rfl⟩⟩; refine ⟨_,rfl, ?_⟩) | (go_at_call 50; (with_reducible refine (r0_Num.calls a0_10 268435456 false _ A11.out).mono ?_); rintro e w' ⟨rfl,⟨nd,rfl⟩⟩))
   go_ret
   exact ⟨re,bw HB⟩
  as_aux_lemma =>
  subst c12
  rw [if_pos rfl] at H
  obtain ⟨t198,A13,H⟩:=bE H
  by_cases c14 : t198 = true; rotate_left
  ·replace c14:=Zf c14
   subst c14
   rw [if_neg nft] at H
   obtain rfl:=Zo H
   go_enter Tryd.func41,Tryd.ntmps41
   go_wp2_with (first | ((with_reducible refine Qac (N:=1) rfl ?_); (try (refine Qag (by rfl) ?_; dsimp only)); refine bx 1 #[.int .i64 a0_0, .int .i64 a0_1, .int .i64 a0_2, .int .i64 a0_3, .int .i64 a0_4, .int .i64 a0_5, .string a0_6, .slice A0_7 l0_7.length c0_7, .int .i64 a0_8, .int .i64 a0_9, .int .i64 a0_10] 55 (h := ?_); intro gb194 hg w24 hbox hb; have BK194:=Zz.k (hbox); have GW194:=bz HB hg; have GE194:=bz HB hg; replace HB:=bs HB hb; clear hb hbox hg; obtain ⟨_,_,_,_,_,_,_,_,_,_,_,_,_,_,_,_,_,_,_,_,_,_⟩:=kc11 BK194) | ((with_reducible refine Qab (f:=91) rfl ?_); refine gl (some 10) Tryd.func91 #[.int .i64 a0_0, .int .i64 a0_1] (h := ?_); (with_reducible refine (r4_name.calls a0_0 a0_1 true _ A2.out).mono ?_); rintro e w' ⟨rfl,⟨nd,rfl⟩⟩; refine ⟨_,rfl, ?_⟩) | ((with_reducible refine Qab (f:=91) rfl ?_); refine gl (some 19) Tryd.func91 #[.int .i64 a0_8, .int .i64 a0_9] (h := ?_); (with_reducible refine (r4_name.calls a0_8 a0_9 true _ A5.out).mono ?_); rintro e w' ⟨rfl,⟨nd,rfl⟩⟩; refine ⟨_,rfl, ?_⟩) | (go_at_call 50; (with_reducible refine (r0_Num.calls a0_10 268435456 true _ A11.out).mono ?_); rintro e w' ⟨rfl,⟨nd,rfl⟩⟩) | (go_at_call 62; (with_reducible refine (r4_Begin.calls a0_3 a0_4 a0_5 false _ A13.out).mono ?_); rintro e w26 ⟨rfl,hb⟩; replace BK194:=bl BK194 hb; replace HB:=bs HB hb; clear hb))
   go_ret
   exact ⟨re,bw HB⟩
  as_aux_lemma =>
  subst c14
  rw [if_pos rfl] at H
  by_cases c15 : a0_6.toList = ([] : List UInt8)
  ·rw [if_pos c15] at H
   obtain ⟨c15b0,c15b1⟩:=bT c15
   clear c15
   obtain rfl:=Zo H
   go_enter Tryd.func41,Tryd.ntmps41
   go_wp2_with (first | ((with_reducible refine Qac (N:=1) rfl ?_); (try (refine Qag (by rfl) ?_; dsimp only)); refine bx 1 #[.int .i64 a0_0, .int .i64 a0_1, .int .i64 a0_2, .int .i64 a0_3, .int .i64 a0_4, .int .i64 a0_5, .string a0_6, .slice A0_7 l0_7.length c0_7, .int .i64 a0_8, .int .i64 a0_9, .int .i64 a0_10] 55 (h := ?_); intro gb194 hg w16 hbox hb; have BK194:=Zz.k (hbox); have GW194:=bz HB hg; have GE194:=bz HB hg; replace HB:=bs HB hb; clear hb hbox hg; obtain ⟨_,_,_,_,_,_,_,_,_,_,_,_,_,_,_,_,_,_,_,_,_,_⟩:=kc11 BK194) | ((with_reducible refine Qab (f:=91) rfl ?_); refine gl (some 10) Tryd.func91 #[.int .i64 a0_0, .int .i64 a0_1] (h := ?_); (with_reducible refine (r4_name.calls a0_0 a0_1 true _ A2.out).mono ?_); rintro e w' ⟨rfl,⟨nd,rfl⟩⟩; refine ⟨_,rfl, ?_⟩) | ((with_reducible refine Qab (f:=91) rfl ?_); refine gl (some 19) Tryd.func91 #[.int .i64 a0_8, .int .i64 a0_9] (h := ?_); (with_reducible refine (r4_name.calls a0_8 a0_9 true _ A5.out).mono ?_); rintro e w' ⟨rfl,⟨nd,rfl⟩⟩; refine ⟨_,rfl, ?_⟩) | (go_at_call 50; (with_reducible refine (r0_Num.calls a0_10 268435456 true _ A11.out).mono ?_); rintro e w' ⟨rfl,⟨nd,rfl⟩⟩) | (go_at_call 62; (with_reducible refine (r4_Begin.calls a0_3 a0_4 a0_5 true _ A13.out).mono ?_); rintro e w18 ⟨rfl,hb⟩; replace BK194:=bl BK194 hb; replace HB:=bs HB hb; clear hb; obtain ⟨_,_,_,_,_,_,_,_,_,_,_,_,_,_,_,_,_,_,_,_,_,_⟩:=kc11 BK194))
   go_ret
   exact ⟨re,bw HB⟩
  rw [if_neg c15] at H
  obtain ⟨c15b0,c15b1⟩:=bF c15
  obtain rfl:=Zo H
  go_enter Tryd.func41,Tryd.ntmps41
  go_wp2_with (first | ((with_reducible refine Qac (N:=1) rfl ?_); (try (refine Qag (by rfl) ?_; dsimp only)); refine bx 1 #[.int .i64 a0_0, .int .i64 a0_1, .int .i64 a0_2, .int .i64 a0_3, .int .i64 a0_4, .int .i64 a0_5, .string a0_6, .slice A0_7 l0_7.length c0_7, .int .i64 a0_8, .int .i64 a0_9, .int .i64 a0_10] 55 (h := ?_); intro gb194 hg w20 hbox hb; have BK194:=Zz.k (hbox); have GW194:=bz HB hg; have GE194:=bz HB hg; replace HB:=bs HB hb; clear hb hbox hg; obtain ⟨_,_,_,_,_,_,_,_,_,_,_,_,_,_,_,_,_,_,_,_,_,_⟩:=kc11 BK194) | ((with_reducible refine Qab (f:=91) rfl ?_); refine gl (some 10) Tryd.func91 #[.int .i64 a0_0, .int .i64 a0_1] (h := ?_); (with_reducible refine (r4_name.calls a0_0 a0_1 true _ A2.out).mono ?_); rintro e w' ⟨rfl,⟨nd,rfl⟩⟩; refine ⟨_,rfl, ?_⟩) | ((with_reducible refine Qab (f:=91) rfl ?_); refine gl (some 19) Tryd.func91 #[.int .i64 a0_8, .int .i64 a0_9] (h := ?_); (with_reducible refine (r4_name.calls a0_8 a0_9 true _ A5.out).mono ?_); rintro e w' ⟨rfl,⟨nd,rfl⟩⟩; refine ⟨_,rfl, ?_⟩) | (go_at_call 50; (with_reducible refine (r0_Num.calls a0_10 268435456 true _ A11.out).mono ?_); rintro e w' ⟨rfl,⟨nd,rfl⟩⟩) | (go_at_call 62; (with_reducible refine (r4_Begin.calls a0_3 a0_4 a0_5 true _ A13.out).mono ?_); rintro e w22 ⟨rfl,hb⟩; replace BK194:=bl BK194 hb; replace HB:=bs HB hb; clear hb; obtain ⟨_,_,_,_,_,_,_,_,_,_,_,_,_,_,_,_,_,_,_,_,_,_⟩:=kc11 BK194))
  go_ret
  exact ⟨re,bw HB⟩
 rw [if_neg c4] at H
 obtain ⟨c4b0,c4b1⟩:=bF c4
 have HC49:=Zz.k H
 clear H
 go_enter Tryd.func41,Tryd.ntmps41
 go_upto_region 5 with (first | ((with_reducible refine Qac (N:=1) rfl ?_); (try (refine Qag (by rfl) ?_; dsimp only)); refine bx 1 #[.int .i64 a0_0, .int .i64 a0_1, .int .i64 a0_2, .int .i64 a0_3, .int .i64 a0_4, .int .i64 a0_5, .string a0_6, .slice A0_7 l0_7.length c0_7, .int .i64 a0_8, .int .i64 a0_9, .int .i64 a0_10] 55 (h := ?_); intro gb194 hg w50 hbox hb; have BK194:=Zz.k (hbox); have GW194:=bz HB hg; have GE194:=bz HB hg; replace HB:=bs HB hb; clear hb hbox hg; obtain ⟨_,_,_,_,_,_,_,_,_,_,_,_,_,_,_,_,_,_,_,_,_,_⟩:=kc11 BK194) | ((with_reducible refine Qab (f:=91) rfl ?_); refine gl (some 10) Tryd.func91 #[.int .i64 a0_0, .int .i64 a0_1] (h := ?_); (with_reducible refine (r4_name.calls a0_0 a0_1 true _ A2.out).mono ?_); rintro e w' ⟨rfl,⟨nd,rfl⟩⟩; refine ⟨_,rfl, ?_⟩))
 (try simp only [Act.put,List.setIfInBounds_toArray,List.set_cons_zero,List.set_cons_succ])
 go_cut [89] (fun v89 wc => ∃ (kq : Nat) (x89_48 : Bool),v89 = .bool x89_48 /\ Zz (r4_Op.j0 kq x89_48 a0_0 a0_1 a0_2 a0_3 a0_4 a0_5 a0_6 l0_7 a0_8 a0_9 a0_10 = some r) /\ Zz (kq <= k) /\ Zz (wc.heap[gb194]? = some (.cells #[.int .i64 a0_0, .int .i64 a0_1, .int .i64 a0_2, .int .i64 a0_3, .int .i64 a0_4, .int .i64 a0_5, .string a0_6,(.slice A0_7 l0_7.length c0_7), .int .i64 a0_8, .int .i64 a0_9, .int .i64 a0_10] 55 (0,0))) /\ Zz (Below w.heap.size w wc))
 case first =>
  have H:=HC49.out
  clear HC49
  by_cases c52 : a0_2 = 1; rotate_left
  ·rw [if_neg c52] at H
   obtain ⟨c52b0,c52b1⟩:=bF c52
   (first | rw [c52b0] | (simp only [i64_w,i32_w]; rw [c52b0]) | skip)
   have H':=Zz.k H
   clear H
   obtain ⟨_,_,_,_,_,_,_,_,_,_,_,_,_,_,_,_,_,_,_,_,_,_⟩:=kc11 BK194
   go_wp2
   go_meet
   case rel => exact ⟨_,(true),rf,H',⟨by first | omega | exact Nat.le_refl _⟩,⟨kk BK194⟩,⟨bw HB⟩⟩
  as_aux_lemma =>
  rw [if_pos c52] at H
  obtain ⟨c52b0,c52b1⟩:=bT c52
  clear c52
  (first | rw [c52b0] | (simp only [i64_w,i32_w]; rw [c52b0]) | skip)
  by_cases c53 : a0_8 = 0; rotate_left
  ·rw [if_neg c53] at H
   obtain ⟨c53b0,c53b1⟩:=bF c53
   have H':=Zz.k H
   clear H
   obtain ⟨_,_,_,_,_,_,_,_,_,_,_,_,_,_,_,_,_,_,_,_,_,_⟩:=kc11 BK194
   go_wp2
   go_meet
   case rel => exact ⟨_,(true),rf,H',⟨by first | omega | exact Nat.le_refl _⟩,⟨kk BK194⟩,⟨bw HB⟩⟩
  as_aux_lemma =>
  rw [if_pos c53] at H
  obtain ⟨c53b0,c53b1⟩:=bT c53
  clear c53
  by_cases c54 : a0_9 = 0; rotate_left
  ·rw [if_neg c54] at H
   obtain ⟨c54b0,c54b1⟩:=bF c54
   have H':=Zz.k H
   clear H
   obtain ⟨_,_,_,_,_,_,_,_,_,_,_,_,_,_,_,_,_,_,_,_,_,_⟩:=kc11 BK194
   go_wp2
   go_meet
   case rel => exact ⟨_,(true),rf,H',⟨by first | omega | exact Nat.le_refl _⟩,⟨kk BK194⟩,⟨bw HB⟩⟩
  as_aux_lemma =>
  rw [if_pos c54] at H
  obtain ⟨c54b0,c54b1⟩:=bT c54
  clear c54
  by_cases c55 : a0_10 = 0; rotate_left
  ·rw [if_neg c55] at H
   obtain ⟨c55b0,c55b1⟩:=bF c55
   have H':=Zz.k H
   clear H
   obtain ⟨_,_,_,_,_,_,_,_,_,_,_,_,_,_,_,_,_,_,_,_,_,_⟩:=kc11 BK194
   go_wp2
   go_meet
   case rel => exact ⟨_,(true),rf,H',⟨by first | omega | exact Nat.le_refl _⟩,⟨kk BK194⟩,⟨bw HB⟩⟩
  as_aux_lemma =>
  rw [if_pos c55] at H
  obtain ⟨c55b0,c55b1⟩:=bT c55
  clear c55
  by_cases c56 : (l0_7.length : Int) > 200
  ·as_aux_lemma =>
   rw [if_pos c56] at H
   have c56b0:=Zd c56
   have c56b1 : decide (200 < l0_7.length) = true:=Zd (by omega)
   clear c56
   have H':=Zz.k H
   clear H
   obtain ⟨_,_,_,_,_,_,_,_,_,_,_,_,_,_,_,_,_,_,_,_,_,_⟩:=kc11 BK194
   go_wp2
   go_meet
   case rel => exact ⟨_,(true),rf,H',⟨by first | omega | exact Nat.le_refl _⟩,⟨kk BK194⟩,⟨bw HB⟩⟩
  rw [if_neg c56] at H
  have c56b0:=Ze c56
  have c56b1 : decide (200 < l0_7.length) = false:=Ze (by omega)
  clear c56
  by_cases c58 : a0_6.toList = ([] : List UInt8); rotate_left
  ·rw [if_neg c58] at H
   obtain ⟨c58b0,c58b1⟩:=bF c58
   have H':=Zz.k H
   clear H
   obtain ⟨_,_,_,_,_,_,_,_,_,_,_,_,_,_,_,_,_,_,_,_,_,_⟩:=kc11 BK194
   go_wp2
   go_meet
   case rel => exact ⟨_,(false),rf,H',⟨by first | omega | exact Nat.le_refl _⟩,⟨kk BK194⟩,⟨bw HB⟩⟩
  as_aux_lemma =>
  rw [if_pos c58] at H
  obtain ⟨c58b0,c58b1⟩:=bT c58
  clear c58
  have H':=Zz.k H
  clear H
  obtain ⟨_,_,_,_,_,_,_,_,_,_,_,_,_,_,_,_,_,_,_,_,_,_⟩:=kc11 BK194
  go_wp2
  go_meet
  case rel => exact ⟨_,(((l0_7.length : Int) == 0)),rf,H',⟨by first | omega | exact Nat.le_refl _⟩,⟨kk BK194⟩,⟨bw HB⟩⟩
 case rest =>
  clear HC49
  try clear c3; try clear c4; try clear c4b0; try clear c4b1
  obtain ⟨kq,x89_48,rfl,HA,HJ48,BK194,HB⟩:=hcut
  cases kq with
  | zero => exact absurd HA.out (by simp [r4_Op.j0])
  | succ kj48 =>
   have H:=HA.out
   clear HA
   simp only [r4_Op.j0] at H
   by_cases c65 : x89_48 = true
   ·subst c65
    rw [if_pos rfl] at H
    obtain rfl:=Zo H
    go_wp2
    go_ret
    exact ⟨re,bw HB⟩
   replace c65:=Zf c65
   subst c65
   rw [if_neg nft] at H
   obtain ⟨⟨t201,t202⟩,A66,H⟩:=bE H
   try dsimp only at H
   have HC67:=Zz.k H
   clear H
   obtain ⟨_,_,_,_,_,_,_,_,_,_,_,_,_,_,_,_,_,_,_,_,_,_⟩:=kc11 BK194
   go_upto_region 8 with (first | ((with_reducible refine Qab (f:=78) rfl ?_); refine gl (some 93) Tryd.func78 #[.string a0_6] (h := ?_); (with_reducible refine (r1_Runes.calls kj48 a0_6 t201 t202 _ ?side1 A66.out).mono ?_); (case side1 => exact (hT.below (bw HB))); rintro e w69 ⟨v203,rfl,ho0,hb⟩; refine ⟨_,rfl, ?_⟩; have HO204:=Zz.k (Kd.R_lower ho0 (Qao (bw HB))); replace BK194:=bl BK194 hb; replace HB:=bs HB hb; clear hb; clear ho0))
   (try simp only [Act.put,List.setIfInBounds_toArray,List.set_cons_zero,List.set_cons_succ])
   go_cut [125] (fun v125 wc => ∃ (kq : Nat) (x125_66 : Bool),v125 = .bool x125_66 /\ Zz (r4_Op.j1 kq x125_66 a0_0 a0_1 a0_2 a0_3 a0_4 a0_5 a0_6 l0_7 a0_8 a0_9 a0_10 = some r) /\ Zz (kq <= kj48) /\ Zz (wc.heap[gb194]? = some (.cells #[.int .i64 a0_0, .int .i64 a0_1, .int .i64 a0_2, .int .i64 a0_3, .int .i64 a0_4, .int .i64 a0_5, .string a0_6,(.slice A0_7 l0_7.length c0_7), .int .i64 a0_8, .int .i64 a0_9, .int .i64 a0_10] 55 (0,0))) /\ Zz (Below w.heap.size w wc))
   case first =>
    have H:=HC67.out
    clear HC67
    by_cases c70 : t202 = true; rotate_left
    ·replace c70:=Zf c70
     subst c70
     rw [if_neg nft] at H
     have H':=Zz.k H
     clear H
     go_wp2
     go_meet
     case rel => exact ⟨_,(true),rf,H',⟨by have:=HJ48.out; first | omega | exact Nat.le_refl _⟩,⟨kk BK194⟩,⟨bw HB⟩⟩
    as_aux_lemma =>
    subst c70
    rw [if_pos rfl] at H
    by_cases c71 : (t201.length : Int) > 12
    ·as_aux_lemma =>
     rw [if_pos c71] at H
     have c71b0:=Zd c71
     have c71b1 : decide (12 < t201.length) = true:=Zd (by omega)
     clear c71
     (first | rw [c71b0] | (simp only [i64_w,i32_w]; rw [c71b0]) | skip)
     have H':=Zz.k H
     clear H
     obtain ⟨Ao72,co72,eo72⟩:=Kd.R_slice HO204.out
     subst eo72
     go_wp2
     go_meet
     case rel => exact ⟨_,(true),rf,H',⟨by have:=HJ48.out; first | omega | exact Nat.le_refl _⟩,⟨kk BK194⟩,⟨bw HB⟩⟩
    rw [if_neg c71] at H
    have c71b0:=Ze c71
    have c71b1 : decide (12 < t201.length) = false:=Ze (by omega)
    clear c71
    (first | rw [c71b0] | (simp only [i64_w,i32_w]; rw [c71b0]) | skip)
    obtain ⟨t205,A73,H⟩:=bE H
    by_cases c74 : t205 = true; rotate_left
    ·replace c74:=Zf c74
     subst c74
     rw [if_neg nft] at H
     have H':=Zz.k H
     clear H
     obtain ⟨Ao97,co97,eo97⟩:=Kd.R_slice HO204.out
     subst eo97
     obtain ⟨_,_,_,_,_,_,_,_,_,_,_,_,_,_,_,_,_,_,_,_,_,_⟩:=kc11 BK194
     go_wp2_with (first | (go_at_call 53; (with_reducible refine (r4_Elem.calls a0_3 a0_4 a0_5 false _ A73.out).mono ?_); rintro e w99 ⟨rfl,hb⟩; replace HO204:=rb HO204 hb; replace BK194:=bl BK194 hb; replace HB:=bs HB hb; clear hb))
     go_meet
     case rel => exact ⟨_,(true),rf,H',⟨by have:=HJ48.out; first | omega | exact Nat.le_refl _⟩,⟨kk BK194⟩,⟨bw HB⟩⟩
    as_aux_lemma =>
    subst c74
    rw [if_pos rfl] at H
    by_cases c75 : (t201.length : Int) = 0; rotate_left
    ·rw [if_neg c75] at H
     obtain ⟨c75b0,c75b1⟩:=bF c75
     have c75b2 : ¬ (t201 = []):=fun h_ => c75 (by rw [h_]; rfl)
     obtain ⟨t208,A91,H⟩:=bE H
     have H':=Zz.k H
     clear H
     obtain ⟨Ao92,co92,eo92⟩:=Kd.R_slice HO204.out
     subst eo92
     obtain ⟨_,_,_,_,_,_,_,_,_,_,_,_,_,_,_,_,_,_,_,_,_,_⟩:=kc11 BK194
     go_wp2_with (first | (go_at_call 53; (with_reducible refine (r4_Elem.calls a0_3 a0_4 a0_5 true _ A73.out).mono ?_); rintro e w94 ⟨rfl,hb⟩; replace HO204:=rb HO204 hb; replace BK194:=bl BK194 hb; replace HB:=bs HB hb; clear hb; obtain ⟨_,_,_,_,_,_,_,_,_,_,_,_,_,_,_,_,_,_,_,_,_,_⟩:=kc11 BK194) | (go_at_call 92; (with_reducible refine (r4_own.calls a0_0 a0_1 a0_2 a0_3 a0_4 a0_5 a0_6 _ _ l0_7 a0_8 a0_9 a0_10 a0_3 a0_4 a0_5 t208 _ ?side1 ?side2 A91.out).mono ?_); (case side1 => exact cb HR0_7 HB); (case side2 => exact HC0_7.out); rintro e w96 ⟨rfl,hb⟩; replace HO204:=rb HO204 hb; replace BK194:=bl BK194 hb; replace HB:=bs HB hb; clear hb))
     go_meet
     case rel => exact ⟨_,(t208),rf,H',⟨by have:=HJ48.out; first | omega | exact Nat.le_refl _⟩,⟨kk BK194⟩,⟨bw HB⟩⟩
    as_aux_lemma =>
    rw [if_pos c75] at H
    obtain ⟨c75b0,c75b1⟩:=bT c75
    clear c75
    obtain ⟨t206,A76,H⟩:=bE H
    by_cases c77 : t206 = true
    ·as_aux_lemma =>
     subst c77
     rw [if_pos rfl] at H
     obtain ⟨t207,A78,H⟩:=bE H
     have H':=Zz.k H
     clear H
     obtain ⟨Ao79,co79,eo79⟩:=Kd.R_slice HO204.out
     subst eo79
     obtain ⟨_,_,_,_,_,_,_,_,_,_,_,_,_,_,_,_,_,_,_,_,_,_⟩:=kc11 BK194
     go_wp2_with (first | (go_at_call 53; (with_reducible refine (r4_Elem.calls a0_3 a0_4 a0_5 true _ A73.out).mono ?_); rintro e w81 ⟨rfl,hb⟩; replace HO204:=rb HO204 hb; replace BK194:=bl BK194 hb; replace HB:=bs HB hb; clear hb; obtain ⟨_,_,_,_,_,_,_,_,_,_,_,_,_,_,_,_,_,_,_,_,_,_⟩:=kc11 BK194) | (go_at_call 62; (with_reducible refine (r4_Begin.calls a0_3 a0_4 a0_5 true _ A76.out).mono ?_); rintro e w83 ⟨rfl,hb⟩; replace HO204:=rb HO204 hb; replace BK194:=bl BK194 hb; replace HB:=bs HB hb; clear hb; obtain ⟨_,_,_,_,_,_,_,_,_,_,_,_,_,_,_,_,_,_,_,_,_,_⟩:=kc11 BK194) | (go_at_call 92; (with_reducible refine (r4_own.calls a0_0 a0_1 a0_2 a0_3 a0_4 a0_5 a0_6 _ _ l0_7 a0_8 a0_9 a0_10 a0_3 a0_4 a0_5 t207 _ ?side1 ?side2 A78.out).mono ?_); (case side1 => exact cb HR0_7 HB); (case side2 => exact HC0_7.out); rintro e w85 ⟨rfl,hb⟩; replace HO204:=rb HO204 hb; replace BK194:=bl BK194 hb; replace HB:=bs HB hb; clear hb))
     go_meet
     case rel => exact ⟨_,(t207),rf,H',⟨by have:=HJ48.out; first | omega | exact Nat.le_refl _⟩,⟨kk BK194⟩,⟨bw HB⟩⟩
    replace c77:=Zf c77
    subst c77
    rw [if_neg nft] at H
    have H':=Zz.k H
    clear H
    obtain ⟨Ao86,co86,eo86⟩:=Kd.R_slice HO204.out
    subst eo86
    obtain ⟨_,_,_,_,_,_,_,_,_,_,_,_,_,_,_,_,_,_,_,_,_,_⟩:=kc11 BK194
    go_wp2_with (first | (go_at_call 53; (with_reducible refine (r4_Elem.calls a0_3 a0_4 a0_5 true _ A73.out).mono ?_); rintro e w88 ⟨rfl,hb⟩; replace HO204:=rb HO204 hb; replace BK194:=bl BK194 hb; replace HB:=bs HB hb; clear hb; obtain ⟨_,_,_,_,_,_,_,_,_,_,_,_,_,_,_,_,_,_,_,_,_,_⟩:=kc11 BK194) | (go_at_call 62; (with_reducible refine (r4_Begin.calls a0_3 a0_4 a0_5 false _ A76.out).mono ?_); rintro e w90 ⟨rfl,hb⟩; replace HO204:=rb HO204 hb; replace BK194:=bl BK194 hb; replace HB:=bs HB hb; clear hb))
    go_meet
    case rel => exact ⟨_,(true),rf,H',⟨by have:=HJ48.out; first | omega | exact Nat.le_refl _⟩,⟨kk BK194⟩,⟨bw HB⟩⟩
   case rest =>
    clear HC67
    try clear c65
    obtain ⟨kq,x125_66,rfl,HA,HJ66,BK194,HB⟩:=hcut
    cases kq with
    | zero => exact absurd HA.out (by simp [r4_Op.j1])
    | succ kj66 =>
     have H:=HA.out
     clear HA
     simp only [r4_Op.j1] at H
     by_cases c100 : x125_66 = true
     ·subst c100
      rw [if_pos rfl] at H
      obtain rfl:=Zo H
      go_wp2
      go_ret
      exact ⟨re,bw HB⟩
     replace c100:=Zf c100
     subst c100
     rw [if_neg nft] at H
     have H':=Zz.k H
     clear H
     go_wp2
     go_loopg [5] kj66 (fun kq v5 w' => ∃ (x5_3 : Int),v5 = .int .i64 x5_3 /\ Zz (r4_Op.l0 kq x5_3 a0_0 a0_1 a0_2 a0_3 a0_4 a0_5 a0_6 l0_7 a0_8 a0_9 a0_10 = some r) /\ Zz (kq <= kj66) /\ Zz (w'.heap[gb194]? = some (.cells #[.int .i64 a0_0, .int .i64 a0_1, .int .i64 a0_2, .int .i64 a0_3, .int .i64 a0_4, .int .i64 a0_5, .string a0_6,(.slice A0_7 l0_7.length c0_7), .int .i64 a0_8, .int .i64 a0_9, .int .i64 a0_10] 55 (0,0))) /\ Zz (Below w.heap.size w w'))
     case atStart => exact ⟨(0),rf,H',⟨Nat.le_refl _⟩,⟨kk BK194⟩,⟨bw HB⟩⟩
     case round =>
      clear H'
      try clear c100
      obtain ⟨x5_3,rfl,HA,HK3,BK194,HB⟩:=hrel
      cases gk with
      | zero => exact absurd HA.out (by simp [r4_Op.l0])
      | succ k3 =>
       have H:=HA.out
       clear HA
       simp only [r4_Op.l0] at H
       by_cases c101 : x5_3 < (l0_7.length : Int); rotate_left
       ·rw [if_neg c101] at H
        have c101b0:=Ze c101
        clear c101
        obtain rfl:=Zo H
        obtain ⟨_,_,_,_,_,_,_,_,_,_,_,_,_,_,_,_,_,_,_,_,_,_⟩:=kc11 BK194
        go_wp2
        go_ret
        exact ⟨re,bw HB⟩
       as_aux_lemma =>
       rw [if_pos c101] at H
       have c101b0:=Zd c101
       clear c101
       by_cases c102 : 0 <= x5_3; rotate_left
       ·rw [if_neg c102] at H
        exact absurd H (by simp)
       as_aux_lemma =>
       rw [if_pos c102] at H
       have c102b0:=Zd c102
       clear c102
       obtain ⟨t210,A103,H⟩:=bE H
       by_cases c104 : t210 = true
       ·as_aux_lemma =>
        subst c104
        rw [if_pos rfl] at H
        obtain rfl:=Zo H
        obtain ⟨_,_,_,_,_,_,_,_,_,_,_,_,_,_,_,_,_,_,_,_,_,_⟩:=kc11 BK194
        try go_wp2
        have n0_:=Zz.k (Qal BK194.out)
        have n1_:=Zz.k (Qai HB.out)
        clear BK194
        clear HB
        have BK194:=n0_
        have HB:=n1_
        clear n0_ n1_
        have p209 : 0 <= (x5_3 : Int):=od
        have q209 : x5_3 < (l0_7.length : Int):=od
        obtain ⟨ad209,e209,hx209_0,hx209_1,hx209_2⟩:=Qat HR0_7.out x5_3 p209 q209
        have hw209_2:=hx209_2
        have hw209_1:=hx209_1
        have hw209_0:=hx209_0
        cases e209
        replace hx209_0:=cl HB hx209_0
        replace hx209_1:=cl HB hx209_1
        replace hx209_2:=cl HB hx209_2
        replace p209:=eq_true p209
        replace q209:=eq_true q209
        refine stP (fun w' => B11 w' gb194 (.int .i64 a0_0) (.int .i64 a0_1) (.int .i64 a0_2) (.int .i64 a0_3) (.int .i64 a0_4) (.int .i64 a0_5) (.string a0_6) (.slice (some ad209) l0_7.length c0_7) (.int .i64 a0_8) (.int .i64 a0_9) (.int .i64 a0_10) (w'.cell? (ad209.add ((x5_3).toNat * 3)) = some (.int .i64 ((Qaa l0_7 x5_3).f0)) /\ w'.cell? ⟨(ad209.add ((x5_3).toNat * 3)).block,(ad209.add ((x5_3).toNat * 3)).off + 1,none⟩ = some (.int .i64 ((Qaa l0_7 x5_3).f1)) /\ w'.cell? ⟨(ad209.add ((x5_3).toNat * 3)).block,(ad209.add ((x5_3).toNat * 3)).off + 2,none⟩ = some (.int .i64 ((Qaa l0_7 x5_3).f2)))) 43 (b11 BK194 ⟨(cW HB hw209_0),(cW HB hw209_1),(cW HB hw209_2)⟩) (h:=fun hHeld => ?_); refine Qbe r4_Op.tab13 r4_Op.bits13 (fun HT_ HW_ => ?_)
        generalize wr.drew = w106 at BK194 HB hx209_0 hx209_1 hx209_2 hHeld ⊢
        refine pu HT_ 0 133 1 (h := ?_)
        refine pu HT_ 2 135 5 (h := ?_)
        refine tk HT_ HW_ hHeld 1 134 7 (h := ?_)
        refine pu HT_ 3 136 15 (h := ?_)
        refine tk HT_ HW_ hHeld 4 137 31 (h := ?_)
        refine on HT_ 5 (some 138) 63 (h:=fun K hK => ?_)
        refine gS Tryd.func62 #[.agg #[.int .i64 ((Qaa l0_7 x5_3).f0), .int .i64 ((Qaa l0_7 x5_3).f1), .int .i64 ((Qaa l0_7 x5_3).f2)]] (h := ?_)
        with_reducible refine (r4_Begin.calls ((Qaa l0_7 x5_3).f0) ((Qaa l0_7 x5_3).f1) ((Qaa l0_7 x5_3).f2) true _ A103.out).mono ?_
        rintro e w107 ⟨rfl,hb⟩
        refine ⟨_,rfl, ?_⟩
        have n0_:=bl BK194 hb
        have n1_:=bs HB hb
        clear BK194
        clear HB
        have BK194:=n0_
        have HB:=n1_
        clear n0_ n1_
        (try clear hb)
        (try clear hb2)
        (try clear hk)
        (try clear hi)
        refine hK.out _ _ (b11 BK194 ⟨(cW HB hw209_0),(cW HB hw209_1),(cW HB hw209_2)⟩) (fun hHeld => ?_)
        clear hK K
        refine nn 138 (h := ?_)
        refine pu HT_ 6 139 127 (h := ?_)
        refine off HT_ 7 140 255 (h := ?_)
        refine off HT_ 8 141 511 (h := ?_)
        refine off HT_ 9 142 1023 (h := ?_)
        refine off HT_ 10 143 2047 (h := ?_)
        refine off HT_ 11 144 4095 (h := ?_)
        refine off HT_ 12 145 8191 (h := ?_)
        refine off HT_ 13 146 16383 (h := ?_)
        refine pu HT_ 14 147 32767 (h := ?_)
        refine pu HT_ 15 148 65535 (h := ?_)
        refine off HT_ 16 149 131071 (h := ?_)
        refine off HT_ 17 150 262143 (h := ?_)
        refine off HT_ 18 151 524287 (h := ?_)
        refine off HT_ 19 152 1048575 (h := ?_)
        refine off HT_ 20 153 2097151 (h := ?_)
        refine off HT_ 21 154 4194303 (h := ?_)
        refine off HT_ 22 155 8388607 (h := ?_)
        refine pu HT_ 23 156 16777215 (h := ?_)
        refine pu HT_ 24 157 33554431 (h := ?_)
        refine off HT_ 25 158 67108863 (h := ?_)
        refine off HT_ 26 159 134217727 (h := ?_)
        refine off HT_ 27 160 268435455 (h := ?_)
        refine off HT_ 28 161 536870911 (h := ?_)
        refine off HT_ 29 162 1073741823 (h := ?_)
        refine off HT_ 30 163 2147483647 (h := ?_)
        refine off HT_ 31 164 4294967295 (h := ?_)
        refine off HT_ 32 165 8589934591 (h := ?_)
        refine off HT_ 33 166 17179869183 (h := ?_)
        refine off HT_ 34 167 34359738367 (h := ?_)
        refine off HT_ 35 168 68719476735 (h := ?_)
        refine off HT_ 36 169 137438953471 (h := ?_)
        refine off HT_ 37 170 274877906943 (h := ?_)
        refine off HT_ 38 171 549755813887 (h := ?_)
        refine off HT_ 39 172 1099511627775 (h := ?_)
        refine off HT_ 40 173 2199023255551 (h := ?_)
        refine off HT_ 41 174 4398046511103 (h := ?_)
        refine pu HT_ 42 175 8796093022207 (h := ?_)
        refine dn HT_ (h := ?_)
        try go_wp2
        go_ret
        exact ⟨re,bw HB⟩
       replace c104:=Zf c104
       subst c104
       rw [if_neg nft] at H
       obtain ⟨t212,A108,H⟩:=bE H
       by_cases c109 : t212 = true; rotate_left
       ·replace c109:=Zf c109
        subst c109
        rw [if_neg nft] at H
        obtain rfl:=Zo H
        obtain ⟨_,_,_,_,_,_,_,_,_,_,_,_,_,_,_,_,_,_,_,_,_,_⟩:=kc11 BK194
        try go_wp2
        have n0_:=Zz.k (Qal BK194.out)
        have n1_:=Zz.k (Qai HB.out)
        clear BK194
        clear HB
        have BK194:=n0_
        have HB:=n1_
        clear n0_ n1_
        have p209 : 0 <= (x5_3 : Int):=od
        have q209 : x5_3 < (l0_7.length : Int):=od
        obtain ⟨ad209,e209,hx209_0,hx209_1,hx209_2⟩:=Qat HR0_7.out x5_3 p209 q209
        have hw209_2:=hx209_2
        have hw209_1:=hx209_1
        have hw209_0:=hx209_0
        cases e209
        replace hx209_0:=cl HB hx209_0
        replace hx209_1:=cl HB hx209_1
        replace hx209_2:=cl HB hx209_2
        replace p209:=eq_true p209
        replace q209:=eq_true q209
        refine stP (fun w' => B11 w' gb194 (.int .i64 a0_0) (.int .i64 a0_1) (.int .i64 a0_2) (.int .i64 a0_3) (.int .i64 a0_4) (.int .i64 a0_5) (.string a0_6) (.slice (some ad209) l0_7.length c0_7) (.int .i64 a0_8) (.int .i64 a0_9) (.int .i64 a0_10) (w'.cell? (ad209.add ((x5_3).toNat * 3)) = some (.int .i64 ((Qaa l0_7 x5_3).f0)) /\ w'.cell? ⟨(ad209.add ((x5_3).toNat * 3)).block,(ad209.add ((x5_3).toNat * 3)).off + 1,none⟩ = some (.int .i64 ((Qaa l0_7 x5_3).f1)) /\ w'.cell? ⟨(ad209.add ((x5_3).toNat * 3)).block,(ad209.add ((x5_3).toNat * 3)).off + 2,none⟩ = some (.int .i64 ((Qaa l0_7 x5_3).f2)))) 43 (b11 BK194 ⟨(cW HB hw209_0),(cW HB hw209_1),(cW HB hw209_2)⟩) (h:=fun hHeld => ?_); refine Qbe r4_Op.tab13 r4_Op.bits13 (fun HT_ HW_ => ?_)
        generalize wr.drew = w141 at BK194 HB hx209_0 hx209_1 hx209_2 hx209_0 hx209_1 hx209_2 hHeld ⊢
        refine pu HT_ 0 133 1 (h := ?_)
        refine pu HT_ 2 135 5 (h := ?_)
        refine tk HT_ HW_ hHeld 1 134 7 (h := ?_)
        refine pu HT_ 3 136 15 (h := ?_)
        refine tk HT_ HW_ hHeld 4 137 31 (h := ?_)
        refine on HT_ 5 (some 138) 63 (h:=fun K hK => ?_)
        refine gS Tryd.func62 #[.agg #[.int .i64 ((Qaa l0_7 x5_3).f0), .int .i64 ((Qaa l0_7 x5_3).f1), .int .i64 ((Qaa l0_7 x5_3).f2)]] (h := ?_)
        with_reducible refine (r4_Begin.calls ((Qaa l0_7 x5_3).f0) ((Qaa l0_7 x5_3).f1) ((Qaa l0_7 x5_3).f2) false _ A103.out).mono ?_
        rintro e w142 ⟨rfl,hb⟩
        refine ⟨_,rfl, ?_⟩
        have n0_:=bl BK194 hb
        have n1_:=bs HB hb
        clear BK194
        clear HB
        have BK194:=n0_
        have HB:=n1_
        clear n0_ n1_
        (try clear hb)
        (try clear hb2)
        (try clear hk)
        (try clear hi)
        refine hK.out _ _ (b11 BK194 ⟨(cW HB hw209_0),(cW HB hw209_1),(cW HB hw209_2)⟩) (fun hHeld => ?_)
        clear hK K
        refine nn 138 (h := ?_)
        refine pu HT_ 6 139 127 (h := ?_)
        refine pu HT_ 7 140 255 (h := ?_)
        refine pu HT_ 9 142 767 (h := ?_)
        refine tk HT_ HW_ hHeld 8 141 1023 (h := ?_)
        refine pu HT_ 10 143 2047 (h := ?_)
        refine tk HT_ HW_ hHeld 11 144 4095 (h := ?_)
        refine on HT_ 12 (some 145) 8191 (h:=fun K hK => ?_)
        refine gS Tryd.func53 #[.agg #[.int .i64 ((Qaa l0_7 x5_3).f0), .int .i64 ((Qaa l0_7 x5_3).f1), .int .i64 ((Qaa l0_7 x5_3).f2)]] (h := ?_)
        with_reducible refine (r4_Elem.calls ((Qaa l0_7 x5_3).f0) ((Qaa l0_7 x5_3).f1) ((Qaa l0_7 x5_3).f2) false _ A108.out).mono ?_
        rintro e w143 ⟨rfl,hb⟩
        refine ⟨_,rfl, ?_⟩
        have n0_:=bl BK194 hb
        have n1_:=bs HB hb
        clear BK194
        clear HB
        have BK194:=n0_
        have HB:=n1_
        clear n0_ n1_
        (try clear hb)
        (try clear hb2)
        (try clear hk)
        (try clear hi)
        refine hK.out _ _ (b11 BK194 ⟨(cW HB hw209_0),(cW HB hw209_1),(cW HB hw209_2)⟩) (fun hHeld => ?_)
        clear hK K
        refine nn 145 (h := ?_)
        refine pu HT_ 13 146 16383 (h := ?_)
        refine pu HT_ 14 147 32767 (h := ?_)
        refine pu HT_ 15 148 65535 (h := ?_)
        refine off HT_ 16 149 131071 (h := ?_)
        refine off HT_ 17 150 262143 (h := ?_)
        refine off HT_ 18 151 524287 (h := ?_)
        refine off HT_ 19 152 1048575 (h := ?_)
        refine off HT_ 20 153 2097151 (h := ?_)
        refine off HT_ 21 154 4194303 (h := ?_)
        refine off HT_ 22 155 8388607 (h := ?_)
        refine pu HT_ 23 156 16777215 (h := ?_)
        refine pu HT_ 24 157 33554431 (h := ?_)
        refine off HT_ 25 158 67108863 (h := ?_)
        refine off HT_ 26 159 134217727 (h := ?_)
        refine off HT_ 27 160 268435455 (h := ?_)
        refine off HT_ 28 161 536870911 (h := ?_)
        refine off HT_ 29 162 1073741823 (h := ?_)
        refine off HT_ 30 163 2147483647 (h := ?_)
        refine off HT_ 31 164 4294967295 (h := ?_)
        refine off HT_ 32 165 8589934591 (h := ?_)
        refine off HT_ 33 166 17179869183 (h := ?_)
        refine off HT_ 34 167 34359738367 (h := ?_)
        refine off HT_ 35 168 68719476735 (h := ?_)
        refine off HT_ 36 169 137438953471 (h := ?_)
        refine off HT_ 37 170 274877906943 (h := ?_)
        refine off HT_ 38 171 549755813887 (h := ?_)
        refine off HT_ 39 172 1099511627775 (h := ?_)
        refine off HT_ 40 173 2199023255551 (h := ?_)
        refine off HT_ 41 174 4398046511103 (h := ?_)
        refine pu HT_ 42 175 8796093022207 (h := ?_)
        refine dn HT_ (h := ?_)
        try go_wp2
        go_ret
        exact ⟨re,bw HB⟩
       as_aux_lemma =>
       subst c109
       rw [if_pos rfl] at H
       obtain ⟨t214,A110,H⟩:=bE H
       by_cases c111 : t214 = true
       ·as_aux_lemma =>
        subst c111
        rw [if_pos rfl] at H
        obtain rfl:=Zo H
        obtain ⟨_,_,_,_,_,_,_,_,_,_,_,_,_,_,_,_,_,_,_,_,_,_⟩:=kc11 BK194
        try go_wp2
        have n0_:=Zz.k (Qal BK194.out)
        have n1_:=Zz.k (Qai HB.out)
        clear BK194
        clear HB
        have BK194:=n0_
        have HB:=n1_
        clear n0_ n1_
        have p209 : 0 <= (x5_3 : Int):=od
        have q209 : x5_3 < (l0_7.length : Int):=od
        obtain ⟨ad209,e209,hx209_0,hx209_1,hx209_2⟩:=Qat HR0_7.out x5_3 p209 q209
        have hw209_2:=hx209_2
        have hw209_1:=hx209_1
        have hw209_0:=hx209_0
        cases e209
        replace hx209_0:=cl HB hx209_0
        replace hx209_1:=cl HB hx209_1
        replace hx209_2:=cl HB hx209_2
        replace p209:=eq_true p209
        replace q209:=eq_true q209
        refine stP (fun w' => B11 w' gb194 (.int .i64 a0_0) (.int .i64 a0_1) (.int .i64 a0_2) (.int .i64 a0_3) (.int .i64 a0_4) (.int .i64 a0_5) (.string a0_6) (.slice (some ad209) l0_7.length c0_7) (.int .i64 a0_8) (.int .i64 a0_9) (.int .i64 a0_10) (w'.cell? (ad209.add ((x5_3).toNat * 3)) = some (.int .i64 ((Qaa l0_7 x5_3).f0)) /\ w'.cell? ⟨(ad209.add ((x5_3).toNat * 3)).block,(ad209.add ((x5_3).toNat * 3)).off + 1,none⟩ = some (.int .i64 ((Qaa l0_7 x5_3).f1)) /\ w'.cell? ⟨(ad209.add ((x5_3).toNat * 3)).block,(ad209.add ((x5_3).toNat * 3)).off + 2,none⟩ = some (.int .i64 ((Qaa l0_7 x5_3).f2)))) 43 (b11 BK194 ⟨(cW HB hw209_0),(cW HB hw209_1),(cW HB hw209_2)⟩) (h:=fun hHeld => ?_); refine Qbe r4_Op.tab13 r4_Op.bits13 (fun HT_ HW_ => ?_)
        generalize wr.drew = w113 at BK194 HB hx209_0 hx209_1 hx209_2 hx209_0 hx209_1 hx209_2 hx209_0 hx209_1 hx209_2 hHeld ⊢
        refine pu HT_ 0 133 1 (h := ?_)
        refine pu HT_ 2 135 5 (h := ?_)
        refine tk HT_ HW_ hHeld 1 134 7 (h := ?_)
        refine pu HT_ 3 136 15 (h := ?_)
        refine tk HT_ HW_ hHeld 4 137 31 (h := ?_)
        refine on HT_ 5 (some 138) 63 (h:=fun K hK => ?_)
        refine gS Tryd.func62 #[.agg #[.int .i64 ((Qaa l0_7 x5_3).f0), .int .i64 ((Qaa l0_7 x5_3).f1), .int .i64 ((Qaa l0_7 x5_3).f2)]] (h := ?_)
        with_reducible refine (r4_Begin.calls ((Qaa l0_7 x5_3).f0) ((Qaa l0_7 x5_3).f1) ((Qaa l0_7 x5_3).f2) false _ A103.out).mono ?_
        rintro e w114 ⟨rfl,hb⟩
        refine ⟨_,rfl, ?_⟩
        have n0_:=bl BK194 hb
        have n1_:=bs HB hb
        clear BK194
        clear HB
        have BK194:=n0_
        have HB:=n1_
        clear n0_ n1_
        (try clear hb)
        (try clear hb2)
        (try clear hk)
        (try clear hi)
        refine hK.out _ _ (b11 BK194 ⟨(cW HB hw209_0),(cW HB hw209_1),(cW HB hw209_2)⟩) (fun hHeld => ?_)
        clear hK K
        refine nn 138 (h := ?_)
        refine pu HT_ 6 139 127 (h := ?_)
        refine pu HT_ 7 140 255 (h := ?_)
        refine pu HT_ 9 142 767 (h := ?_)
        refine tk HT_ HW_ hHeld 8 141 1023 (h := ?_)
        refine pu HT_ 10 143 2047 (h := ?_)
        refine tk HT_ HW_ hHeld 11 144 4095 (h := ?_)
        refine on HT_ 12 (some 145) 8191 (h:=fun K hK => ?_)
        refine gS Tryd.func53 #[.agg #[.int .i64 ((Qaa l0_7 x5_3).f0), .int .i64 ((Qaa l0_7 x5_3).f1), .int .i64 ((Qaa l0_7 x5_3).f2)]] (h := ?_)
        with_reducible refine (r4_Elem.calls ((Qaa l0_7 x5_3).f0) ((Qaa l0_7 x5_3).f1) ((Qaa l0_7 x5_3).f2) true _ A108.out).mono ?_
        rintro e w115 ⟨rfl,hb⟩
        refine ⟨_,rfl, ?_⟩
        have n0_:=bl BK194 hb
        have n1_:=bs HB hb
        clear BK194
        clear HB
        have BK194:=n0_
        have HB:=n1_
        clear n0_ n1_
        (try clear hb)
        (try clear hb2)
        (try clear hk)
        (try clear hi)
        refine hK.out _ _ (b11 BK194 ⟨(cW HB hw209_0),(cW HB hw209_1),(cW HB hw209_2)⟩) (fun hHeld => ?_)
        clear hK K
        refine nn 145 (h := ?_)
        refine pu HT_ 13 146 16383 (h := ?_)
        refine pu HT_ 14 147 32767 (h := ?_)
        refine pu HT_ 15 148 65535 (h := ?_)
        refine pu HT_ 17 150 196607 (h := ?_)
        refine pu HT_ 19 152 720895 (h := ?_)
        refine tk HT_ HW_ hHeld 16 149 786431 (h := ?_)
        refine tk HT_ HW_ hHeld 18 151 1048575 (h := ?_)
        refine pu HT_ 20 153 2097151 (h := ?_)
        refine tk HT_ HW_ hHeld 21 154 4194303 (h := ?_)
        refine on HT_ 22 (some 155) 8388607 (h:=fun K hK => ?_)
        refine gS Tryd.func92 #[.agg #[.int .i64 a0_0, .int .i64 a0_1, .int .i64 a0_2, .int .i64 a0_3, .int .i64 a0_4, .int .i64 a0_5, .string a0_6, .slice (some ad209) l0_7.length c0_7, .int .i64 a0_8, .int .i64 a0_9, .int .i64 a0_10], .agg #[.int .i64 ((Qaa l0_7 x5_3).f0), .int .i64 ((Qaa l0_7 x5_3).f1), .int .i64 ((Qaa l0_7 x5_3).f2)]] (h := ?_)
        with_reducible refine (r4_own.calls a0_0 a0_1 a0_2 a0_3 a0_4 a0_5 a0_6 _ _ l0_7 a0_8 a0_9 a0_10 ((Qaa l0_7 x5_3).f0) ((Qaa l0_7 x5_3).f1) ((Qaa l0_7 x5_3).f2) true _ ?side1 ?side2 A110.out).mono ?_
        (case side1 => exact cb HR0_7 HB)
        (case side2 => exact HC0_7.out)
        rintro e w116 ⟨rfl,hb⟩
        refine ⟨_,rfl, ?_⟩
        have n0_:=bl BK194 hb
        have n1_:=bs HB hb
        clear BK194
        clear HB
        have BK194:=n0_
        have HB:=n1_
        clear n0_ n1_
        (try clear hb)
        (try clear hb2)
        (try clear hk)
        (try clear hi)
        refine hK.out _ _ (b11 BK194 ⟨(cW HB hw209_0),(cW HB hw209_1),(cW HB hw209_2)⟩) (fun hHeld => ?_)
        clear hK K
        refine nn 155 (h := ?_)
        refine pu HT_ 23 156 16777215 (h := ?_)
        refine pu HT_ 24 157 33554431 (h := ?_)
        refine off HT_ 25 158 67108863 (h := ?_)
        refine off HT_ 26 159 134217727 (h := ?_)
        refine off HT_ 27 160 268435455 (h := ?_)
        refine off HT_ 28 161 536870911 (h := ?_)
        refine off HT_ 29 162 1073741823 (h := ?_)
        refine off HT_ 30 163 2147483647 (h := ?_)
        refine off HT_ 31 164 4294967295 (h := ?_)
        refine off HT_ 32 165 8589934591 (h := ?_)
        refine off HT_ 33 166 17179869183 (h := ?_)
        refine off HT_ 34 167 34359738367 (h := ?_)
        refine off HT_ 35 168 68719476735 (h := ?_)
        refine off HT_ 36 169 137438953471 (h := ?_)
        refine off HT_ 37 170 274877906943 (h := ?_)
        refine off HT_ 38 171 549755813887 (h := ?_)
        refine off HT_ 39 172 1099511627775 (h := ?_)
        refine off HT_ 40 173 2199023255551 (h := ?_)
        refine off HT_ 41 174 4398046511103 (h := ?_)
        refine pu HT_ 42 175 8796093022207 (h := ?_)
        refine dn HT_ (h := ?_)
        try go_wp2
        go_ret
        exact ⟨re,bw HB⟩
       replace c111:=Zf c111
       subst c111
       rw [if_neg nft] at H
       by_cases c117 : x5_3 > 0; rotate_left
       ·rw [if_neg c117] at H
        have c117b0:=Ze c117
        clear c117
        have H':=Zz.k H
        clear H
        obtain ⟨_,_,_,_,_,_,_,_,_,_,_,_,_,_,_,_,_,_,_,_,_,_⟩:=kc11 BK194
        try go_wp2
        have n0_:=Zz.k (Qal BK194.out)
        have n1_:=Zz.k (Qai HB.out)
        clear BK194
        clear HB
        have BK194:=n0_
        have HB:=n1_
        clear n0_ n1_
        have p209 : 0 <= (x5_3 : Int):=od
        have q209 : x5_3 < (l0_7.length : Int):=od
        obtain ⟨ad209,e209,hx209_0,hx209_1,hx209_2⟩:=Qat HR0_7.out x5_3 p209 q209
        have hw209_2:=hx209_2
        have hw209_1:=hx209_1
        have hw209_0:=hx209_0
        cases e209
        replace hx209_0:=cl HB hx209_0
        replace hx209_1:=cl HB hx209_1
        replace hx209_2:=cl HB hx209_2
        replace p209:=eq_true p209
        replace q209:=eq_true q209
        refine stP (fun w' => B11 w' gb194 (.int .i64 a0_0) (.int .i64 a0_1) (.int .i64 a0_2) (.int .i64 a0_3) (.int .i64 a0_4) (.int .i64 a0_5) (.string a0_6) (.slice (some ad209) l0_7.length c0_7) (.int .i64 a0_8) (.int .i64 a0_9) (.int .i64 a0_10) (w'.cell? (ad209.add ((x5_3).toNat * 3)) = some (.int .i64 ((Qaa l0_7 x5_3).f0)) /\ w'.cell? ⟨(ad209.add ((x5_3).toNat * 3)).block,(ad209.add ((x5_3).toNat * 3)).off + 1,none⟩ = some (.int .i64 ((Qaa l0_7 x5_3).f1)) /\ w'.cell? ⟨(ad209.add ((x5_3).toNat * 3)).block,(ad209.add ((x5_3).toNat * 3)).off + 2,none⟩ = some (.int .i64 ((Qaa l0_7 x5_3).f2)))) 43 (b11 BK194 ⟨(cW HB hw209_0),(cW HB hw209_1),(cW HB hw209_2)⟩) (h:=fun hHeld => ?_); refine Qbe r4_Op.tab13 r4_Op.bits13 (fun HT_ HW_ => ?_)
        generalize wr.drew = w136 at BK194 HB hx209_0 hx209_1 hx209_2 hx209_0 hx209_1 hx209_2 hx209_0 hx209_1 hx209_2 hHeld ⊢
        refine pu HT_ 0 133 1 (h := ?_)
        refine pu HT_ 2 135 5 (h := ?_)
        refine tk HT_ HW_ hHeld 1 134 7 (h := ?_)
        refine pu HT_ 3 136 15 (h := ?_)
        refine tk HT_ HW_ hHeld 4 137 31 (h := ?_)
        refine on HT_ 5 (some 138) 63 (h:=fun K hK => ?_)
        refine gS Tryd.func62 #[.agg #[.int .i64 ((Qaa l0_7 x5_3).f0), .int .i64 ((Qaa l0_7 x5_3).f1), .int .i64 ((Qaa l0_7 x5_3).f2)]] (h := ?_)
        with_reducible refine (r4_Begin.calls ((Qaa l0_7 x5_3).f0) ((Qaa l0_7 x5_3).f1) ((Qaa l0_7 x5_3).f2) false _ A103.out).mono ?_
        rintro e w137 ⟨rfl,hb⟩
        refine ⟨_,rfl, ?_⟩
        have n0_:=bl BK194 hb
        have n1_:=bs HB hb
        clear BK194
        clear HB
        have BK194:=n0_
        have HB:=n1_
        clear n0_ n1_
        (try clear hb)
        (try clear hb2)
        (try clear hk)
        (try clear hi)
        refine hK.out _ _ (b11 BK194 ⟨(cW HB hw209_0),(cW HB hw209_1),(cW HB hw209_2)⟩) (fun hHeld => ?_)
        clear hK K
        refine nn 138 (h := ?_)
        refine pu HT_ 6 139 127 (h := ?_)
        refine pu HT_ 7 140 255 (h := ?_)
        refine pu HT_ 9 142 767 (h := ?_)
        refine tk HT_ HW_ hHeld 8 141 1023 (h := ?_)
        refine pu HT_ 10 143 2047 (h := ?_)
        refine tk HT_ HW_ hHeld 11 144 4095 (h := ?_)
        refine on HT_ 12 (some 145) 8191 (h:=fun K hK => ?_)
        refine gS Tryd.func53 #[.agg #[.int .i64 ((Qaa l0_7 x5_3).f0), .int .i64 ((Qaa l0_7 x5_3).f1), .int .i64 ((Qaa l0_7 x5_3).f2)]] (h := ?_)
        with_reducible refine (r4_Elem.calls ((Qaa l0_7 x5_3).f0) ((Qaa l0_7 x5_3).f1) ((Qaa l0_7 x5_3).f2) true _ A108.out).mono ?_
        rintro e w138 ⟨rfl,hb⟩
        refine ⟨_,rfl, ?_⟩
        have n0_:=bl BK194 hb
        have n1_:=bs HB hb
        clear BK194
        clear HB
        have BK194:=n0_
        have HB:=n1_
        clear n0_ n1_
        (try clear hb)
        (try clear hb2)
        (try clear hk)
        (try clear hi)
        refine hK.out _ _ (b11 BK194 ⟨(cW HB hw209_0),(cW HB hw209_1),(cW HB hw209_2)⟩) (fun hHeld => ?_)
        clear hK K
        refine nn 145 (h := ?_)
        refine pu HT_ 13 146 16383 (h := ?_)
        refine pu HT_ 14 147 32767 (h := ?_)
        refine pu HT_ 15 148 65535 (h := ?_)
        refine pu HT_ 17 150 196607 (h := ?_)
        refine pu HT_ 19 152 720895 (h := ?_)
        refine tk HT_ HW_ hHeld 16 149 786431 (h := ?_)
        refine tk HT_ HW_ hHeld 18 151 1048575 (h := ?_)
        refine pu HT_ 20 153 2097151 (h := ?_)
        refine tk HT_ HW_ hHeld 21 154 4194303 (h := ?_)
        refine on HT_ 22 (some 155) 8388607 (h:=fun K hK => ?_)
        refine gS Tryd.func92 #[.agg #[.int .i64 a0_0, .int .i64 a0_1, .int .i64 a0_2, .int .i64 a0_3, .int .i64 a0_4, .int .i64 a0_5, .string a0_6, .slice (some ad209) l0_7.length c0_7, .int .i64 a0_8, .int .i64 a0_9, .int .i64 a0_10], .agg #[.int .i64 ((Qaa l0_7 x5_3).f0), .int .i64 ((Qaa l0_7 x5_3).f1), .int .i64 ((Qaa l0_7 x5_3).f2)]] (h := ?_)
        with_reducible refine (r4_own.calls a0_0 a0_1 a0_2 a0_3 a0_4 a0_5 a0_6 _ _ l0_7 a0_8 a0_9 a0_10 ((Qaa l0_7 x5_3).f0) ((Qaa l0_7 x5_3).f1) ((Qaa l0_7 x5_3).f2) false _ ?side1 ?side2 A110.out).mono ?_
        (case side1 => exact cb HR0_7 HB)
        (case side2 => exact HC0_7.out)
        rintro e w139 ⟨rfl,hb⟩
        refine ⟨_,rfl, ?_⟩
        have n0_:=bl BK194 hb
        have n1_:=bs HB hb
        clear BK194
        clear HB
        have BK194:=n0_
        have HB:=n1_
        clear n0_ n1_
        (try clear hb)
        (try clear hb2)
        (try clear hk)
        (try clear hi)
        refine hK.out _ _ (b11 BK194 ⟨(cW HB hw209_0),(cW HB hw209_1),(cW HB hw209_2)⟩) (fun hHeld => ?_)
        clear hK K
        refine nn 155 (h := ?_)
        refine pu HT_ 23 156 16777215 (h := ?_)
        refine pu HT_ 24 157 33554431 (h := ?_)
        refine pu HT_ 25 158 67108863 (h := ?_)
        refine pu HT_ 26 159 134217727 (h := ?_)
        refine pu HT_ 27 160 268435455 (h := ?_)
        refine off HT_ 28 161 536870911 (h := ?_)
        refine off HT_ 29 162 1073741823 (h := ?_)
        refine off HT_ 30 163 2147483647 (h := ?_)
        refine off HT_ 31 164 4294967295 (h := ?_)
        refine off HT_ 32 165 8589934591 (h := ?_)
        refine off HT_ 33 166 17179869183 (h := ?_)
        refine off HT_ 34 167 34359738367 (h := ?_)
        refine off HT_ 35 168 68719476735 (h := ?_)
        refine off HT_ 36 169 137438953471 (h := ?_)
        refine off HT_ 37 170 274877906943 (h := ?_)
        refine off HT_ 38 171 549755813887 (h := ?_)
        refine off HT_ 39 172 1099511627775 (h := ?_)
        refine off HT_ 40 173 2199023255551 (h := ?_)
        refine pu HT_ 41 174 4398046511103 (h := ?_)
        refine pu HT_ 42 175 8796093022207 (h := ?_)
        refine dn HT_ (h := ?_)
        try go_wp2
        go_roundg k3
        case measure => have:=HJ48.out; have:=HJ66.out; have:=HK3.out; omega
        case rel => exact ⟨(wrap64 (x5_3 + 1)),rf,H',⟨by have:=HJ48.out; have:=HJ66.out; have:=HK3.out; omega⟩,⟨kk BK194⟩,⟨bw HB⟩⟩
       as_aux_lemma =>
       rw [if_pos c117] at H
       have c117b0:=Zd c117
       clear c117
       obtain ⟨ji118,hji118⟩ : ∃ j_ : Int,(wrap64 (x5_3 - 1)) = j_:=⟨_,rfl⟩
       replace H : (if 0 <= (ji118) then (if (ji118) < (l0_7.length : Int) then ((r4_Less.f ((Qaa l0_7 (ji118)).f0) ((Qaa l0_7 (ji118)).f1) ((Qaa l0_7 (ji118)).f2) ((Qaa l0_7 x5_3).f0) ((Qaa l0_7 x5_3).f1) ((Qaa l0_7 x5_3).f2)).bind fun t217 => (if t217 = true then (r4_Op.l0 k3 (wrap64 (x5_3 + 1)) a0_0 a0_1 a0_2 a0_3 a0_4 a0_5 a0_6 l0_7 a0_8 a0_9 a0_10) else (some false))) else (none)) else (none)) = some r:=by first | (rw [hji118] at H; exact H) | (simp only [hji118] at H ⊢; exact H)
       (try rw [hji118] at A103)
       (try rw [hji118] at A108)
       (try rw [hji118] at A110)
       have hji118w : (IntKind.i64.wrap (x5_3 - 1)) = ji118:=(i64_w _).trans hji118
       by_cases c119 : 0 <= (ji118); rotate_left
       ·rw [if_neg c119] at H
        exact absurd H (by simp)
       as_aux_lemma =>
       rw [if_pos c119] at H
       have c119b0:=Zd c119
       clear c119
       by_cases c120 : (ji118) < (l0_7.length : Int); rotate_left
       ·rw [if_neg c120] at H
        exact absurd H (by simp)
       as_aux_lemma =>
       rw [if_pos c120] at H
       have c120b0:=Zd c120
       clear c120
       obtain ⟨t217,A121,H⟩:=bE H
       by_cases c122 : t217 = true; rotate_left
       ·replace c122:=Zf c122
        subst c122
        rw [if_neg nft] at H
        obtain rfl:=Zo H
        obtain ⟨_,_,_,_,_,_,_,_,_,_,_,_,_,_,_,_,_,_,_,_,_,_⟩:=kc11 BK194
        try go_wp2
        have n0_:=Zz.k (Qal BK194.out)
        have n1_:=Zz.k (Qai HB.out)
        clear BK194
        clear HB
        have BK194:=n0_
        have HB:=n1_
        clear n0_ n1_
        have p209 : 0 <= (x5_3 : Int):=od
        have q209 : x5_3 < (l0_7.length : Int):=od
        obtain ⟨ad209,e209,hx209_0,hx209_1,hx209_2⟩:=Qat HR0_7.out x5_3 p209 q209
        have hw209_2:=hx209_2
        have hw209_1:=hx209_1
        have hw209_0:=hx209_0
        cases e209
        replace hx209_0:=cl HB hx209_0
        replace hx209_1:=cl HB hx209_1
        replace hx209_2:=cl HB hx209_2
        replace p209:=eq_true p209
        replace q209:=eq_true q209
        have p215 : 0 <= ((ji118) : Int):=od
        have q215 : (ji118) < (l0_7.length : Int):=od
        obtain ⟨ad215,e215,hx215_0,hx215_1,hx215_2⟩:=Qat HR0_7.out (ji118) p215 q215
        have hw215_2:=hx215_2
        have hw215_1:=hx215_1
        have hw215_0:=hx215_0
        obtain rfl : ad209 = ad215:=(by injection e215)
        replace hx215_0:=cl HB hx215_0
        replace hx215_1:=cl HB hx215_1
        replace hx215_2:=cl HB hx215_2
        replace p215:=eq_true p215
        replace q215:=eq_true q215
        refine stP (fun w' => B11 w' gb194 (.int .i64 a0_0) (.int .i64 a0_1) (.int .i64 a0_2) (.int .i64 a0_3) (.int .i64 a0_4) (.int .i64 a0_5) (.string a0_6) (.slice (some ad209) l0_7.length c0_7) (.int .i64 a0_8) (.int .i64 a0_9) (.int .i64 a0_10) (w'.cell? (ad209.add ((x5_3).toNat * 3)) = some (.int .i64 ((Qaa l0_7 x5_3).f0)) /\ w'.cell? ⟨(ad209.add ((x5_3).toNat * 3)).block,(ad209.add ((x5_3).toNat * 3)).off + 1,none⟩ = some (.int .i64 ((Qaa l0_7 x5_3).f1)) /\ w'.cell? ⟨(ad209.add ((x5_3).toNat * 3)).block,(ad209.add ((x5_3).toNat * 3)).off + 2,none⟩ = some (.int .i64 ((Qaa l0_7 x5_3).f2)) /\ w'.cell? (ad209.add (((ji118)).toNat * 3)) = some (.int .i64 ((Qaa l0_7 (ji118)).f0)) /\ w'.cell? ⟨(ad209.add (((ji118)).toNat * 3)).block,(ad209.add (((ji118)).toNat * 3)).off + 1,none⟩ = some (.int .i64 ((Qaa l0_7 (ji118)).f1)) /\ w'.cell? ⟨(ad209.add (((ji118)).toNat * 3)).block,(ad209.add (((ji118)).toNat * 3)).off + 2,none⟩ = some (.int .i64 ((Qaa l0_7 (ji118)).f2)))) 43 (b11 BK194 ⟨(cW HB hw209_0),(cW HB hw209_1),(cW HB hw209_2),(cW HB hw215_0),(cW HB hw215_1),(cW HB hw215_2)⟩) (h:=fun hHeld => ?_); refine Qbe r4_Op.tab13 r4_Op.bits13 (fun HT_ HW_ => ?_)
        generalize wr.drew = w130 at BK194 HB hx209_0 hx209_1 hx209_2 hx209_0 hx209_1 hx209_2 hx209_0 hx209_1 hx209_2 hx215_0 hx215_1 hx215_2 hx209_0 hx209_1 hx209_2 hHeld ⊢
        refine pu HT_ 0 133 1 (h := ?_)
        refine pu HT_ 2 135 5 (h := ?_)
        refine tk HT_ HW_ hHeld 1 134 7 (h := ?_)
        refine pu HT_ 3 136 15 (h := ?_)
        refine tk HT_ HW_ hHeld 4 137 31 (h := ?_)
        refine on HT_ 5 (some 138) 63 (h:=fun K hK => ?_)
        refine gS Tryd.func62 #[.agg #[.int .i64 ((Qaa l0_7 x5_3).f0), .int .i64 ((Qaa l0_7 x5_3).f1), .int .i64 ((Qaa l0_7 x5_3).f2)]] (h := ?_)
        with_reducible refine (r4_Begin.calls ((Qaa l0_7 x5_3).f0) ((Qaa l0_7 x5_3).f1) ((Qaa l0_7 x5_3).f2) false _ A103.out).mono ?_
        rintro e w131 ⟨rfl,hb⟩
        refine ⟨_,rfl, ?_⟩
        have n0_:=bl BK194 hb
        have n1_:=bs HB hb
        clear BK194
        clear HB
        have BK194:=n0_
        have HB:=n1_
        clear n0_ n1_
        (try clear hb)
        (try clear hb2)
        (try clear hk)
        (try clear hi)
        refine hK.out _ _ (b11 BK194 ⟨(cW HB hw209_0),(cW HB hw209_1),(cW HB hw209_2),(cW HB hw215_0),(cW HB hw215_1),(cW HB hw215_2)⟩) (fun hHeld => ?_)
        clear hK K
        refine nn 138 (h := ?_)
        refine pu HT_ 6 139 127 (h := ?_)
        refine pu HT_ 7 140 255 (h := ?_)
        refine pu HT_ 9 142 767 (h := ?_)
        refine tk HT_ HW_ hHeld 8 141 1023 (h := ?_)
        refine pu HT_ 10 143 2047 (h := ?_)
        refine tk HT_ HW_ hHeld 11 144 4095 (h := ?_)
        refine on HT_ 12 (some 145) 8191 (h:=fun K hK => ?_)
        refine gS Tryd.func53 #[.agg #[.int .i64 ((Qaa l0_7 x5_3).f0), .int .i64 ((Qaa l0_7 x5_3).f1), .int .i64 ((Qaa l0_7 x5_3).f2)]] (h := ?_)
        with_reducible refine (r4_Elem.calls ((Qaa l0_7 x5_3).f0) ((Qaa l0_7 x5_3).f1) ((Qaa l0_7 x5_3).f2) true _ A108.out).mono ?_
        rintro e w132 ⟨rfl,hb⟩
        refine ⟨_,rfl, ?_⟩
        have n0_:=bl BK194 hb
        have n1_:=bs HB hb
        clear BK194
        clear HB
        have BK194:=n0_
        have HB:=n1_
        clear n0_ n1_
        (try clear hb)
        (try clear hb2)
        (try clear hk)
        (try clear hi)
        refine hK.out _ _ (b11 BK194 ⟨(cW HB hw209_0),(cW HB hw209_1),(cW HB hw209_2),(cW HB hw215_0),(cW HB hw215_1),(cW HB hw215_2)⟩) (fun hHeld => ?_)
        clear hK K
        refine nn 145 (h := ?_)
        refine pu HT_ 13 146 16383 (h := ?_)
        refine pu HT_ 14 147 32767 (h := ?_)
        refine pu HT_ 15 148 65535 (h := ?_)
        refine pu HT_ 17 150 196607 (h := ?_)
        refine pu HT_ 19 152 720895 (h := ?_)
        refine tk HT_ HW_ hHeld 16 149 786431 (h := ?_)
        refine tk HT_ HW_ hHeld 18 151 1048575 (h := ?_)
        refine pu HT_ 20 153 2097151 (h := ?_)
        refine tk HT_ HW_ hHeld 21 154 4194303 (h := ?_)
        refine on HT_ 22 (some 155) 8388607 (h:=fun K hK => ?_)
        refine gS Tryd.func92 #[.agg #[.int .i64 a0_0, .int .i64 a0_1, .int .i64 a0_2, .int .i64 a0_3, .int .i64 a0_4, .int .i64 a0_5, .string a0_6, .slice (some ad209) l0_7.length c0_7, .int .i64 a0_8, .int .i64 a0_9, .int .i64 a0_10], .agg #[.int .i64 ((Qaa l0_7 x5_3).f0), .int .i64 ((Qaa l0_7 x5_3).f1), .int .i64 ((Qaa l0_7 x5_3).f2)]] (h := ?_)
        with_reducible refine (r4_own.calls a0_0 a0_1 a0_2 a0_3 a0_4 a0_5 a0_6 _ _ l0_7 a0_8 a0_9 a0_10 ((Qaa l0_7 x5_3).f0) ((Qaa l0_7 x5_3).f1) ((Qaa l0_7 x5_3).f2) false _ ?side1 ?side2 A110.out).mono ?_
        (case side1 => exact cb HR0_7 HB)
        (case side2 => exact HC0_7.out)
        rintro e w133 ⟨rfl,hb⟩
        refine ⟨_,rfl, ?_⟩
        have n0_:=bl BK194 hb
        have n1_:=bs HB hb
        clear BK194
        clear HB
        have BK194:=n0_
        have HB:=n1_
        clear n0_ n1_
        (try clear hb)
        (try clear hb2)
        (try clear hk)
        (try clear hi)
        refine hK.out _ _ (b11 BK194 ⟨(cW HB hw209_0),(cW HB hw209_1),(cW HB hw209_2),(cW HB hw215_0),(cW HB hw215_1),(cW HB hw215_2)⟩) (fun hHeld => ?_)
        clear hK K
        refine nn 155 (h := ?_)
        refine pu HT_ 23 156 16777215 (h := ?_)
        refine pu HT_ 24 157 33554431 (h := ?_)
        refine pu HT_ 25 158 67108863 (h := ?_)
        refine pu HT_ 26 159 134217727 (h := ?_)
        refine pu HT_ 27 160 268435455 (h := ?_)
        refine pu HT_ 28 161 536870911 (h := ?_)
        refine pu HT_ 30 163 1610612735 (h := ?_)
        refine pu HT_ 31 164 3758096383 (h := ?_)
        refine pu HT_ 34 167 20937965567 (h := ?_)
        refine pu HT_ 36 169 89657442303 (h := ?_)
        refine tk HT_ HW_ hHeld 29 162 90194313215 (h := ?_)
        refine pu HT_ 32 165 94489280511 (h := ?_)
        refine tk HT_ HW_ hHeld 33 166 103079215103 (h := ?_)
        refine tk HT_ HW_ hHeld 35 168 137438953471 (h := ?_)
        refine pu HT_ 37 170 274877906943 (h := ?_)
        refine tk HT_ HW_ hHeld 38 171 549755813887 (h := ?_)
        refine on HT_ 39 (some 172) 1099511627775 (h:=fun K hK => ?_)
        refine goes_ Tryd.func55 (by kernel_rfl) rfl #[.agg #[.int .i64 ((Qaa l0_7 (ji118)).f0), .int .i64 ((Qaa l0_7 (ji118)).f1), .int .i64 ((Qaa l0_7 (ji118)).f2)], .agg #[.int .i64 ((Qaa l0_7 x5_3).f0), .int .i64 ((Qaa l0_7 x5_3).f1), .int .i64 ((Qaa l0_7 x5_3).f2)]] (by rfl) rfl rfl (by (try simp only [List.map_toArray,List.map_cons,List.map_nil]); first | done | (simp only [hji118]; rfl) | rfl | (simp only [List.length_drop,List.length_take]; rfl)) ?_
        with_reducible refine (r4_Less.calls ((Qaa l0_7 (ji118)).f0) ((Qaa l0_7 (ji118)).f1) ((Qaa l0_7 (ji118)).f2) ((Qaa l0_7 x5_3).f0) ((Qaa l0_7 x5_3).f1) ((Qaa l0_7 x5_3).f2) false _ A121.out).mono ?_
        rintro e w134 ⟨rfl,hb⟩
        refine ⟨_,rfl, ?_⟩
        have n0_:=bl BK194 hb
        have n1_:=bs HB hb
        clear BK194
        clear HB
        have BK194:=n0_
        have HB:=n1_
        clear n0_ n1_
        (try clear hb)
        (try clear hb2)
        (try clear hk)
        (try clear hi)
        refine hK.out _ _ (b11 BK194 ⟨(cW HB hw209_0),(cW HB hw209_1),(cW HB hw209_2),(cW HB hw215_0),(cW HB hw215_1),(cW HB hw215_2)⟩) (fun hHeld => ?_)
        clear hK K
        refine nn 172 (h := ?_)
        refine pu HT_ 40 173 2199023255551 (h := ?_)
        refine pu HT_ 41 174 4398046511103 (h := ?_)
        refine pu HT_ 42 175 8796093022207 (h := ?_)
        refine dn HT_ (h := ?_)
        try go_wp2
        go_ret
        exact ⟨by first | rfl | (simp [errW_none,errW_some] <;> rfl) | (simp only [<- hji118]; first | rfl | (simp [errW_none,errW_some] <;> rfl)) | (simp [*,errW_none,errW_some] <;> rfl),bw HB⟩
       as_aux_lemma =>
       subst c122
       rw [if_pos rfl] at H
       have H':=Zz.k H
       clear H
       obtain ⟨_,_,_,_,_,_,_,_,_,_,_,_,_,_,_,_,_,_,_,_,_,_⟩:=kc11 BK194
       try go_wp2
       have n0_:=Zz.k (Qal BK194.out)
       have n1_:=Zz.k (Qai HB.out)
       clear BK194
       clear HB
       have BK194:=n0_
       have HB:=n1_
       clear n0_ n1_
       have p209 : 0 <= (x5_3 : Int):=od
       have q209 : x5_3 < (l0_7.length : Int):=od
       obtain ⟨ad209,e209,hx209_0,hx209_1,hx209_2⟩:=Qat HR0_7.out x5_3 p209 q209
       have hw209_2:=hx209_2
       have hw209_1:=hx209_1
       have hw209_0:=hx209_0
       cases e209
       replace hx209_0:=cl HB hx209_0
       replace hx209_1:=cl HB hx209_1
       replace hx209_2:=cl HB hx209_2
       replace p209:=eq_true p209
       replace q209:=eq_true q209
       have p215 : 0 <= ((ji118) : Int):=od
       have q215 : (ji118) < (l0_7.length : Int):=od
       obtain ⟨ad215,e215,hx215_0,hx215_1,hx215_2⟩:=Qat HR0_7.out (ji118) p215 q215
       have hw215_2:=hx215_2
       have hw215_1:=hx215_1
       have hw215_0:=hx215_0
       obtain rfl : ad209 = ad215:=(by injection e215)
       replace hx215_0:=cl HB hx215_0
       replace hx215_1:=cl HB hx215_1
       replace hx215_2:=cl HB hx215_2
       replace p215:=eq_true p215
       replace q215:=eq_true q215
       refine stP (fun w' => B11 w' gb194 (.int .i64 a0_0) (.int .i64 a0_1) (.int .i64 a0_2) (.int .i64 a0_3) (.int .i64 a0_4) (.int .i64 a0_5) (.string a0_6) (.slice (some ad209) l0_7.length c0_7) (.int .i64 a0_8) (.int .i64 a0_9) (.int .i64 a0_10) (w'.cell? (ad209.add ((x5_3).toNat * 3)) = some (.int .i64 ((Qaa l0_7 x5_3).f0)) /\ w'.cell? ⟨(ad209.add ((x5_3).toNat * 3)).block,(ad209.add ((x5_3).toNat * 3)).off + 1,none⟩ = some (.int .i64 ((Qaa l0_7 x5_3).f1)) /\ w'.cell? ⟨(ad209.add ((x5_3).toNat * 3)).block,(ad209.add ((x5_3).toNat * 3)).off + 2,none⟩ = some (.int .i64 ((Qaa l0_7 x5_3).f2)) /\ w'.cell? (ad209.add (((ji118)).toNat * 3)) = some (.int .i64 ((Qaa l0_7 (ji118)).f0)) /\ w'.cell? ⟨(ad209.add (((ji118)).toNat * 3)).block,(ad209.add (((ji118)).toNat * 3)).off + 1,none⟩ = some (.int .i64 ((Qaa l0_7 (ji118)).f1)) /\ w'.cell? ⟨(ad209.add (((ji118)).toNat * 3)).block,(ad209.add (((ji118)).toNat * 3)).off + 2,none⟩ = some (.int .i64 ((Qaa l0_7 (ji118)).f2)))) 43 (b11 BK194 ⟨(cW HB hw209_0),(cW HB hw209_1),(cW HB hw209_2),(cW HB hw215_0),(cW HB hw215_1),(cW HB hw215_2)⟩) (h:=fun hHeld => ?_); refine Qbe r4_Op.tab13 r4_Op.bits13 (fun HT_ HW_ => ?_)
       generalize wr.drew = w124 at BK194 HB hx209_0 hx209_1 hx209_2 hx209_0 hx209_1 hx209_2 hx209_0 hx209_1 hx209_2 hx215_0 hx215_1 hx215_2 hx209_0 hx209_1 hx209_2 hHeld ⊢
       refine pu HT_ 0 133 1 (h := ?_)
       refine pu HT_ 2 135 5 (h := ?_)
       refine tk HT_ HW_ hHeld 1 134 7 (h := ?_)
       refine pu HT_ 3 136 15 (h := ?_)
       refine tk HT_ HW_ hHeld 4 137 31 (h := ?_)
       refine on HT_ 5 (some 138) 63 (h:=fun K hK => ?_)
       refine gS Tryd.func62 #[.agg #[.int .i64 ((Qaa l0_7 x5_3).f0), .int .i64 ((Qaa l0_7 x5_3).f1), .int .i64 ((Qaa l0_7 x5_3).f2)]] (h := ?_)
       with_reducible refine (r4_Begin.calls ((Qaa l0_7 x5_3).f0) ((Qaa l0_7 x5_3).f1) ((Qaa l0_7 x5_3).f2) false _ A103.out).mono ?_
       rintro e w125 ⟨rfl,hb⟩
       refine ⟨_,rfl, ?_⟩
       have n0_:=bl BK194 hb
       have n1_:=bs HB hb
       clear BK194
       clear HB
       have BK194:=n0_
       have HB:=n1_
       clear n0_ n1_
       (try clear hb)
       (try clear hb2)
       (try clear hk)
       (try clear hi)
       refine hK.out _ _ (b11 BK194 ⟨(cW HB hw209_0),(cW HB hw209_1),(cW HB hw209_2),(cW HB hw215_0),(cW HB hw215_1),(cW HB hw215_2)⟩) (fun hHeld => ?_)
       clear hK K
       refine nn 138 (h := ?_)
       refine pu HT_ 6 139 127 (h := ?_)
       refine pu HT_ 7 140 255 (h := ?_)
       refine pu HT_ 9 142 767 (h := ?_)
       refine tk HT_ HW_ hHeld 8 141 1023 (h := ?_)
       refine pu HT_ 10 143 2047 (h := ?_)
       refine tk HT_ HW_ hHeld 11 144 4095 (h := ?_)
       refine on HT_ 12 (some 145) 8191 (h:=fun K hK => ?_)
       refine gS Tryd.func53 #[.agg #[.int .i64 ((Qaa l0_7 x5_3).f0), .int .i64 ((Qaa l0_7 x5_3).f1), .int .i64 ((Qaa l0_7 x5_3).f2)]] (h := ?_)
       with_reducible refine (r4_Elem.calls ((Qaa l0_7 x5_3).f0) ((Qaa l0_7 x5_3).f1) ((Qaa l0_7 x5_3).f2) true _ A108.out).mono ?_
       rintro e w126 ⟨rfl,hb⟩
       refine ⟨_,rfl, ?_⟩
       have n0_:=bl BK194 hb
       have n1_:=bs HB hb
       clear BK194
       clear HB
       have BK194:=n0_
       have HB:=n1_
       clear n0_ n1_
       (try clear hb)
       (try clear hb2)
       (try clear hk)
       (try clear hi)
       refine hK.out _ _ (b11 BK194 ⟨(cW HB hw209_0),(cW HB hw209_1),(cW HB hw209_2),(cW HB hw215_0),(cW HB hw215_1),(cW HB hw215_2)⟩) (fun hHeld => ?_)
       clear hK K
       refine nn 145 (h := ?_)
       refine pu HT_ 13 146 16383 (h := ?_)
       refine pu HT_ 14 147 32767 (h := ?_)
       refine pu HT_ 15 148 65535 (h := ?_)
       refine pu HT_ 17 150 196607 (h := ?_)
       refine pu HT_ 19 152 720895 (h := ?_)
       refine tk HT_ HW_ hHeld 16 149 786431 (h := ?_)
       refine tk HT_ HW_ hHeld 18 151 1048575 (h := ?_)
       refine pu HT_ 20 153 2097151 (h := ?_)
       refine tk HT_ HW_ hHeld 21 154 4194303 (h := ?_)
       refine on HT_ 22 (some 155) 8388607 (h:=fun K hK => ?_)
       refine gS Tryd.func92 #[.agg #[.int .i64 a0_0, .int .i64 a0_1, .int .i64 a0_2, .int .i64 a0_3, .int .i64 a0_4, .int .i64 a0_5, .string a0_6, .slice (some ad209) l0_7.length c0_7, .int .i64 a0_8, .int .i64 a0_9, .int .i64 a0_10], .agg #[.int .i64 ((Qaa l0_7 x5_3).f0), .int .i64 ((Qaa l0_7 x5_3).f1), .int .i64 ((Qaa l0_7 x5_3).f2)]] (h := ?_)
       with_reducible refine (r4_own.calls a0_0 a0_1 a0_2 a0_3 a0_4 a0_5 a0_6 _ _ l0_7 a0_8 a0_9 a0_10 ((Qaa l0_7 x5_3).f0) ((Qaa l0_7 x5_3).f1) ((Qaa l0_7 x5_3).f2) false _ ?side1 ?side2 A110.out).mono ?_
       (case side1 => exact cb HR0_7 HB)
       (case side2 => exact HC0_7.out)
       rintro e w127 ⟨rfl,hb⟩
       refine ⟨_,rfl, ?_⟩
       have n0_:=bl BK194 hb
       have n1_:=bs HB hb
       clear BK194
       clear HB
       have BK194:=n0_
       have HB:=n1_
       clear n0_ n1_
       (try clear hb)
       (try clear hb2)
       (try clear hk)
       (try clear hi)
       refine hK.out _ _ (b11 BK194 ⟨(cW HB hw209_0),(cW HB hw209_1),(cW HB hw209_2),(cW HB hw215_0),(cW HB hw215_1),(cW HB hw215_2)⟩) (fun hHeld => ?_)
       clear hK K
       refine nn 155 (h := ?_)
       refine pu HT_ 23 156 16777215 (h := ?_)
       refine pu HT_ 24 157 33554431 (h := ?_)
       refine pu HT_ 25 158 67108863 (h := ?_)
       refine pu HT_ 26 159 134217727 (h := ?_)
       refine pu HT_ 27 160 268435455 (h := ?_)
       refine pu HT_ 28 161 536870911 (h := ?_)
       refine pu HT_ 30 163 1610612735 (h := ?_)
       refine pu HT_ 31 164 3758096383 (h := ?_)
       refine pu HT_ 34 167 20937965567 (h := ?_)
       refine pu HT_ 36 169 89657442303 (h := ?_)
       refine tk HT_ HW_ hHeld 29 162 90194313215 (h := ?_)
       refine pu HT_ 32 165 94489280511 (h := ?_)
       refine tk HT_ HW_ hHeld 33 166 103079215103 (h := ?_)
       refine tk HT_ HW_ hHeld 35 168 137438953471 (h := ?_)
       refine pu HT_ 37 170 274877906943 (h := ?_)
       refine tk HT_ HW_ hHeld 38 171 549755813887 (h := ?_)
       refine on HT_ 39 (some 172) 1099511627775 (h:=fun K hK => ?_)
       refine goes_ Tryd.func55 (by kernel_rfl) rfl #[.agg #[.int .i64 ((Qaa l0_7 (ji118)).f0), .int .i64 ((Qaa l0_7 (ji118)).f1), .int .i64 ((Qaa l0_7 (ji118)).f2)], .agg #[.int .i64 ((Qaa l0_7 x5_3).f0), .int .i64 ((Qaa l0_7 x5_3).f1), .int .i64 ((Qaa l0_7 x5_3).f2)]] (by rfl) rfl rfl (by (try simp only [List.map_toArray,List.map_cons,List.map_nil]); first | done | (simp only [hji118]; rfl) | rfl | (simp only [List.length_drop,List.length_take]; rfl)) ?_
       with_reducible refine (r4_Less.calls ((Qaa l0_7 (ji118)).f0) ((Qaa l0_7 (ji118)).f1) ((Qaa l0_7 (ji118)).f2) ((Qaa l0_7 x5_3).f0) ((Qaa l0_7 x5_3).f1) ((Qaa l0_7 x5_3).f2) true _ A121.out).mono ?_
       rintro e w128 ⟨rfl,hb⟩
       refine ⟨_,rfl, ?_⟩
       have n0_:=bl BK194 hb
       have n1_:=bs HB hb
       clear BK194
       clear HB
       have BK194:=n0_
       have HB:=n1_
       clear n0_ n1_
       (try clear hb)
       (try clear hb2)
       (try clear hk)
       (try clear hi)
       refine hK.out _ _ (b11 BK194 ⟨(cW HB hw209_0),(cW HB hw209_1),(cW HB hw209_2),(cW HB hw215_0),(cW HB hw215_1),(cW HB hw215_2)⟩) (fun hHeld => ?_)
       clear hK K
       refine nn 172 (h := ?_)
       refine pu HT_ 40 173 2199023255551 (h := ?_)
       refine pu HT_ 41 174 4398046511103 (h := ?_)
       refine pu HT_ 42 175 8796093022207 (h := ?_)
       refine dn HT_ (h := ?_)
       try go_wp2
       go_roundg k3
       case measure => have:=HJ48.out; have:=HJ66.out; have:=HK3.out; omega
       case rel => exact ⟨(wrap64 (x5_3 + 1)),rf,H',⟨by have:=HJ48.out; have:=HJ66.out; have:=HK3.out; omega⟩,⟨kk BK194⟩,⟨bw HB⟩⟩
end
section
def t_r4_put.T2 : Bool × List (List Nat × List Nat):=(true,[([],[]),([],[]),([1],[1]),([0,2],[0,2]),([3],[3]),([4],[4]),([4],[4]),([5,6,4],[4,5,6]),([7,4],[4,7]),([4],[4]),([8,9,4,4],[4,8,9]),([4,10],[4,10])])
def t_r4_put.B2 : List Nat:=[0,0,2,7,15,31,31,127,255,31,1023,2047]
theorem t_r4_put.tab2 : rtab .any (opsOf Tryd.f79 2) = t_r4_put.T2:=by kernel_rfl
theorem t_r4_put.bits2 : Qbf t_r4_put.T2.2 t_r4_put.B2 = true:=by kernel_rfl
def t_r4_put.T4 : Bool × List (List Nat × List Nat):=(true,[([],[]),([],[]),([1],[1]),([0,2],[0,2]),([3],[3]),([4],[4]),([4],[4]),([5,6,4],[4,5,6]),([7,4],[4,7]),([4],[4]),([8,9,4],[4,8,9]),([4,10],[4,10])])
def t_r4_put.B4 : List Nat:=[0,0,2,7,15,31,31,127,255,31,1023,2047]
theorem t_r4_put.tab4 : rtab .any (opsOf Tryd.f79 4) = t_r4_put.T4:=by kernel_rfl
theorem t_r4_put.bits4 : Qbf t_r4_put.T4.2 t_r4_put.B4 = true:=by kernel_rfl
def t_r4_put.T6 : Bool × List (List Nat × List Nat):=(true,[([],[]),([],[]),([0,1],[0,1]),([2],[2]),([],[]),([4],[4]),([3,5,3],[3,5]),([],[]),([],[]),([7,8],[7,8]),([6,9,6],[6,9]),([10,10,0,1,2,3,4,5,6,7,8,9,10],[10])])
def t_r4_put.B6 : List Nat:=[0,0,3,7,0,16,63,0,0,384,1023,2047]
theorem t_r4_put.tab6 : rtab .any (opsOf Tryd.f79 6) = t_r4_put.T6:=by kernel_rfl
theorem t_r4_put.bits6 : Qbf t_r4_put.T6.2 t_r4_put.B6 = true:=by kernel_rfl
def t_r4_Needs.T9 : Bool × List (List Nat × List Nat):=(true,[([],[]),([],[]),([1],[1]),([],[]),([2,3],[2,3]),([4],[4]),([5],[5]),([],[]),([7],[7]),([],[]),([8,9],[8,9]),([10],[10]),([11],[11]),([6,12],[6,12]),([0,13],[0,13]),([14,14,0,1,2,3,4,5,6,7,8,9,10,11,12,13,14],[0,14])])
def t_r4_Needs.B9 : List Nat:=[0,0,2,0,14,30,62,0,128,0,896,1920,3968,8190,16383,32767]
theorem t_r4_Needs.tab9 : rtab .any (opsOf Tryd.f44 9) = t_r4_Needs.T9:=by kernel_rfl
theorem t_r4_Needs.bits9 : Qbf t_r4_Needs.T9.2 t_r4_Needs.B9 = true:=by kernel_rfl
end
section
theorem exP {P : Program} {ops : Array Oper} {Q : Exit -> Act -> World -> Prop} {S : World -> Prop} {F : Act -> World -> Prop} {K : Act -> World -> Prop} {oi : Oper} {a : Act} {w : World} {N : Option Tmp} (hK : Shut (∀ a' w',S w' -> (S w' -> F a' w') -> K a' w')) (u : Value) (w' : World) (hw : Region.wanted oi (yielded ops a.tmps) = true:=by rfl) (hN : oi.dst = N:=by rfl)
  (hrun : (execOp a.eval oi).run P w = .ok (.value u) w') (hS : S w') (h : S w' -> F (a.put N u) w') : if Region.wanted oi (yielded ops a.tmps) = true then Oper.wp P oi a w K Q else K (a.put N undef) w:=by
 rw [if_pos hw]
 unfold Oper.wp
 rw [hrun,Oper.upon_value,hN]
 exact hK.out _ w' hS h
theorem Qaf {w w' : World} {row : Option Nat} {a : Addr} {v : Value} (hg : w.grownBy w' row) (hne : some a.block ≠ row) (hc : w.cell? a = some v) : w'.cell? a = some v:=(World.cell?_of_block (hg.block _ (World.block_lt_of_cell? w a hc) hne)).trans hc
theorem infoEl : (Tryd.prog.info? 43).map (fun i => (i.zero,i.size,i.bytes)) = some (some (.agg #[(.int .i64 0),(.int .i64 0),(.int .i64 0)]),3,24):=by kernel_rfl
abbrev S3 (W : World) (g : Nat) (a b c : Int) : Prop:=W.cell? ⟨g,0,none⟩ = some (.int .i64 a) /\ W.cell? ⟨g,1,none⟩ = some (.int .i64 b) /\ W.cell? ⟨g,2,none⟩ = some (.int .i64 c)
theorem S3.below {W W' : World} {g : Nat} {a b c : Int} (h : S3 W g a b c) (hb : Below W.heap.size W W') : S3 W' g a b c:=⟨Qad hb h.1,Qad hb h.2.1,Qad hb h.2.2⟩
theorem S3.boxed (w : World) (a b c : Int) (t : TypeId) : S3 (w.alloc (.cells #[.int .i64 a, .int .i64 b, .int .i64 c] t)) w.heap.size a b c:=by
 refine ⟨?_, ?_, ?_⟩ <;> simp
theorem S3.reads {W : World} {g : Nat} {a b c : Int} (h : S3 W g a b c) : Qax (fun x cs => cs = [.int .i64 x.f0, .int .i64 x.f1, .int .i64 x.f2]) Qam.sz W (some ⟨g,0,none⟩) 1 [(⟨a,b,c⟩ : SElem)]:=by
 refine ⟨rfl,by omega,fun _ => ⟨_,rfl,fun j p hp => ?_⟩⟩
 have hj : j = 0:=by
  rcases j with _ | j
  ·rfl
  ·simp at hp
 subst hj
 simp only [List.getElem?_cons_zero,Option.some.injEq] at hp
 subst hp
 refine ⟨_,rfl,rfl,fun i u hu => ?_⟩
 have ea : (⟨g,0,none⟩ : Addr).add (0 * Qam.sz + i) = ⟨g,i,none⟩:=by rw [Addr.add_lit,Nat.zero_mul,Nat.zero_add,Nat.zero_add]
 rw [ea]
 rcases i with _ | _ | _ | i
 ·simp only [List.getElem?_cons_zero,Option.some.injEq] at hu; rw [<- hu]; exact h.1
 ·simp only [List.getElem?_cons_succ,List.getElem?_cons_zero,Option.some.injEq] at hu; rw [<- hu]; exact h.2.1
 ·simp only [List.getElem?_cons_succ,List.getElem?_cons_zero,Option.some.injEq] at hu; rw [<- hu]; exact h.2.2
 ·simp at hu
theorem nilReads (W : World) (A : Option Addr) : Qax (fun (x : SElem) cs => cs = [.int .i64 x.f0, .int .i64 x.f1, .int .i64 x.f2]) Qam.sz W A 0 []:=⟨rfl,by omega,fun h => absurd h (by omega)⟩
theorem put_calls (A0 : Option Addr) (c0 : Nat) (a b c : Int) (w : World) :
  Calls Tryd.prog 79 #[.slice A0 0 c0, .agg #[.int .i64 a, .int .i64 b, .int .i64 c]] w fun e w' => ∃ v0_ : Value,e = .returned v0_ /\ Kd.R Qam 43 w' w.heap.size (fun _ => True) v0_ [⟨a,b,c⟩] /\ Below w.heap.size w w':=by
 have hal : Below w.heap.size w (w.alloc (.cells #[.int .i64 a, .int .i64 b, .int .i64 c] 43)):=Qah (Below.refl _ _) _
 have HBX:=Zz.k hal
 have HS0:=Zz.k (S3.boxed w a b c 43)
 have hsz : (w.alloc (.cells #[.int .i64 a, .int .i64 b, .int .i64 c] 43)).heap.size = w.heap.size + 1:=by simp
 have HSZ:=Zz.k hsz
 have HCE:=Zz.k (fun (W : World) => r0_CopyElems.calls 1 A0 c0 [] [] W ⟨rfl,Nat.zero_le _,fun h => absurd h (by decide)⟩ (Nat.zero_le _) rfl)
 clear hal hsz
 go_enter Tryd.func79,Tryd.ntmps79
 go_wp2
 go_loopg [5] 0 (fun gg s5 wr => s5 = .int .i64 0 /\ Zz (S3 wr w.heap.size a b c) /\ Zz (Below w.heap.size w wr) /\ Zz (w.heap.size + 1 <= wr.heap.size))
 case atStart => exact ⟨rfl,HS0,HBX,⟨Nat.le_of_eq HSZ.out.symm⟩⟩
 case round =>
  clear HS0 HBX HSZ
  obtain ⟨rfl,HS0,HBX,HSZ⟩:=hrel
  go_upto_region 2 with (fail)
  refine stR (S:=fun _ => True) 12 t_r4_put.bits2 t_r4_put.tab2 (hS:=trivial) (h:=fun hS HT HW => ?_)
  refine pu HT 0 6 1 (h := ?_)
  refine pu HT 1 7 3 (h := ?_)
  refine pu HT 2 8 7 (h := ?_)
  refine pu HT 3 9 15 (h := ?_)
  refine pu HT 4 10 31 (h := ?_)
  refine off HT 5 11 63 (h := ?_)
  refine off HT 6 12 127 (h := ?_)
  refine off HT 7 13 255 (h := ?_)
  refine off HT 8 14 511 (h := ?_)
  refine off HT 9 15 1023 (h := ?_)
  refine off HT 10 16 2047 (h := ?_)
  refine pu HT 11 17 4095 (h := ?_)
  refine dn HT (h := ?_)
  clear HT HW hS
  go_upto_region 4 with (fail)
  refine stR (S:=fun _ => True) 12 t_r4_put.bits4 t_r4_put.tab4 (hS:=trivial) (h:=fun hS HT HW => ?_)
  refine pu HT 0 20 1 (h := ?_)
  refine pu HT 1 21 3 (h := ?_)
  refine pu HT 2 22 7 (h := ?_)
  refine pu HT 3 23 15 (h := ?_)
  refine pu HT 4 24 31 (h := ?_)
  refine off HT 5 25 63 (h := ?_)
  refine off HT 6 26 127 (h := ?_)
  refine off HT 7 27 255 (h := ?_)
  refine off HT 8 28 511 (h := ?_)
  refine off HT 9 29 1023 (h := ?_)
  refine off HT 10 30 2047 (h := ?_)
  refine pu HT 11 31 4095 (h := ?_)
  refine dn HT (h := ?_)
  clear HT HW hS
  go_upto_region 6 with (fail)
  have HB6:=Zz.k (Qai (Qai (Qai HBX.out)))
  have HZ6:=Zz.k (show w.heap.size + 1 <= wr.drew.drew.drew.heap.size from HSZ.out)
  refine stR (S:=fun w' => S3 w' w.heap.size a b c) 12 t_r4_put.bits6 t_r4_put.tab6 (hS:=HS0.out) (h:=fun hS HT HW => ?_)
  refine pu HT 0 33 1 (h := ?_)
  refine pu HT 1 34 3 (h := ?_)
  refine pu HT 2 35 7 (h := ?_)
  refine tk HT HW hS 4 37 23 (h := ?_)
  refine pu HT 7 40 151 (h := ?_)
  refine pu HT 8 41 407 (h := ?_)
  refine pu HT 9 42 919 (h := ?_)
  clear HS0 HBX HSZ
  generalize wr.drew.drew.drew = w1 at HB6 HZ6 hS ⊢
  refine two_ (i:=3) (j:=5) (Ni:=some 36) (Nj:=some 38) (bA 12 927) (bA 12 951) rfl rfl rfl rfl (two_of HT.out (by kernel_rfl)) (by decide) (by decide) (fun K hK => ?_) (fun K hK => ?_)
  ·refine gS Tryd.func83 #[.slice A0 0 c0] (h := ?_)
   refine (HCE.out w1).mono ?_
   rintro e w3 ⟨v3,rfl,hR3,hb3⟩
   refine ⟨_,rfl, ?_⟩
   have HS3:=Zz.k (S3.below hS hb3)
   have hal3 : Below w3.heap.size w3 (w3.alloc (.cells #[.int .i64 a, .int .i64 b, .int .i64 c] 43)):=Qah (Below.refl _ _) _
   have HA3:=Zz.k hal3
   have HOWN:=Zz.k (fun k (hk : v3.ownBlock = some k) => Nat.le_trans HZ6.out (Kd.R_base hR3 k hk))
   have HBW:=Zz.k (Qah (Qap HB6.out hb3) (.cells #[.int .i64 a, .int .i64 b, .int .i64 c] 43))
   have HR3:=Zz.k (Kd.R_below (Kd.R_lower hR3 HB6.out.size) hal3)
   have HRD:=Zz.k (S3.reads (S3.boxed w3 a b c 43))
   have HZW:=Zz.k (show w.heap.size + 1 <= (w3.alloc (.cells #[.int .i64 a, .int .i64 b, .int .i64 c] 43)).heap.size from Nat.le_trans HZ6.out (Nat.le_trans hb3.size hal3.size))
   refine hK.out _ _ HS3.out (fun hS => ?_)
   clear hK hR3 hb3 hal3
   refine nm (h := ?_)
   refine exS HT 5 (some 38) 959 (.slice (some ⟨w3.heap.size,0,none⟩) 1 1) (w3.alloc (.cells #[.int .i64 a, .int .i64 b, .int .i64 c] 43)) (hrun := ?_) (hS:=S3.below HS3.out HA3.out) (h:=fun hS => ?_)
   ·clear HT HW hS
    go_simp
   refine nm (h := ?_)
   refine on HT 6 (some 39) 1023 (h:=fun K hK => ?_)
   refine Kd.R_append_rows_step Qam (w0:=w) w.heap.size (by rfl) (.tmp 36) (.tmp 38) 23 43 (.agg #[.int .i64 0, .int .i64 0, .int .i64 0]) 24 rfl Tryd.underlying23 infoEl rfl (by decide) (by decide) v3 [] [⟨a,b,c⟩] (some ⟨w3.heap.size,0,none⟩) 1 1 (fun _ => True) (fun k => some k ≠ v3.ownBlock) rfl rfl HR3.out HRD.out (fun x cs e => by subst e; exact Qan _ _ _ x) (fun k hk => ⟨trivial,hk⟩) (fun k hk => trivial) HBW.out HBW.out.size (by decide) (fun v4 w4 hR4 hb4 hg4 hat4 => ?_)
   have hown4 : ∀ k,v4.ownBlock = some k -> w.heap.size + 1 <= k:=fun k hk => by
    have hz:=HZW.out
    rcases hat4 with e | ⟨b',e,hb'⟩
    ·exact HOWN.out k (e.symm.trans hk)
    ·rw [e] at hk; injection hk with hk; omega
   have hS4 : S3 w4 w.heap.size a b c:=⟨Qaf hg4 (fun e => by have:=HOWN.out _ e.symm; simp only at this; omega) hS.1,Qaf hg4 (fun e => by have:=HOWN.out _ e.symm; simp only at this; omega) hS.2.1,Qaf hg4 (fun e => by have:=HOWN.out _ e.symm; simp only at this; omega) hS.2.2⟩
   have HR4:=Zz.k hR4
   have HB4:=Zz.k hb4
   have HW4:=Zz.k hown4
   refine hK.out _ _ hS4 (fun hS => ?_)
   clear hK hR4 hb4 hg4 hat4 hown4 hS4
   refine nm (h := ?_)
   refine on HT 10 (some 43) 2047 (h:=fun K hK => ?_)
   refine Kd.R_append_rows_step Qam (w0:=w) w.heap.size (by rfl) (.tmp 39) (.tmp 42) 23 43 (.agg #[.int .i64 0, .int .i64 0, .int .i64 0]) 24 rfl Tryd.underlying23 infoEl rfl (by decide) (by decide) v4 ([] ++ [⟨a,b,c⟩]) [] A0 0 c0 (fun _ => True) (fun k => some k ≠ v4.ownBlock) rfl rfl HR4.out (nilReads _ A0) (fun x cs e => by subst e; exact Qan _ _ _ x) (fun k hk => ⟨trivial,hk⟩) (fun k hk => trivial) HB4.out HB4.out.size (by simp) (fun v5 w5 hR5 hb5 hg5 hat5 => ?_)
   have hS5 : S3 w5 w.heap.size a b c:=⟨Qaf hg5 (fun e => by have:=HW4.out _ e.symm; simp only at this; omega) hS.1,Qaf hg5 (fun e => by have:=HW4.out _ e.symm; simp only at this; omega) hS.2.1,Qaf hg5 (fun e => by have:=HW4.out _ e.symm; simp only at this; omega) hS.2.2⟩
   have HR5:=Zz.k hR5
   have HB5:=Zz.k hb5
   refine hK.out _ _ hS5 (fun hS => ?_)
   clear hK hR5 hb5 hg5 hat5 hS5
   refine nm (h := ?_)
   refine pu HT 11 4 4095 (h := ?_)
   refine dn HT (h := ?_)
   clear HT HW hS
   go_wp2
   go_ret
   exact ⟨v5,re,HR5.out,HB5.out⟩
  ·have hal1 : Below w1.heap.size w1 (w1.alloc (.cells #[.int .i64 a, .int .i64 b, .int .i64 c] 43)):=Qah (Below.refl _ _) _
   have HA1:=Zz.k hal1
   have HR1:=Zz.k (S3.boxed w1 a b c 43)
   have HB1:=Zz.k (Qap HB6.out hal1)
   refine exP hK (.slice (some ⟨w1.heap.size,0,none⟩) 1 1) (w1.alloc (.cells #[.int .i64 a, .int .i64 b, .int .i64 c] 43)) (hrun := ?_) (hS:=S3.below hS HA1.out) (h:=fun hS => ?_)
   ·clear HT HW hS hK
    go_simp
   clear hK hal1
   refine nm (h := ?_)
   refine ca HT 3 (some 36) 959 #[.slice A0 0 c0] Tryd.func83 (h:=fun K hK => ?_)
   refine (HCE.out _).mono ?_
   rintro e w3 ⟨v3,rfl,hR3,hb3⟩
   refine ⟨_,rfl, ?_⟩
   have HS3:=Zz.k (S3.below hS hb3)
   have HOWN:=Zz.k (fun k (hk : v3.ownBlock = some k) => Nat.le_trans HZ6.out (Nat.le_trans HA1.out.size (Kd.R_base hR3 k hk)))
   have HBW:=Zz.k (Qap HB1.out hb3)
   have HR3:=Zz.k (Kd.R_lower hR3 HB1.out.size)
   have HRD:=Zz.k (S3.reads (S3.below HR1.out hb3))
   have HZW:=Zz.k (show w.heap.size + 1 <= w3.heap.size from Nat.le_trans HZ6.out (Nat.le_trans HA1.out.size hb3.size))
   refine hK.out _ _ HS3.out (fun hS => ?_)
   clear hK hR3 hb3
   refine nm (h := ?_)
   refine on HT 6 (some 39) 1023 (h:=fun K hK => ?_)
   refine Kd.R_append_rows_step Qam (w0:=w) w.heap.size (by rfl) (.tmp 36) (.tmp 38) 23 43 (.agg #[.int .i64 0, .int .i64 0, .int .i64 0]) 24 rfl Tryd.underlying23 infoEl rfl (by decide) (by decide) v3 [] [⟨a,b,c⟩] (some ⟨w1.heap.size,0,none⟩) 1 1 (fun _ => True) (fun k => some k ≠ v3.ownBlock) rfl rfl HR3.out HRD.out (fun x cs e => by subst e; exact Qan _ _ _ x) (fun k hk => ⟨trivial,hk⟩) (fun k hk => trivial) HBW.out HBW.out.size (by decide) (fun v4 w4 hR4 hb4 hg4 hat4 => ?_)
   have hown4 : ∀ k,v4.ownBlock = some k -> w.heap.size + 1 <= k:=fun k hk => by
    have hz:=HZW.out
    rcases hat4 with e | ⟨b',e,hb'⟩
    ·exact HOWN.out k (e.symm.trans hk)
    ·rw [e] at hk; injection hk with hk; omega
   have hS4 : S3 w4 w.heap.size a b c:=⟨Qaf hg4 (fun e => by have:=HOWN.out _ e.symm; simp only at this; omega) hS.1,Qaf hg4 (fun e => by have:=HOWN.out _ e.symm; simp only at this; omega) hS.2.1,Qaf hg4 (fun e => by have:=HOWN.out _ e.symm; simp only at this; omega) hS.2.2⟩
   have HR4:=Zz.k hR4
   have HB4:=Zz.k hb4
   have HW4:=Zz.k hown4
   refine hK.out _ _ hS4 (fun hS => ?_)
   clear hK hR4 hb4 hg4 hat4 hown4 hS4
   refine nm (h := ?_)
   refine on HT 10 (some 43) 2047 (h:=fun K hK => ?_)
   refine Kd.R_append_rows_step Qam (w0:=w) w.heap.size (by rfl) (.tmp 39) (.tmp 42) 23 43 (.agg #[.int .i64 0, .int .i64 0, .int .i64 0]) 24 rfl Tryd.underlying23 infoEl rfl (by decide) (by decide) v4 ([] ++ [⟨a,b,c⟩]) [] A0 0 c0 (fun _ => True) (fun k => some k ≠ v4.ownBlock) rfl rfl HR4.out (nilReads _ A0) (fun x cs e => by subst e; exact Qan _ _ _ x) (fun k hk => ⟨trivial,hk⟩) (fun k hk => trivial) HB4.out HB4.out.size (by simp) (fun v5 w5 hR5 hb5 hg5 hat5 => ?_)
   have hS5 : S3 w5 w.heap.size a b c:=⟨Qaf hg5 (fun e => by have:=HW4.out _ e.symm; simp only at this; omega) hS.1,Qaf hg5 (fun e => by have:=HW4.out _ e.symm; simp only at this; omega) hS.2.1,Qaf hg5 (fun e => by have:=HW4.out _ e.symm; simp only at this; omega) hS.2.2⟩
   have HR5:=Zz.k hR5
   have HB5:=Zz.k hb5
   refine hK.out _ _ hS5 (fun hS => ?_)
   clear hK hR5 hb5 hg5 hat5 hS5
   refine nm (h := ?_)
   refine pu HT 11 4 4095 (h := ?_)
   refine dn HT (h := ?_)
   clear HT HW hS
   go_wp2
   go_ret
   exact ⟨v5,re,HR5.out,HB5.out⟩
def putL : List SElem -> SElem -> List SElem
 | [],e => [e]
 | x :: r,e => if Qaq x e = true then x :: putL r e else if x = e then x :: r else e :: x :: r
theorem putL_at (e : SElem) : ∀ (l : List SElem) (k : Nat),k <= l.length -> (∀ i,i < k -> Qaq (Qaa l (i : Int)) e = true) -> (k < l.length -> Qaq (Qaa l (k : Int)) e = false) ->
  putL l e = if k < l.length /\ Qaa l (k : Int) = e then l else l.take k ++ [e] ++ l.drop k
 | [],k,hk,_,_ => by
  have : k = 0:=by simpa using hk
  subst this
  rw [if_neg (by simp)]; rfl
 | x :: r,0,_,_,h2 => by
  have hx : Qaa (x :: r) ((0 : Nat) : Int) = x:=by rw [Qaj _ _ (by simp)]; rfl
  rw [hx] at h2 ⊢
  unfold putL
  rw [h2 (by simp),if_neg (by simp)]
  by_cases he : x = e
  ·rw [if_pos he,if_pos ⟨by simp,he⟩]
  ·rw [if_neg he,if_neg (fun h => he h.2)]; rfl
 | x :: r,k + 1,hk,h1,h2 => by
  have hx : Qaa (x :: r) ((0 : Nat) : Int) = x:=by rw [Qaj _ _ (by simp)]; rfl
  have hs : ∀ i,i < r.length -> Qaa (x :: r) ((i + 1 : Nat) : Int) = Qaa r (i : Int):=fun i hi => by
   rw [Qaj _ _ (by simp; omega),Qaj _ _ hi]; rfl
  have hk' : k <= r.length:=by simpa using hk
  have h0:=h1 0 (by omega)
  rw [hx] at h0
  unfold putL
  rw [if_pos h0,putL_at e r k hk' (fun i hi => by rw [<- hs i (by omega)]; exact h1 (i + 1) (by omega)) (fun hlt => by rw [<- hs k hlt]; exact h2 (by simpa using hlt))]
  by_cases hc : k < r.length
  ·rw [hs k hc]
   by_cases he : Qaa r (k : Int) = e
   ·rw [if_pos ⟨hc,he⟩,if_pos ⟨by simpa using hc,he⟩]
   ·rw [if_neg (fun h => he h.2),if_neg (fun h => he h.2)]; rfl
  ·rw [if_neg (fun h => hc h.1),if_neg (fun h => hc (by simpa using h.1))]; rfl
theorem rless_f (a b : SElem) : r4_Less.f a.f0 a.f1 a.f2 b.f0 b.f1 b.f2 = some (Qaq a b):=by
 unfold r4_Less.f Qaq
 by_cases h0 : a.f0 = b.f0
 ·by_cases h1 : a.f1 = b.f1
  ·simp [h0,h1]
  ·have : ¬ b.f0 < b.f0:=by omega
   simp [h0,h1]
 ·simp [h0]
theorem copyE_loop (l : List SElem) (hl : l.length <= 1000000000000) : ∀ d i,i + d = l.length -> Ev (fun k => r0_CopyElems.l0 k l (l.take i) (i : Int)) l
 | 0,i,h => by
  rw [List.take_of_length_le (by omega)]
  refine Ev.step (f:=fun _ => some l) (fun k => ?_) (Ev.now _)
  simp only [r0_CopyElems.l0]
  rw [if_neg (by omega)]
 | d + 1,i,h => by
  have hlt : i < l.length:=by omega
  have ih:=copyE_loop l hl d (i + 1) (by omega)
  rw [List.take_succ_eq_append_getElem hlt] at ih
  refine Ev.step (fun k => ?_) ih
  simp only [r0_CopyElems.l0]
  rw [if_pos (by omega),if_pos (by omega),Qaj _ _ hlt,if_pos (by rw [List.length_take]; omega),Qar (by omega) (by omega)]
  rfl
theorem copyE_ev (l : List SElem) (hl : l.length <= 1000000000000) : Ev (fun k => r0_CopyElems.f k l) l:=copyE_loop l hl l.length 0 (Nat.zero_add _)
theorem rest_reads {w : World} {g n c k : Nat} {l : List SElem} (h : Kd.C Qam w (some ⟨g,0,none⟩) n l) (hk : k < l.length) : Qax (fun (x : SElem) cs => cs = [.int .i64 x.f0, .int .i64 x.f1, .int .i64 x.f2]) Qam.sz w (some ⟨g,k * 3,none⟩) (n - k) (l.drop k):=by
 obtain ⟨hn,hm,hc⟩:=h
 have hn' : n = l.length:=hn.symm
 refine ⟨by rw [List.length_drop]; omega,by omega,fun _ => ⟨_,rfl,fun j p hj => ?_⟩⟩
 obtain ⟨ad,e,hc⟩:=hc (by omega)
 injection e with e
 subst e
 rw [List.getElem?_drop] at hj
 obtain ⟨cs,hs,hK,hcell⟩:=hc (k + j) p hj
 refine ⟨cs, hs, kElem_open hK, fun i u hu => ?_⟩
 have:=hcell i u hu
 have h3 : Qam.sz = 3:=rfl
 rw [Addr.add_lit] at this ⊢
 rw [h3] at this ⊢
 rw [show k * 3 + (j * 3 + i) = 0 + ((k + j) * 3 + i) by omega]
 exact this
attribute [local go_sem high] eqAElem
theorem nil_reads0 (W : World) (A : Option Addr) {n : Nat} {l : List SElem} (h : l.length = n) (h0 : n = 0) : Qax (fun (x : SElem) cs => cs = [.int .i64 x.f0, .int .i64 x.f1, .int .i64 x.f2]) Qam.sz W A n l:=⟨h,by omega,fun h => by omega⟩
theorem putN_calls {w : World} {base g c0 : Nat} {l : List SElem} (a b c : Int) (h : RE w base (.slice (some ⟨g,0,none⟩) l.length c0) l) (hbs : base <= w.heap.size) (hl : l.length <= 1000000) :
  Calls Tryd.prog 79 #[.slice (some ⟨g,0,none⟩) l.length c0, .agg #[.int .i64 a, .int .i64 b, .int .i64 c]] w fun ex w' => ∃ v : Value,ex = .returned v /\ RE w' base v (putL l ⟨a,b,c⟩) /\ Below w.heap.size w w':=by
 have hal : Below w.heap.size w (w.alloc (.cells #[.int .i64 a, .int .i64 b, .int .i64 c] 43)):=Qah (Below.refl _ _) _
 have HBX:=Zz.k hal
 have HS0:=Zz.k (S3.boxed w a b c 43)
 have hsz : (w.alloc (.cells #[.int .i64 a, .int .i64 b, .int .i64 c] 43)).heap.size = w.heap.size + 1:=by simp
 have HSZ:=Zz.k hsz
 have HR0:=Zz.k h
 have HBS:=Zz.k hbs
 have HL:=Zz.k hl
 have hnc:=(Kd.R_reads' h).2.1
 have HCE:=Zz.k (fun (W : World) (k : Nat) (hk : k <= l.length) (hb : Below w.heap.size w W) => by
  have hT:=Kd.R_take (Kd.R_below h hb) hk
  have hl1 : (l.take k).length = k:=by rw [List.length_take]; omega
  obtain ⟨K,hK⟩:=(copyE_ev (l.take k) (by omega)).rounds
  have:=r0_CopyElems.calls K (some ⟨g,0,none⟩) c0 (l.take k) (l.take k) W (Kd.R_reads' hT).2.2 (by omega) hK
  rw [hl1] at this
  exact this)
 clear hal hsz h hbs
 go_enter Tryd.func79,Tryd.ntmps79
 go_wp2
 go_loopg [5] l.length (fun gg s5 wr => ∃ k : Nat,k <= l.length /\ l.length - k <= gg /\ s5 = .int .i64 k /\ Zz (∀ i,i < k -> Qaq (Qaa l (i : Int)) ⟨a,b,c⟩ = true) /\ Zz (S3 wr w.heap.size a b c) /\ Zz (Below w.heap.size w wr) /\ Zz (w.heap.size + 1 <= wr.heap.size))
 case atStart => exact ⟨0,by omega,by omega,rfl,⟨fun i hi => by omega⟩,HS0,HBX,⟨Nat.le_of_eq HSZ.out.symm⟩⟩
 case round =>
  clear HS0 HBX HSZ
  obtain ⟨k,hk,hgk,rfl,HLT,HS0,HBX,HSZ⟩:=hrel
  have h0z : (0 : Int) <= (k : Int):=by omega
  have hkn1 : (k : Int) <= (l.length : Int):=by omega
  have hkc : (k : Int) <= (c0 : Int):=by omega
  by_cases hkn : k < l.length
  case' pos =>
   have hkz : (k : Int) < (l.length : Int):=by omega
   obtain ⟨x0,x1,x2⟩:=RE_at (Kd.R_below HR0.out HBX.out) hkn
   obtain ⟨s0,s1,s2⟩:=HS0.out
   generalize hx : Qaa l (k : Int) = x at x0 x1 x2
   have HX:=Zz.k hx
   clear hx
   go_upto_region 2 with (fail)
   refine stR (S:=fun w' => P3 w' g k x /\ S3 w' w.heap.size a b c) 12 t_r4_put.bits2 t_r4_put.tab2 (hS:=⟨⟨x0,x1,x2⟩,⟨s0,s1,s2⟩⟩) (h:=fun hS HT HW => ?_)
   clear x0 x1 x2 s0 s1 s2
   have HB1:=Zz.k (Qai HBX.out)
   have HZ1:=Zz.k (show w.heap.size + 1 <= wr.drew.heap.size from HSZ.out)
   clear HS0 HBX HSZ
   generalize wr.drew = wd at HB1 HZ1 hS ⊢
   refine pu HT 0 6 1 (h := ?_)
   refine pu HT 1 7 3 (h := ?_)
   refine pu HT 2 8 7 (h := ?_)
   refine pu HT 3 9 15 (h := ?_)
   refine pu HT 4 10 31 (h := ?_)
   refine pu HT 5 11 63 (h := ?_)
   refine pu HT 6 12 127 (h := ?_)
   refine pu HT 7 13 255 (h := ?_)
   refine tk HT HW hS 8 14 511 (h := ?_)
   refine tk HT HW hS 9 15 1023 (h := ?_)
   refine ca HT 10 (some 16) 2047 #[.agg #[.int .i64 x.f0, .int .i64 x.f1, .int .i64 x.f2], .agg #[.int .i64 a, .int .i64 b, .int .i64 c]] Tryd.func55 (h:=fun K hK => ?_)
   refine (r4_Less.calls x.f0 x.f1 x.f2 a b c (Qaq x ⟨a,b,c⟩) wd (rless_f x ⟨a,b,c⟩)).mono ?_
   rintro ex w3 ⟨rfl,hb3⟩
   refine ⟨_,rfl, ?_⟩
   have hS3 : P3 w3 g k x /\ S3 w3 w.heap.size a b c:=⟨⟨Qad hb3 hS.1.1,Qad hb3 hS.1.2.1,Qad hb3 hS.1.2.2⟩,S3.below hS.2 hb3⟩
   have HB3:=Zz.k (Qap HB1.out hb3)
   have HZ3:=Zz.k (Nat.le_trans HZ1.out hb3.size)
   refine hK.out _ _ hS3 (fun hS => ?_)
   clear hK hS3 HB1 HZ1 hb3
   refine nm (h := ?_)
   refine pu HT 11 17 4095 (h := ?_)
   refine dn HT (h := ?_)
   obtain ⟨⟨x0,x1,x2⟩,⟨s0,s1,s2⟩⟩:=hS
   clear HT HW
   have HLE:=Zz.k (Eq.refl (Qaq x ⟨a,b,c⟩))
   rcases Bool.eq_false_or_eq_true (Qaq x ⟨a,b,c⟩) with hle | hle
   ·rw [hle]
    obtain ⟨g1,rfl⟩ : ∃ g1,gk = g1 + 1:=⟨gk - 1,by omega⟩
    have HLT2:=Zz.k (show ∀ i,i < k + 1 -> Qaq (Qaa l (i : Int)) ⟨a,b,c⟩ = true from fun i hi => by
     rcases Nat.lt_or_ge i k with h1 | h1
     ·exact HLT.out i h1
     ·obtain rfl : i = k:=by omega
      rw [HX.out]; exact hle)
    have HS3:=Zz.k (show S3 w3 w.heap.size a b c from ⟨s0,s1,s2⟩)
    clear hle x0 x1 x2 s0 s1 s2 HLE
    go_wp2
    go_roundg g1
    case measure => omega
    case rel => exact ⟨k + 1,by omega,by omega,by go_num,HLT2,HS3,HB3,HZ3⟩
   have HPU:=Zz.k (putL_at ⟨a,b,c⟩ l k hk HLT.out (fun _ => by rw [HX.out]; exact hle))
   rw [hle]
   clear HLE hle
   go_upto_region 4 with (fail)
   refine stR (S:=fun w' => P3 w' g k x /\ S3 w' w.heap.size a b c) 12 t_r4_put.bits4 t_r4_put.tab4 (hS:=⟨⟨x0,x1,x2⟩,⟨s0,s1,s2⟩⟩) (h:=fun hS HT HW => ?_)
   clear x0 x1 x2 s0 s1 s2
   have HB4:=Zz.k (Qai HB3.out)
   have HZ4:=Zz.k (show w.heap.size + 1 <= w3.drew.heap.size from HZ3.out)
   clear HB3 HZ3
   generalize w3.drew = wz at HB4 HZ4 hS ⊢
   refine pu HT 0 20 1 (h := ?_)
   refine pu HT 1 21 3 (h := ?_)
   refine pu HT 2 22 7 (h := ?_)
   refine pu HT 3 23 15 (h := ?_)
   refine pu HT 4 24 31 (h := ?_)
   refine pu HT 5 25 63 (h := ?_)
   refine pu HT 6 26 127 (h := ?_)
   refine pu HT 7 27 255 (h := ?_)
   refine tk HT HW hS 8 28 511 (h := ?_)
   refine tk HT HW hS 9 29 1023 (h := ?_)
   refine pu HT 10 30 2047 (h := ?_)
   refine pu HT 11 31 4095 (h := ?_)
   have heq : (x.f0 == a && (x.f1 == b && (x.f2 == c))) = decide (x = ⟨a,b,c⟩):=eq3_dec x ⟨a,b,c⟩
   rw [heq]
   refine dn HT (h := ?_)
   have HS0:=Zz.k hS.2
   clear HT HW hS heq
   by_cases hxe : x = ⟨a,b,c⟩
   ·rw [Zd hxe]
    have HPUT:=Zz.k (show putL l ⟨a,b,c⟩ = l by rw [HPU.out,if_pos ⟨hkn,by rw [HX.out]; exact hxe⟩])
    clear hxe
    go_wp2
    go_ret
    exact ⟨_,rfl,by rw [HPUT.out]; exact Kd.R_below HR0.out HB4.out,HB4.out⟩
   rw [Ze hxe]
   have HPUT:=Zz.k (show putL l ⟨a,b,c⟩ = l.take k ++ [⟨a,b,c⟩] ++ l.drop k by rw [HPU.out,if_neg (fun hh => hxe (by rw [<- HX.out]; exact hh.2))])
   have HBX:=HB4
   have HSZ:=HZ4
   have hck : c0 ≠ k:=by omega
   have HRR:=Zz.k (fun (W : World) (hb : Below w.heap.size w W) => rest_reads (k:=k) (c:=c0) (Kd.R_reads' (Kd.R_below HR0.out hb)).2.2 hkn)
   clear hxe HB4 HZ4 HPU HLT HX
  case' neg =>
   have hkz : ¬ (k : Int) < (l.length : Int):=by omega
   go_upto_region 2 with (fail)
   refine stR (S:=fun _ => True) 12 t_r4_put.bits2 t_r4_put.tab2 (hS:=trivial) (h:=fun hS HT HW => ?_)
   refine pu HT 0 6 1 (h := ?_)
   refine pu HT 1 7 3 (h := ?_)
   refine pu HT 2 8 7 (h := ?_)
   refine pu HT 3 9 15 (h := ?_)
   refine pu HT 4 10 31 (h := ?_)
   refine off HT 5 11 63 (h := ?_)
   refine off HT 6 12 127 (h := ?_)
   refine off HT 7 13 255 (h := ?_)
   refine off HT 8 14 511 (h := ?_)
   refine off HT 9 15 1023 (h := ?_)
   refine off HT 10 16 2047 (h := ?_)
   refine pu HT 11 17 4095 (h := ?_)
   refine dn HT (h := ?_)
   clear HT HW hS
   go_upto_region 4 with (fail)
   refine stR (S:=fun _ => True) 12 t_r4_put.bits4 t_r4_put.tab4 (hS:=trivial) (h:=fun hS HT HW => ?_)
   refine pu HT 0 20 1 (h := ?_)
   refine pu HT 1 21 3 (h := ?_)
   refine pu HT 2 22 7 (h := ?_)
   refine pu HT 3 23 15 (h := ?_)
   refine pu HT 4 24 31 (h := ?_)
   refine off HT 5 25 63 (h := ?_)
   refine off HT 6 26 127 (h := ?_)
   refine off HT 7 27 255 (h := ?_)
   refine off HT 8 28 511 (h := ?_)
   refine off HT 9 29 1023 (h := ?_)
   refine off HT 10 30 2047 (h := ?_)
   refine pu HT 11 31 4095 (h := ?_)
   refine dn HT (h := ?_)
   clear HT HW hS
   have HPUT:=Zz.k (show putL l ⟨a,b,c⟩ = l.take k ++ [⟨a,b,c⟩] ++ l.drop k by rw [putL_at ⟨a,b,c⟩ l k hk HLT.out (fun hh => absurd hh hkn),if_neg (fun hh => hkn hh.1)])
   have HBX:=Zz.k (Qai (Qai HBX.out))
   have HSZ:=Zz.k (show w.heap.size + 1 <= wr.drew.drew.heap.size from HSZ.out)
   have HS0:=Zz.k (show S3 wr.drew.drew w.heap.size a b c from HS0.out)
   generalize wr.drew.drew = wz at HBX HSZ HS0 ⊢
   have HRR:=Zz.k (fun {A : Option Addr} (W : World) (hb : Below w.heap.size w W) => nil_reads0 W A (l:=l.drop k) (n:=l.length - k) List.length_drop (by omega))
   clear HLT
   rcases Nat.lt_or_ge k c0 with hck0 | hck0
   rotate_left
   ·obtain rfl : k = c0:=by omega
    replace HRR:=Zz.k (fun {A : Option Addr} (W : World) (hb : Below w.heap.size w W) => nil_reads0 W A (l:=l.drop k) (n:=0) (by rw [List.length_drop]; omega) rfl)
    go_upto_region 6 with (fail)
    have HB6:=Zz.k (Qai HBX.out)
    have HZ6:=Zz.k (show w.heap.size + 1 <= wz.drew.heap.size from HSZ.out)
    refine stR (S:=fun w' => S3 w' w.heap.size a b c) 12 t_r4_put.bits6 t_r4_put.tab6 (hS:=HS0.out) (h:=fun hS HT HW => ?_)
    refine pu HT 0 33 1 (h := ?_)
    refine pu HT 1 34 3 (h := ?_)
    refine pu HT 2 35 7 (h := ?_)
    refine tk HT HW hS 4 37 23 (h := ?_)
    refine pu HT 7 40 151 (h := ?_)
    refine pu HT 8 41 407 (h := ?_)
    refine pu HT 9 42 919 (h := ?_)
    clear HS0 HBX HSZ
    generalize wz.drew = w1 at HB6 HZ6 hS ⊢
    refine two_ (i:=3) (j:=5) (Ni:=some 36) (Nj:=some 38) (bA 12 927) (bA 12 951) rfl rfl rfl rfl (two_of HT.out (by kernel_rfl)) (by decide) (by decide) (fun K hK => ?_) (fun K hK => ?_)
    ·refine gS Tryd.func83 #[.slice (some ⟨g,0,none⟩) k k] (h := ?_)
     refine (HCE.out w1 k hk HB6.out).mono ?_
     rintro e w3 ⟨v3,rfl,hR3,hb3⟩
     refine ⟨_,rfl, ?_⟩
     have HS3:=Zz.k (S3.below hS hb3)
     have hal3 : Below w3.heap.size w3 (w3.alloc (.cells #[.int .i64 a, .int .i64 b, .int .i64 c] 43)):=Qah (Below.refl _ _) _
     have HA3:=Zz.k hal3
     have HOWN:=Zz.k (fun k (hk : v3.ownBlock = some k) => Nat.le_trans HZ6.out (Kd.R_base hR3 k hk))
     have HBW:=Zz.k (Qah (Qap HB6.out hb3) (.cells #[.int .i64 a, .int .i64 b, .int .i64 c] 43))
     have HR3:=Zz.k (Kd.R_below (Kd.R_lower hR3 HB6.out.size) hal3)
     have HRD:=Zz.k (S3.reads (S3.boxed w3 a b c 43))
     have HZW:=Zz.k (show w.heap.size + 1 <= (w3.alloc (.cells #[.int .i64 a, .int .i64 b, .int .i64 c] 43)).heap.size from Nat.le_trans HZ6.out (Nat.le_trans hb3.size hal3.size))
     refine hK.out _ _ HS3.out (fun hS => ?_)
     clear hK hR3 hb3 hal3
     refine nm (h := ?_)
     refine exS HT 5 (some 38) 959 (.slice (some ⟨w3.heap.size,0,none⟩) 1 1) (w3.alloc (.cells #[.int .i64 a, .int .i64 b, .int .i64 c] 43)) (hrun := ?_) (hS:=S3.below HS3.out HA3.out) (h:=fun hS => ?_)
     ·clear HT HW hS
      go_simp
     refine nm (h := ?_)
     refine on HT 6 (some 39) 1023 (h:=fun K hK => ?_)
     refine Kd.R_append_rows_step Qam (w0:=w) w.heap.size (by rfl) (.tmp 36) (.tmp 38) 23 43 (.agg #[.int .i64 0, .int .i64 0, .int .i64 0]) 24 rfl Tryd.underlying23 infoEl rfl (by decide) (by decide) v3 (l.take k) [⟨a,b,c⟩] (some ⟨w3.heap.size,0,none⟩) 1 1 (fun _ => True) (fun k => some k ≠ v3.ownBlock) rfl rfl HR3.out HRD.out (fun x cs e => by subst e; exact Qan _ _ _ x) (fun k hk => ⟨trivial,hk⟩) (fun k hk => trivial) HBW.out HBW.out.size (by rw [List.length_take]; omega) (fun v4 w4 hR4 hb4 hg4 hat4 => ?_)
     have hown4 : ∀ k,v4.ownBlock = some k -> w.heap.size + 1 <= k:=fun k hk => by
      have hz:=HZW.out
      rcases hat4 with e | ⟨b',e,hb'⟩
      ·exact HOWN.out k (e.symm.trans hk)
      ·rw [e] at hk; injection hk with hk; omega
     have hS4 : S3 w4 w.heap.size a b c:=⟨Qaf hg4 (fun e => by have:=HOWN.out _ e.symm; simp only at this; omega) hS.1,Qaf hg4 (fun e => by have:=HOWN.out _ e.symm; simp only at this; omega) hS.2.1,Qaf hg4 (fun e => by have:=HOWN.out _ e.symm; simp only at this; omega) hS.2.2⟩
     have HR4:=Zz.k hR4
     have HB4:=Zz.k hb4
     have HW4:=Zz.k hown4
     refine hK.out _ _ hS4 (fun hS => ?_)
     clear hK hR4 hb4 hg4 hat4 hown4 hS4
     refine nm (h := ?_)
     refine on HT 10 (some 43) 2047 (h:=fun K hK => ?_)
     refine Kd.R_append_rows_step Qam (w0:=w) w.heap.size (by rfl) (.tmp 39) (.tmp 42) 23 43 (.agg #[.int .i64 0, .int .i64 0, .int .i64 0]) 24 rfl Tryd.underlying23 infoEl rfl (by decide) (by decide) v4 (l.take k ++ [⟨a,b,c⟩]) (l.drop k) _ _ _ (fun _ => True) (fun k => some k ≠ v4.ownBlock) rfl rfl HR4.out (HRR.out _ HB4.out) (fun x cs e => by subst e; exact Qan _ _ _ x) (fun k hk => ⟨trivial,hk⟩) (fun k hk => trivial) HB4.out HB4.out.size (by rw [List.length_append,List.length_take,List.length_singleton]; omega) (fun v5 w5 hR5 hb5 hg5 hat5 => ?_)
     have hS5 : S3 w5 w.heap.size a b c:=⟨Qaf hg5 (fun e => by have:=HW4.out _ e.symm; simp only at this; omega) hS.1,Qaf hg5 (fun e => by have:=HW4.out _ e.symm; simp only at this; omega) hS.2.1,Qaf hg5 (fun e => by have:=HW4.out _ e.symm; simp only at this; omega) hS.2.2⟩
     have HR5:=Zz.k hR5
     have HB5:=Zz.k hb5
     refine hK.out _ _ hS5 (fun hS => ?_)
     clear hK hR5 hb5 hg5 hat5 hS5
     refine nm (h := ?_)
     refine pu HT 11 4 4095 (h := ?_)
     refine dn HT (h := ?_)
     clear HT HW hS
     go_wp2
     go_ret
     exact ⟨v5,re,by rw [HPUT.out]; exact Kd.R_lower HR5.out HBS.out,HB5.out⟩
    ·have hal1 : Below w1.heap.size w1 (w1.alloc (.cells #[.int .i64 a, .int .i64 b, .int .i64 c] 43)):=Qah (Below.refl _ _) _
     have HA1:=Zz.k hal1
     have HR1:=Zz.k (S3.boxed w1 a b c 43)
     have HB1:=Zz.k (Qap HB6.out hal1)
     refine exP hK (.slice (some ⟨w1.heap.size,0,none⟩) 1 1) (w1.alloc (.cells #[.int .i64 a, .int .i64 b, .int .i64 c] 43)) (hrun := ?_) (hS:=S3.below hS HA1.out) (h:=fun hS => ?_)
     ·clear HT HW hS hK
      go_simp
     clear hK hal1
     refine nm (h := ?_)
     refine ca HT 3 (some 36) 959 #[.slice (some ⟨g,0,none⟩) k k] Tryd.func83 (h:=fun K hK => ?_)
     refine (HCE.out _ k hk HB1.out).mono ?_
     rintro e w3 ⟨v3,rfl,hR3,hb3⟩
     refine ⟨_,rfl, ?_⟩
     have HS3:=Zz.k (S3.below hS hb3)
     have HOWN:=Zz.k (fun k (hk : v3.ownBlock = some k) => Nat.le_trans HZ6.out (Nat.le_trans HA1.out.size (Kd.R_base hR3 k hk)))
     have HBW:=Zz.k (Qap HB1.out hb3)
     have HR3:=Zz.k (Kd.R_lower hR3 HB1.out.size)
     have HRD:=Zz.k (S3.reads (S3.below HR1.out hb3))
     have HZW:=Zz.k (show w.heap.size + 1 <= w3.heap.size from Nat.le_trans HZ6.out (Nat.le_trans HA1.out.size hb3.size))
     refine hK.out _ _ HS3.out (fun hS => ?_)
     clear hK hR3 hb3
     refine nm (h := ?_)
     refine on HT 6 (some 39) 1023 (h:=fun K hK => ?_)
     refine Kd.R_append_rows_step Qam (w0:=w) w.heap.size (by rfl) (.tmp 36) (.tmp 38) 23 43 (.agg #[.int .i64 0, .int .i64 0, .int .i64 0]) 24 rfl Tryd.underlying23 infoEl rfl (by decide) (by decide) v3 (l.take k) [⟨a,b,c⟩] (some ⟨w1.heap.size,0,none⟩) 1 1 (fun _ => True) (fun k => some k ≠ v3.ownBlock) rfl rfl HR3.out HRD.out (fun x cs e => by subst e; exact Qan _ _ _ x) (fun k hk => ⟨trivial,hk⟩) (fun k hk => trivial) HBW.out HBW.out.size (by rw [List.length_take]; omega) (fun v4 w4 hR4 hb4 hg4 hat4 => ?_)
     have hown4 : ∀ k,v4.ownBlock = some k -> w.heap.size + 1 <= k:=fun k hk => by
      have hz:=HZW.out
      rcases hat4 with e | ⟨b',e,hb'⟩
      ·exact HOWN.out k (e.symm.trans hk)
      ·rw [e] at hk; injection hk with hk; omega
     have hS4 : S3 w4 w.heap.size a b c:=⟨Qaf hg4 (fun e => by have:=HOWN.out _ e.symm; simp only at this; omega) hS.1,Qaf hg4 (fun e => by have:=HOWN.out _ e.symm; simp only at this; omega) hS.2.1,Qaf hg4 (fun e => by have:=HOWN.out _ e.symm; simp only at this; omega) hS.2.2⟩
     have HR4:=Zz.k hR4
     have HB4:=Zz.k hb4
     have HW4:=Zz.k hown4
     refine hK.out _ _ hS4 (fun hS => ?_)
     clear hK hR4 hb4 hg4 hat4 hown4 hS4
     refine nm (h := ?_)
     refine on HT 10 (some 43) 2047 (h:=fun K hK => ?_)
     refine Kd.R_append_rows_step Qam (w0:=w) w.heap.size (by rfl) (.tmp 39) (.tmp 42) 23 43 (.agg #[.int .i64 0, .int .i64 0, .int .i64 0]) 24 rfl Tryd.underlying23 infoEl rfl (by decide) (by decide) v4 (l.take k ++ [⟨a,b,c⟩]) (l.drop k) _ _ _ (fun _ => True) (fun k => some k ≠ v4.ownBlock) rfl rfl HR4.out (HRR.out _ HB4.out) (fun x cs e => by subst e; exact Qan _ _ _ x) (fun k hk => ⟨trivial,hk⟩) (fun k hk => trivial) HB4.out HB4.out.size (by rw [List.length_append,List.length_take,List.length_singleton]; omega) (fun v5 w5 hR5 hb5 hg5 hat5 => ?_)
     have hS5 : S3 w5 w.heap.size a b c:=⟨Qaf hg5 (fun e => by have:=HW4.out _ e.symm; simp only at this; omega) hS.1,Qaf hg5 (fun e => by have:=HW4.out _ e.symm; simp only at this; omega) hS.2.1,Qaf hg5 (fun e => by have:=HW4.out _ e.symm; simp only at this; omega) hS.2.2⟩
     have HR5:=Zz.k hR5
     have HB5:=Zz.k hb5
     refine hK.out _ _ hS5 (fun hS => ?_)
     clear hK hR5 hb5 hg5 hat5 hS5
     refine nm (h := ?_)
     refine pu HT 11 4 4095 (h := ?_)
     refine dn HT (h := ?_)
     clear HT HW hS
     go_wp2
     go_ret
     exact ⟨v5,re,by rw [HPUT.out]; exact Kd.R_lower HR5.out HBS.out,HB5.out⟩
   have hck : c0 ≠ k:=by omega
  all_goals
   go_upto_region 6 with (fail)
   have HB6:=Zz.k (Qai HBX.out)
   have HZ6:=Zz.k (show w.heap.size + 1 <= wz.drew.heap.size from HSZ.out)
   refine stR (S:=fun w' => S3 w' w.heap.size a b c) 12 t_r4_put.bits6 t_r4_put.tab6 (hS:=HS0.out) (h:=fun hS HT HW => ?_)
   refine pu HT 0 33 1 (h := ?_)
   refine pu HT 1 34 3 (h := ?_)
   refine pu HT 2 35 7 (h := ?_)
   refine tk HT HW hS 4 37 23 (h := ?_)
   refine pu HT 7 40 151 (h := ?_)
   refine pu HT 8 41 407 (h := ?_)
   refine pu HT 9 42 919 (h := ?_)
   clear HS0 HBX HSZ
   generalize wz.drew = w1 at HB6 HZ6 hS ⊢
   refine two_ (i:=3) (j:=5) (Ni:=some 36) (Nj:=some 38) (bA 12 927) (bA 12 951) rfl rfl rfl rfl (two_of HT.out (by kernel_rfl)) (by decide) (by decide) (fun K hK => ?_) (fun K hK => ?_)
   ·refine gS Tryd.func83 #[.slice (some ⟨g,0,none⟩) k c0] (h := ?_)
    refine (HCE.out w1 k hk HB6.out).mono ?_
    rintro e w3 ⟨v3,rfl,hR3,hb3⟩
    refine ⟨_,rfl, ?_⟩
    have HS3:=Zz.k (S3.below hS hb3)
    have hal3 : Below w3.heap.size w3 (w3.alloc (.cells #[.int .i64 a, .int .i64 b, .int .i64 c] 43)):=Qah (Below.refl _ _) _
    have HA3:=Zz.k hal3
    have HOWN:=Zz.k (fun k (hk : v3.ownBlock = some k) => Nat.le_trans HZ6.out (Kd.R_base hR3 k hk))
    have HBW:=Zz.k (Qah (Qap HB6.out hb3) (.cells #[.int .i64 a, .int .i64 b, .int .i64 c] 43))
    have HR3:=Zz.k (Kd.R_below (Kd.R_lower hR3 HB6.out.size) hal3)
    have HRD:=Zz.k (S3.reads (S3.boxed w3 a b c 43))
    have HZW:=Zz.k (show w.heap.size + 1 <= (w3.alloc (.cells #[.int .i64 a, .int .i64 b, .int .i64 c] 43)).heap.size from Nat.le_trans HZ6.out (Nat.le_trans hb3.size hal3.size))
    refine hK.out _ _ HS3.out (fun hS => ?_)
    clear hK hR3 hb3 hal3
    refine nm (h := ?_)
    refine exS HT 5 (some 38) 959 (.slice (some ⟨w3.heap.size,0,none⟩) 1 1) (w3.alloc (.cells #[.int .i64 a, .int .i64 b, .int .i64 c] 43)) (hrun := ?_) (hS:=S3.below HS3.out HA3.out) (h:=fun hS => ?_)
    ·clear HT HW hS
     go_simp
    refine nm (h := ?_)
    refine on HT 6 (some 39) 1023 (h:=fun K hK => ?_)
    refine Kd.R_append_rows_step Qam (w0:=w) w.heap.size (by rfl) (.tmp 36) (.tmp 38) 23 43 (.agg #[.int .i64 0, .int .i64 0, .int .i64 0]) 24 rfl Tryd.underlying23 infoEl rfl (by decide) (by decide) v3 (l.take k) [⟨a,b,c⟩] (some ⟨w3.heap.size,0,none⟩) 1 1 (fun _ => True) (fun k => some k ≠ v3.ownBlock) rfl rfl HR3.out HRD.out (fun x cs e => by subst e; exact Qan _ _ _ x) (fun k hk => ⟨trivial,hk⟩) (fun k hk => trivial) HBW.out HBW.out.size (by rw [List.length_take]; omega) (fun v4 w4 hR4 hb4 hg4 hat4 => ?_)
    have hown4 : ∀ k,v4.ownBlock = some k -> w.heap.size + 1 <= k:=fun k hk => by
     have hz:=HZW.out
     rcases hat4 with e | ⟨b',e,hb'⟩
     ·exact HOWN.out k (e.symm.trans hk)
     ·rw [e] at hk; injection hk with hk; omega
    have hS4 : S3 w4 w.heap.size a b c:=⟨Qaf hg4 (fun e => by have:=HOWN.out _ e.symm; simp only at this; omega) hS.1,Qaf hg4 (fun e => by have:=HOWN.out _ e.symm; simp only at this; omega) hS.2.1,Qaf hg4 (fun e => by have:=HOWN.out _ e.symm; simp only at this; omega) hS.2.2⟩
    have HR4:=Zz.k hR4
    have HB4:=Zz.k hb4
    have HW4:=Zz.k hown4
    refine hK.out _ _ hS4 (fun hS => ?_)
    clear hK hR4 hb4 hg4 hat4 hown4 hS4
    refine nm (h := ?_)
    refine on HT 10 (some 43) 2047 (h:=fun K hK => ?_)
    refine Kd.R_append_rows_step Qam (w0:=w) w.heap.size (by rfl) (.tmp 39) (.tmp 42) 23 43 (.agg #[.int .i64 0, .int .i64 0, .int .i64 0]) 24 rfl Tryd.underlying23 infoEl rfl (by decide) (by decide) v4 (l.take k ++ [⟨a,b,c⟩]) (l.drop k) _ _ _ (fun _ => True) (fun k => some k ≠ v4.ownBlock) rfl rfl HR4.out (HRR.out _ HB4.out) (fun x cs e => by subst e; exact Qan _ _ _ x) (fun k hk => ⟨trivial,hk⟩) (fun k hk => trivial) HB4.out HB4.out.size (by rw [List.length_append,List.length_take,List.length_singleton]; omega) (fun v5 w5 hR5 hb5 hg5 hat5 => ?_)
    have hS5 : S3 w5 w.heap.size a b c:=⟨Qaf hg5 (fun e => by have:=HW4.out _ e.symm; simp only at this; omega) hS.1,Qaf hg5 (fun e => by have:=HW4.out _ e.symm; simp only at this; omega) hS.2.1,Qaf hg5 (fun e => by have:=HW4.out _ e.symm; simp only at this; omega) hS.2.2⟩
    have HR5:=Zz.k hR5
    have HB5:=Zz.k hb5
    refine hK.out _ _ hS5 (fun hS => ?_)
    clear hK hR5 hb5 hg5 hat5 hS5
    refine nm (h := ?_)
    refine pu HT 11 4 4095 (h := ?_)
    refine dn HT (h := ?_)
    clear HT HW hS
    go_wp2
    go_ret
    exact ⟨v5,re,by rw [HPUT.out]; exact Kd.R_lower HR5.out HBS.out,HB5.out⟩
   ·have hal1 : Below w1.heap.size w1 (w1.alloc (.cells #[.int .i64 a, .int .i64 b, .int .i64 c] 43)):=Qah (Below.refl _ _) _
    have HA1:=Zz.k hal1
    have HR1:=Zz.k (S3.boxed w1 a b c 43)
    have HB1:=Zz.k (Qap HB6.out hal1)
    refine exP hK (.slice (some ⟨w1.heap.size,0,none⟩) 1 1) (w1.alloc (.cells #[.int .i64 a, .int .i64 b, .int .i64 c] 43)) (hrun := ?_) (hS:=S3.below hS HA1.out) (h:=fun hS => ?_)
    ·clear HT HW hS hK
     go_simp
    clear hK hal1
    refine nm (h := ?_)
    refine ca HT 3 (some 36) 959 #[.slice (some ⟨g,0,none⟩) k c0] Tryd.func83 (h:=fun K hK => ?_)
    refine (HCE.out _ k hk HB1.out).mono ?_
    rintro e w3 ⟨v3,rfl,hR3,hb3⟩
    refine ⟨_,rfl, ?_⟩
    have HS3:=Zz.k (S3.below hS hb3)
    have HOWN:=Zz.k (fun k (hk : v3.ownBlock = some k) => Nat.le_trans HZ6.out (Nat.le_trans HA1.out.size (Kd.R_base hR3 k hk)))
    have HBW:=Zz.k (Qap HB1.out hb3)
    have HR3:=Zz.k (Kd.R_lower hR3 HB1.out.size)
    have HRD:=Zz.k (S3.reads (S3.below HR1.out hb3))
    have HZW:=Zz.k (show w.heap.size + 1 <= w3.heap.size from Nat.le_trans HZ6.out (Nat.le_trans HA1.out.size hb3.size))
    refine hK.out _ _ HS3.out (fun hS => ?_)
    clear hK hR3 hb3
    refine nm (h := ?_)
    refine on HT 6 (some 39) 1023 (h:=fun K hK => ?_)
    refine Kd.R_append_rows_step Qam (w0:=w) w.heap.size (by rfl) (.tmp 36) (.tmp 38) 23 43 (.agg #[.int .i64 0, .int .i64 0, .int .i64 0]) 24 rfl Tryd.underlying23 infoEl rfl (by decide) (by decide) v3 (l.take k) [⟨a,b,c⟩] (some ⟨w1.heap.size,0,none⟩) 1 1 (fun _ => True) (fun k => some k ≠ v3.ownBlock) rfl rfl HR3.out HRD.out (fun x cs e => by subst e; exact Qan _ _ _ x) (fun k hk => ⟨trivial,hk⟩) (fun k hk => trivial) HBW.out HBW.out.size (by rw [List.length_take]; omega) (fun v4 w4 hR4 hb4 hg4 hat4 => ?_)
    have hown4 : ∀ k,v4.ownBlock = some k -> w.heap.size + 1 <= k:=fun k hk => by
     have hz:=HZW.out
     rcases hat4 with e | ⟨b',e,hb'⟩
     ·exact HOWN.out k (e.symm.trans hk)
     ·rw [e] at hk; injection hk with hk; omega
    have hS4 : S3 w4 w.heap.size a b c:=⟨Qaf hg4 (fun e => by have:=HOWN.out _ e.symm; simp only at this; omega) hS.1,Qaf hg4 (fun e => by have:=HOWN.out _ e.symm; simp only at this; omega) hS.2.1,Qaf hg4 (fun e => by have:=HOWN.out _ e.symm; simp only at this; omega) hS.2.2⟩
    have HR4:=Zz.k hR4
    have HB4:=Zz.k hb4
    have HW4:=Zz.k hown4
    refine hK.out _ _ hS4 (fun hS => ?_)
    clear hK hR4 hb4 hg4 hat4 hown4 hS4
    refine nm (h := ?_)
    refine on HT 10 (some 43) 2047 (h:=fun K hK => ?_)
    refine Kd.R_append_rows_step Qam (w0:=w) w.heap.size (by rfl) (.tmp 39) (.tmp 42) 23 43 (.agg #[.int .i64 0, .int .i64 0, .int .i64 0]) 24 rfl Tryd.underlying23 infoEl rfl (by decide) (by decide) v4 (l.take k ++ [⟨a,b,c⟩]) (l.drop k) _ _ _ (fun _ => True) (fun k => some k ≠ v4.ownBlock) rfl rfl HR4.out (HRR.out _ HB4.out) (fun x cs e => by subst e; exact Qan _ _ _ x) (fun k hk => ⟨trivial,hk⟩) (fun k hk => trivial) HB4.out HB4.out.size (by rw [List.length_append,List.length_take,List.length_singleton]; omega) (fun v5 w5 hR5 hb5 hg5 hat5 => ?_)
    have hS5 : S3 w5 w.heap.size a b c:=⟨Qaf hg5 (fun e => by have:=HW4.out _ e.symm; simp only at this; omega) hS.1,Qaf hg5 (fun e => by have:=HW4.out _ e.symm; simp only at this; omega) hS.2.1,Qaf hg5 (fun e => by have:=HW4.out _ e.symm; simp only at this; omega) hS.2.2⟩
    have HR5:=Zz.k hR5
    have HB5:=Zz.k hb5
    refine hK.out _ _ hS5 (fun hS => ?_)
    clear hK hR5 hb5 hg5 hat5 hS5
    refine nm (h := ?_)
    refine pu HT 11 4 4095 (h := ?_)
    refine dn HT (h := ?_)
    clear HT HW hS
    go_wp2
    go_ret
    exact ⟨v5,re,by rw [HPUT.out]; exact Kd.R_lower HR5.out HBS.out,HB5.out⟩
end
end Go.Proofs.YtonoaflfobajcaaDoor.L
end
