/- The walk of FnTickGateAll. -/
import Derived.Test.YtlgfmnognhojnaaGl
import Derived.Test.YtlgfmnognhojnaaGh
namespace Go.Proofs.Ytlgfmnognhojnaa
open Go.RowKit
set_option maxRecDepth 8000 in
set_option maxHeartbeats 8000000 in
theorem FnTickGateAll_walk (A : Option Addr) (c : Nat) (l : List Int) (w : World) (hi : CodeIn w A c l) :
    Calls Try.prog 4 #[.slice A l.length c] w (Ret w (.bool true)) := by
  have hc := hi.1
  have hlc := hi.2.1.1
  unfold maxLen at hc
  have HI := Lib.hid hi
  clear hi
  by_cases hbig : 1048576 < l.length
  · go_enter Try.func4, Try.ntmps4
    go_wp2
    go_ret
    exact ⟨rfl, Below.refl _ _⟩
  go_enter Try.func4, Try.ntmps4
  go_wp2_with fail
  refine (DrawTickGate_ _ _ _ _ HI.out).mono ?_
  rintro e w1 ⟨b, n, o, f, h, t, T, C, At, Ac, ct, cc, now, rfl, hlT, hlC, ht0, ht1, hn0, hn1, oT, oC, hb1⟩
  have HB := Lib.hid hb1
  have T_1 := Lib.hid oT
  have C_1 := Lib.hid oC
  have hk1 : Below w1.heap.size w1 w1 := Below.refl _ _
  have hlT2 : T.length ≤ 2000000 := by omega
  have hlC2 : C.length ≤ 2000000 := by omega
  obtain ⟨r, hr⟩ : ∃ r, tickO ⟨b, n, o, T, C, f, h, t⟩ now = r := ⟨_, rfl⟩
  obtain ⟨xx, hx⟩ : ∃ x, tickV ⟨b, n, o, T, C, f, h, t⟩ now = x := ⟨_, rfl⟩
  obtain ⟨b', n', o', T', C', f', h', t'⟩ := xx
  obtain ⟨mT, hmT⟩ : ∃ m, T'.length = m := ⟨_, rfl⟩
  obtain ⟨mC, hmC⟩ : ∃ m, C'.length = m := ⟨_, rfl⟩
  have hfit := tickV_fit hx
  have hlT' : T'.length ≤ 2000000 := by omega
  have hlC' : C'.length ≤ 2000000 := by omega
  have hmT9 : mT ≤ 10 := by omega
  have hmC9 : mC ≤ 10 := by omega
  have HR := Lib.hid hr
  have HX := Lib.hid hx
  have HMT := Lib.hid hmT
  have HMC := Lib.hid hmC
  clear hr hx hmT hmC hfit oT oC hb1
  obtain ⟨w2, hw2⟩ : ∃ x, x = w1.alloc (.cells #[.int .i64 b, .int .i64 n, .int .i64 o, .slice At T.length ct, .slice Ac C.length cc, .int .i64 f, .int .i64 h, .int .i64 t] 28) := ⟨_, rfl⟩
  have hb2 : Below w1.heap.size w1 w2 := by subst hw2; exact (Below.refl _ _).alloc (Nat.le_refl _) _
  have pk2 : BlAt w2 w1.heap.size #[.int .i64 b, .int .i64 n, .int .i64 o, .slice At T.length ct, .slice Ac C.length cc, .int .i64 f, .int .i64 h, .int .i64 t] := by subst hw2; exact BlAt.new _ _ _
  have WQ2 := Lib.hid hw2
  have hk2 := bstep hk1 hb2 hk1.size
  have T_2 := Lib.hid ((T_1.out).below hb2)
  have C_2 := Lib.hid ((C_1.out).below hb2)
  have BG_2 := Lib.hid pk2
  clear hw2 hb2 pk2
  obtain ⟨x20, x21, x22, x23, x24, x25, x26, x27⟩ := gcells (BG_2.out)
  go_wp2_with fail
  rw [← WQ2.out]
  refine (impl_TickGate b n o f h t T C _ _ _ _ _ _ _ rfl rfl hlT2 hlC2 (T_2.out).1 (C_2.out).1 now r b' n' o' f' h' t' T' C' mT mC HR.out HX.out HMT.out HMC.out).mono ?_
  rintro e w3 ⟨A1, c1, D1, d1, rfl, oT1, oC1, hb3⟩
  have hk3 := bstep hk2 hb3 hk2.size
  have T_3 := Lib.hid ((T_2.out).below hb3)
  have C_3 := Lib.hid ((C_2.out).below hb3)
  have BG_3 := Lib.hid ((BG_2.out).below_ hb3)
  have U_3 := Lib.hid oT1
  clear oT1
  have X_3 := Lib.hid oC1
  clear oC1
  clear x20 x21 x22 x23 x24 x25 x26 x27
  clear hb3
  obtain ⟨w4, hw4⟩ : ∃ x, x = w3.alloc (.cells #[.int .i64 b', .int .i64 n', .int .i64 o', .slice A1 mT c1, .slice D1 mC d1, .int .i64 f', .int .i64 h', .int .i64 t'] 28) := ⟨_, rfl⟩
  have hb4 : Below w3.heap.size w3 w4 := by subst hw4; exact (Below.refl _ _).alloc (Nat.le_refl _) _
  have pk4 : BlAt w4 w3.heap.size #[.int .i64 b', .int .i64 n', .int .i64 o', .slice A1 mT c1, .slice D1 mC d1, .int .i64 f', .int .i64 h', .int .i64 t'] := by subst hw4; exact BlAt.new _ _ _
  have WQ4 := Lib.hid hw4
  have hk4 := bstep hk3 hb4 hk3.size
  have T_4 := Lib.hid ((T_3.out).below hb4)
  have C_4 := Lib.hid ((C_3.out).below hb4)
  have BG_4 := Lib.hid ((BG_3.out).below_ hb4)
  have U_4 := Lib.hid ((U_3.out).below hb4)
  have X_4 := Lib.hid ((X_3.out).below hb4)
  have BU_4 := Lib.hid pk4
  clear hw4 hb4 pk4
  have lx4 := (BG_3.out).lt
  obtain ⟨x40, x41, x42, x43, x44, x45, x46, x47⟩ := gcells (BG_3.out)
  go_wp2_with fail
  rw [← WQ4.out]
  refine (spec_TickGate b n o f h t T C _ _ _ _ _ _ _ rfl rfl hlT2 hlC2 (T_4.out).1 (C_4.out).1 now r b' n' o' f' h' t' T' C' mT mC HR.out HX.out HMT.out HMC.out).mono ?_
  rintro e w5 ⟨A2, c2, D2, d2, rfl, oT2, oC2, hb5⟩
  have hk5 := bstep hk4 hb5 hk4.size
  have T_5 := Lib.hid ((T_4.out).below hb5)
  have C_5 := Lib.hid ((C_4.out).below hb5)
  have BG_5 := Lib.hid ((BG_4.out).below_ hb5)
  have U_5 := Lib.hid ((U_4.out).below hb5)
  have X_5 := Lib.hid ((X_4.out).below hb5)
  have BU_5 := Lib.hid ((BU_4.out).below_ hb5)
  have Y_5 := Lib.hid oT2
  clear oT2
  have Z_5 := Lib.hid oC2
  clear oC2
  clear x40 x41 x42 x43 x44 x45 x46 x47
  clear hb5
  obtain ⟨w6, hw6⟩ : ∃ x, x = w5.alloc (.cells #[.int .i64 b', .int .i64 n', .int .i64 o', .slice A2 mT c2, .slice D2 mC d2, .int .i64 f', .int .i64 h', .int .i64 t'] 28) := ⟨_, rfl⟩
  have hb6 : Below w5.heap.size w5 w6 := by subst hw6; exact (Below.refl _ _).alloc (Nat.le_refl _) _
  have pk6 : BlAt w6 w5.heap.size #[.int .i64 b', .int .i64 n', .int .i64 o', .slice A2 mT c2, .slice D2 mC d2, .int .i64 f', .int .i64 h', .int .i64 t'] := by subst hw6; exact BlAt.new _ _ _
  have WQ6 := Lib.hid hw6
  have hk6 := bstep hk5 hb6 hk5.size
  have T_6 := Lib.hid ((T_5.out).below hb6)
  have C_6 := Lib.hid ((C_5.out).below hb6)
  have BG_6 := Lib.hid ((BG_5.out).below_ hb6)
  have U_6 := Lib.hid ((U_5.out).below hb6)
  have X_6 := Lib.hid ((X_5.out).below hb6)
  have BU_6 := Lib.hid ((BU_5.out).below_ hb6)
  have Y_6 := Lib.hid ((Y_5.out).below hb6)
  have Z_6 := Lib.hid ((Z_5.out).below hb6)
  have BY_6 := Lib.hid pk6
  clear hw6 hb6 pk6
  have lx6 := (BU_5.out).lt
  obtain ⟨x60, x61, x62, x63, x64, x65, x66, x67⟩ := gcells (BU_5.out)
  obtain ⟨y60, y61, y62, y63, y64, y65, y66, y67⟩ := gcells (BY_6.out)
  go_wp2_with fail
  rw [← WQ6.out]
  refine (same_gates (T := T') (C := C') HMT.out.symm HMC.out.symm HMT.out.symm HMC.out.symm hlT' hlC' (U_6.out).1 (X_6.out).1 (Y_6.out).1 (Z_6.out).1).mono ?_
  rintro e w7 ⟨rfl, hb7⟩
  have hk7 := bstep hk6 hb7 hk6.size
  have T_7 := Lib.hid ((T_6.out).below hb7)
  have C_7 := Lib.hid ((C_6.out).below hb7)
  have BG_7 := Lib.hid ((BG_6.out).below_ hb7)
  have U_7 := Lib.hid ((U_6.out).below hb7)
  have X_7 := Lib.hid ((X_6.out).below hb7)
  have BU_7 := Lib.hid ((BU_6.out).below_ hb7)
  have Y_7 := Lib.hid ((Y_6.out).below hb7)
  have Z_7 := Lib.hid ((Z_6.out).below hb7)
  have BY_7 := Lib.hid ((BY_6.out).below_ hb7)
  clear x60 x61 x62 x63 x64 x65 x66 x67 y60 y61 y62 y63 y64 y65 y66 y67
  clear hb7
  obtain ⟨v, hv⟩ : ∃ v, okG ⟨b, n, o, T, C, f, h, t⟩ = v := ⟨_, rfl⟩
  have HV := Lib.hid hv
  clear hv
  obtain ⟨x70, x71, x72, x73, x74, x75, x76, x77⟩ := gcells (BG_7.out)
  go_wp2_with fail
  refine (impl_ValidGate b n o f h t T C _ _ _ _ _ _ _ rfl rfl hlT2 hlC2 (T_7.out).1 (C_7.out).1).mono ?_
  rintro e w8 ⟨rfl, hb8⟩
  have hk8 := bstep hk7 hb8 hk7.size
  have T_8 := Lib.hid ((T_7.out).below hb8)
  have C_8 := Lib.hid ((C_7.out).below hb8)
  have BG_8 := Lib.hid ((BG_7.out).below_ hb8)
  have U_8 := Lib.hid ((U_7.out).below hb8)
  have X_8 := Lib.hid ((X_7.out).below hb8)
  have BU_8 := Lib.hid ((BU_7.out).below_ hb8)
  have Y_8 := Lib.hid ((Y_7.out).below hb8)
  have Z_8 := Lib.hid ((Z_7.out).below hb8)
  have BY_8 := Lib.hid ((BY_7.out).below_ hb8)
  clear x70 x71 x72 x73 x74 x75 x76 x77
  clear hb8
  rw [HV.out]
  cases v
  · skip
    obtain ⟨x80, x81, x82, x83, x84, x85, x86, x87⟩ := gcells (BU_8.out)
    obtain ⟨y80, y81, y82, y83, y84, y85, y86, y87⟩ := gcells (BY_8.out)
    go_wp2_with fail
    refine (same_gates (T := T') (C := C') HMT.out.symm HMC.out.symm HMT.out.symm HMC.out.symm hlT' hlC' (U_8.out).1 (X_8.out).1 (Y_8.out).1 (Z_8.out).1).mono ?_
    rintro e w9 ⟨rfl, hb9⟩
    have hk9 := bstep hk8 hb9 hk8.size
    have T_9 := Lib.hid ((T_8.out).below hb9)
    have C_9 := Lib.hid ((C_8.out).below hb9)
    have BG_9 := Lib.hid ((BG_8.out).below_ hb9)
    have U_9 := Lib.hid ((U_8.out).below hb9)
    have X_9 := Lib.hid ((X_8.out).below hb9)
    have BU_9 := Lib.hid ((BU_8.out).below_ hb9)
    have Y_9 := Lib.hid ((Y_8.out).below hb9)
    have Z_9 := Lib.hid ((Z_8.out).below hb9)
    have BY_9 := Lib.hid ((BY_8.out).below_ hb9)
    clear x80 x81 x82 x83 x84 x85 x86 x87 y80 y81 y82 y83 y84 y85 y86 y87
    clear hb9
    go_wp2
    go_ret
    exact ⟨by simp, HB.out.trans (hk9.mono HB.out.size)⟩
  have hH := (okG_iff.1 HV.out).1
  obtain ⟨tt0, tt1⟩ := inR_iff.1 hH.t
  obtain ⟨hh0, hh1⟩ := inR_iff.1 hH.h
  clear hH
  by_cases hth : 10000 < t + h
  · obtain ⟨x80, x81, x82, x83, x84, x85, x86, x87⟩ := gcells (BG_8.out)
    obtain ⟨y80, y81, y82, y83, y84, y85, y86, y87⟩ := gcells (BU_8.out)
    obtain ⟨z80, z81, z82, z83, z84, z85, z86, z87⟩ := gcells (BY_8.out)
    go_wp2_with fail
    refine (same_gates (T := T') (C := C') HMT.out.symm HMC.out.symm HMT.out.symm HMC.out.symm hlT' hlC' (U_8.out).1 (X_8.out).1 (Y_8.out).1 (Z_8.out).1).mono ?_
    rintro e w9 ⟨rfl, hb9⟩
    have hk9 := bstep hk8 hb9 hk8.size
    have T_9 := Lib.hid ((T_8.out).below hb9)
    have C_9 := Lib.hid ((C_8.out).below hb9)
    have BG_9 := Lib.hid ((BG_8.out).below_ hb9)
    have U_9 := Lib.hid ((U_8.out).below hb9)
    have X_9 := Lib.hid ((X_8.out).below hb9)
    have BU_9 := Lib.hid ((BU_8.out).below_ hb9)
    have Y_9 := Lib.hid ((Y_8.out).below hb9)
    have Z_9 := Lib.hid ((Z_8.out).below hb9)
    have BY_9 := Lib.hid ((BY_8.out).below_ hb9)
    clear x80 x81 x82 x83 x84 x85 x86 x87 y80 y81 y82 y83 y84 y85 y86 y87 z80 z81 z82 z83 z84 z85 z86 z87
    clear hb9
    go_wp2
    go_ret
    exact ⟨by simp, HB.out.trans (hk9.mono HB.out.size)⟩
  obtain ⟨ht3, hT3, hC3⟩ := tick_all HV.out (by show t + h ≤ 10000; omega)
  have HR3 := Lib.hid ht3
  have HX3 := Lib.hid (show tickV ⟨b, n, o, T, C, f, h, t⟩ (t + h) = ⟨b, n, o, [], [], f, h, t + h⟩ by unfold tickV; rw [if_pos ht3]; exact Gt.ext rfl rfl rfl hT3 hC3 rfl rfl rfl)
  clear ht3 hT3 hC3
  obtain ⟨x80, x81, x82, x83, x84, x85, x86, x87⟩ := gcells (BG_8.out)
  go_wp2_with fail
  refine (impl_TickGate b n o f h t T C _ _ _ _ _ _ _ rfl rfl hlT2 hlC2 (T_8.out).1 (C_8.out).1 (t + h) true b n o f h (t + h) [] [] 0 0 HR3.out HX3.out rfl rfl).mono ?_
  rintro e w9 ⟨A3, c3, D3, d3, rfl, oT3, oC3, hb9⟩
  have hk9 := bstep hk8 hb9 hk8.size
  have T_9 := Lib.hid ((T_8.out).below hb9)
  have C_9 := Lib.hid ((C_8.out).below hb9)
  have BG_9 := Lib.hid ((BG_8.out).below_ hb9)
  have U_9 := Lib.hid ((U_8.out).below hb9)
  have X_9 := Lib.hid ((X_8.out).below hb9)
  have BU_9 := Lib.hid ((BU_8.out).below_ hb9)
  have Y_9 := Lib.hid ((Y_8.out).below hb9)
  have Z_9 := Lib.hid ((Z_8.out).below hb9)
  have BY_9 := Lib.hid ((BY_8.out).below_ hb9)
  have U3_9 := Lib.hid oT3
  clear oT3
  have X3_9 := Lib.hid oC3
  clear oC3
  clear x80 x81 x82 x83 x84 x85 x86 x87
  clear hb9
  go_wp2
  go_ret
  exact ⟨by simp, HB.out.trans ((hk9.alloc hk9.size _).mono HB.out.size)⟩
end Go.Proofs.Ytlgfmnognhojnaa
