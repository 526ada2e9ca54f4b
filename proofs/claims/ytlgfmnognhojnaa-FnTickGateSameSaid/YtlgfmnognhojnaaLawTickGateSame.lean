/- The walk of FnTickGateSame. -/
import Derived.Test.YtlgfmnognhojnaaGl
import Derived.Test.YtlgfmnognhojnaaGh
namespace Go.Proofs.Ytlgfmnognhojnaa
open Go.RowKit
set_option maxRecDepth 8000 in
set_option maxHeartbeats 8000000 in
theorem FnTickGateSame_walk (A : Option Addr) (c : Nat) (l : List Int) (w : World) (hi : CodeIn w A c l) :
    Calls Try.prog 5 #[.slice A l.length c] w (Ret w (.bool true)) := by
  have hc := hi.1
  have hlc := hi.2.1.1
  unfold maxLen at hc
  have HI := Lib.hid hi
  clear hi
  by_cases hbig : 1048576 < l.length
  · go_enter Try.func5, Try.ntmps5
    go_wp2
    go_ret
    exact ⟨rfl, Below.refl _ _⟩
  go_enter Try.func5, Try.ntmps5
  go_wp2_with fail
  refine (DrawTickGate_ _ _ _ _ HI.out).mono ?_
  rintro e w1 ⟨b, n, o, f, h, t, T, C, At, Ac, ct, cc, now, rfl, hlT, hlC, ht0, ht1, hn0, hn1, oT, oC, hb1⟩
  have HB := Lib.hid hb1
  have T_1 := Lib.hid oT
  have C_1 := Lib.hid oC
  have hk1 : Below w1.heap.size w1 w1 := Below.refl _ _
  have hlT2 : T.length ≤ 2000000 := by omega
  have hlC2 : C.length ≤ 2000000 := by omega
  obtain ⟨r, hr⟩ : ∃ r, tickO ⟨b, n, o, T, C, f, h, t⟩ now = r := ⟨_, rfl⟩
  obtain ⟨xx, hx⟩ : ∃ x, tickV ⟨b, n, o, T, C, f, h, t⟩ now = x := ⟨_, rfl⟩
  obtain ⟨b', n', o', T', C', f', h', t'⟩ := xx
  obtain ⟨mT, hmT⟩ : ∃ m, T'.length = m := ⟨_, rfl⟩
  obtain ⟨mC, hmC⟩ : ∃ m, C'.length = m := ⟨_, rfl⟩
  have hfit := tickV_fit hx
  have hlT' : T'.length ≤ 2000000 := by omega
  have hlC' : C'.length ≤ 2000000 := by omega
  have hmT9 : mT ≤ 10 := by omega
  have hmC9 : mC ≤ 10 := by omega
  have HR := Lib.hid hr
  have HX := Lib.hid hx
  have HMT := Lib.hid hmT
  have HMC := Lib.hid hmC
  clear hr hx hmT hmC hfit oT oC hb1
  obtain ⟨w2, hw2⟩ : ∃ x, x = w1.alloc (.cells #[.int .i64 b, .int .i64 n, .int .i64 o, .slice At T.length ct, .slice Ac C.length cc, .int .i64 f, .int .i64 h, .int .i64 t] 28) := ⟨_, rfl⟩
  have hb2 : Below w1.heap.size w1 w2 := by subst hw2; exact (Below.refl _ _).alloc (Nat.le_refl _) _
  have pk2 : BlAt w2 w1.heap.size #[.int .i64 b, .int .i64 n, .int .i64 o, .slice At T.length ct, .slice Ac C.length cc, .int .i64 f, .int .i64 h, .int .i64 t] := by subst hw2; exact BlAt.new _ _ _
  have WQ2 := Lib.hid hw2
  have hk2 := bstep hk1 hb2 hk1.size
  have T_2 := Lib.hid ((T_1.out).below hb2)
  have C_2 := Lib.hid ((C_1.out).below hb2)
  have BG_2 := Lib.hid pk2
  clear hw2 hb2 pk2
  obtain ⟨x20, x21, x22, x23, x24, x25, x26, x27⟩ := gcells (BG_2.out)
  go_wp2_with fail
  rw [← WQ2.out]
  refine (impl_TickGate b n o f h t T C _ _ _ _ _ _ _ rfl rfl hlT2 hlC2 (T_2.out).1 (C_2.out).1 now r b' n' o' f' h' t' T' C' mT mC HR.out HX.out HMT.out HMC.out).mono ?_
  rintro e w3 ⟨A1, c1, D1, d1, rfl, oT1, oC1, hb3⟩
  have hk3 := bstep hk2 hb3 hk2.size
  have T_3 := Lib.hid ((T_2.out).below hb3)
  have C_3 := Lib.hid ((C_2.out).below hb3)
  have BG_3 := Lib.hid ((BG_2.out).below_ hb3)
  have U_3 := Lib.hid oT1
  clear oT1
  have X_3 := Lib.hid oC1
  clear oC1
  clear x20 x21 x22 x23 x24 x25 x26 x27
  clear hb3
  obtain ⟨w4, hw4⟩ : ∃ x, x = w3.alloc (.cells #[.int .i64 b', .int .i64 n', .int .i64 o', .slice A1 mT c1, .slice D1 mC d1, .int .i64 f', .int .i64 h', .int .i64 t'] 28) := ⟨_, rfl⟩
  have hb4 : Below w3.heap.size w3 w4 := by subst hw4; exact (Below.refl _ _).alloc (Nat.le_refl _) _
  have pk4 : BlAt w4 w3.heap.size #[.int .i64 b', .int .i64 n', .int .i64 o', .slice A1 mT c1, .slice D1 mC d1, .int .i64 f', .int .i64 h', .int .i64 t'] := by subst hw4; exact BlAt.new _ _ _
  have WQ4 := Lib.hid hw4
  have hk4 := bstep hk3 hb4 hk3.size
  have T_4 := Lib.hid ((T_3.out).below hb4)
  have C_4 := Lib.hid ((C_3.out).below hb4)
  have BG_4 := Lib.hid ((BG_3.out).below_ hb4)
  have U_4 := Lib.hid ((U_3.out).below hb4)
  have X_4 := Lib.hid ((X_3.out).below hb4)
  have BU_4 := Lib.hid pk4
  clear hw4 hb4 pk4
  have lx4 := (BG_3.out).lt
  obtain ⟨x40, x41, x42, x43, x44, x45, x46, x47⟩ := gcells (BG_3.out)
  go_wp2_with fail
  rw [← WQ4.out]
  refine (spec_TickGate b n o f h t T C _ _ _ _ _ _ _ rfl rfl hlT2 hlC2 (T_4.out).1 (C_4.out).1 now r b' n' o' f' h' t' T' C' mT mC HR.out HX.out HMT.out HMC.out).mono ?_
  rintro e w5 ⟨A2, c2, D2, d2, rfl, oT2, oC2, hb5⟩
  have hk5 := bstep hk4 hb5 hk4.size
  have T_5 := Lib.hid ((T_4.out).below hb5)
  have C_5 := Lib.hid ((C_4.out).below hb5)
  have BG_5 := Lib.hid ((BG_4.out).below_ hb5)
  have U_5 := Lib.hid ((U_4.out).below hb5)
  have X_5 := Lib.hid ((X_4.out).below hb5)
  have BU_5 := Lib.hid ((BU_4.out).below_ hb5)
  have Y_5 := Lib.hid oT2
  clear oT2
  have Z_5 := Lib.hid oC2
  clear oC2
  clear x40 x41 x42 x43 x44 x45 x46 x47
  clear hb5
  obtain ⟨w6, hw6⟩ : ∃ x, x = w5.alloc (.cells #[.int .i64 b', .int .i64 n', .int .i64 o', .slice A2 mT c2, .slice D2 mC d2, .int .i64 f', .int .i64 h', .int .i64 t'] 28) := ⟨_, rfl⟩
  have hb6 : Below w5.heap.size w5 w6 := by subst hw6; exact (Below.refl _ _).alloc (Nat.le_refl _) _
  have pk6 : BlAt w6 w5.heap.size #[.int .i64 b', .int .i64 n', .int .i64 o', .slice A2 mT c2, .slice D2 mC d2, .int .i64 f', .int .i64 h', .int .i64 t'] := by subst hw6; exact BlAt.new _ _ _
  have WQ6 := Lib.hid hw6
  have hk6 := bstep hk5 hb6 hk5.size
  have T_6 := Lib.hid ((T_5.out).below hb6)
  have C_6 := Lib.hid ((C_5.out).below hb6)
  have BG_6 := Lib.hid ((BG_5.out).below_ hb6)
  have U_6 := Lib.hid ((U_5.out).below hb6)
  have X_6 := Lib.hid ((X_5.out).below hb6)
  have BU_6 := Lib.hid ((BU_5.out).below_ hb6)
  have Y_6 := Lib.hid ((Y_5.out).below hb6)
  have Z_6 := Lib.hid ((Z_5.out).below hb6)
  have BY_6 := Lib.hid pk6
  clear hw6 hb6 pk6
  have lx6 := (BU_5.out).lt
  obtain ⟨x60, x61, x62, x63, x64, x65, x66, x67⟩ := gcells (BU_5.out)
  obtain ⟨y60, y61, y62, y63, y64, y65, y66, y67⟩ := gcells (BY_6.out)
  go_wp2_with fail
  rw [← WQ6.out]
  refine (same_gates (T := T') (C := C') HMT.out.symm HMC.out.symm HMT.out.symm HMC.out.symm hlT' hlC' (U_6.out).1 (X_6.out).1 (Y_6.out).1 (Z_6.out).1).mono ?_
  rintro e w7 ⟨rfl, hb7⟩
  have hk7 := bstep hk6 hb7 hk6.size
  have T_7 := Lib.hid ((T_6.out).below hb7)
  have C_7 := Lib.hid ((C_6.out).below hb7)
  have BG_7 := Lib.hid ((BG_6.out).below_ hb7)
  have U_7 := Lib.hid ((U_6.out).below hb7)
  have X_7 := Lib.hid ((X_6.out).below hb7)
  have BU_7 := Lib.hid ((BU_6.out).below_ hb7)
  have Y_7 := Lib.hid ((Y_6.out).below hb7)
  have Z_7 := Lib.hid ((Z_6.out).below hb7)
  have BY_7 := Lib.hid ((BY_6.out).below_ hb7)
  clear x60 x61 x62 x63 x64 x65 x66 x67 y60 y61 y62 y63 y64 y65 y66 y67
  clear hb7
  obtain ⟨v, hv⟩ : ∃ v, okG ⟨b, n, o, T, C, f, h, t⟩ = v := ⟨_, rfl⟩
  have HV := Lib.hid hv
  clear hv
  obtain ⟨x70, x71, x72, x73, x74, x75, x76, x77⟩ := gcells (BG_7.out)
  go_wp2_with fail
  refine (impl_ValidGate b n o f h t T C _ _ _ _ _ _ _ rfl rfl hlT2 hlC2 (T_7.out).1 (C_7.out).1).mono ?_
  rintro e w8 ⟨rfl, hb8⟩
  have hk8 := bstep hk7 hb8 hk7.size
  have T_8 := Lib.hid ((T_7.out).below hb8)
  have C_8 := Lib.hid ((C_7.out).below hb8)
  have BG_8 := Lib.hid ((BG_7.out).below_ hb8)
  have U_8 := Lib.hid ((U_7.out).below hb8)
  have X_8 := Lib.hid ((X_7.out).below hb8)
  have BU_8 := Lib.hid ((BU_7.out).below_ hb8)
  have Y_8 := Lib.hid ((Y_7.out).below hb8)
  have Z_8 := Lib.hid ((Z_7.out).below hb8)
  have BY_8 := Lib.hid ((BY_7.out).below_ hb8)
  clear x70 x71 x72 x73 x74 x75 x76 x77
  clear hb8
  rw [HV.out]
  cases v
  · skip
    obtain ⟨x80, x81, x82, x83, x84, x85, x86, x87⟩ := gcells (BU_8.out)
    obtain ⟨y80, y81, y82, y83, y84, y85, y86, y87⟩ := gcells (BY_8.out)
    go_wp2_with fail
    refine (same_gates (T := T') (C := C') HMT.out.symm HMC.out.symm HMT.out.symm HMC.out.symm hlT' hlC' (U_8.out).1 (X_8.out).1 (Y_8.out).1 (Z_8.out).1).mono ?_
    rintro e w9 ⟨rfl, hb9⟩
    have hk9 := bstep hk8 hb9 hk8.size
    have T_9 := Lib.hid ((T_8.out).below hb9)
    have C_9 := Lib.hid ((C_8.out).below hb9)
    have BG_9 := Lib.hid ((BG_8.out).below_ hb9)
    have U_9 := Lib.hid ((U_8.out).below hb9)
    have X_9 := Lib.hid ((X_8.out).below hb9)
    have BU_9 := Lib.hid ((BU_8.out).below_ hb9)
    have Y_9 := Lib.hid ((Y_8.out).below hb9)
    have Z_9 := Lib.hid ((Z_8.out).below hb9)
    have BY_9 := Lib.hid ((BY_8.out).below_ hb9)
    clear x80 x81 x82 x83 x84 x85 x86 x87 y80 y81 y82 y83 y84 y85 y86 y87
    clear hb9
    go_wp2
    go_ret
    exact ⟨by simp, HB.out.trans (hk9.mono HB.out.size)⟩
  obtain ⟨ht3, hx3⟩ := tick_same HV.out
  have HR3 := Lib.hid ht3
  have HX3 := Lib.hid (show tickV ⟨b, n, o, T, C, f, h, t⟩ t = ⟨b, n, o, T, C, f, h, t⟩ by unfold tickV; rw [if_pos ht3]; exact hx3)
  have HR4 := Lib.hid (tick_back ⟨b, n, o, T, C, f, h, t⟩)
  have HX4 := Lib.hid (show tickV ⟨b, n, o, T, C, f, h, t⟩ (t - 1) = ⟨0, 0, 0, [], [], 0, 0, 0⟩ by unfold tickV; rw [if_neg (by rw [HR4.out]; simp)]; rfl)
  clear ht3 hx3
  obtain ⟨x80, x81, x82, x83, x84, x85, x86, x87⟩ := gcells (BG_8.out)
  go_wp2_with fail
  refine (impl_TickGate b n o f h t T C _ _ _ _ _ _ _ rfl rfl hlT2 hlC2 (T_8.out).1 (C_8.out).1 t true b n o f h t T C T.length C.length HR3.out HX3.out rfl rfl).mono ?_
  rintro e w9 ⟨A3, c3, D3, d3, rfl, oT3, oC3, hb9⟩
  have hk9 := bstep hk8 hb9 hk8.size
  have T_9 := Lib.hid ((T_8.out).below hb9)
  have C_9 := Lib.hid ((C_8.out).below hb9)
  have BG_9 := Lib.hid ((BG_8.out).below_ hb9)
  have U_9 := Lib.hid ((U_8.out).below hb9)
  have X_9 := Lib.hid ((X_8.out).below hb9)
  have BU_9 := Lib.hid ((BU_8.out).below_ hb9)
  have Y_9 := Lib.hid ((Y_8.out).below hb9)
  have Z_9 := Lib.hid ((Z_8.out).below hb9)
  have BY_9 := Lib.hid ((BY_8.out).below_ hb9)
  have U3_9 := Lib.hid oT3
  clear oT3
  have X3_9 := Lib.hid oC3
  clear oC3
  clear x80 x81 x82 x83 x84 x85 x86 x87
  clear hb9
  obtain ⟨w10, hw10⟩ : ∃ x, x = w9.alloc (.cells #[.int .i64 b, .int .i64 n, .int .i64 o, .slice A3 T.length c3, .slice D3 C.length d3, .int .i64 f, .int .i64 h, .int .i64 t] 28) := ⟨_, rfl⟩
  have hb10 : Below w9.heap.size w9 w10 := by subst hw10; exact (Below.refl _ _).alloc (Nat.le_refl _) _
  have pk10 : BlAt w10 w9.heap.size #[.int .i64 b, .int .i64 n, .int .i64 o, .slice A3 T.length c3, .slice D3 C.length d3, .int .i64 f, .int .i64 h, .int .i64 t] := by subst hw10; exact BlAt.new _ _ _
  have WQ10 := Lib.hid hw10
  have hk10 := bstep hk9 hb10 hk9.size
  have T_10 := Lib.hid ((T_9.out).below hb10)
  have C_10 := Lib.hid ((C_9.out).below hb10)
  have BG_10 := Lib.hid ((BG_9.out).below_ hb10)
  have U_10 := Lib.hid ((U_9.out).below hb10)
  have X_10 := Lib.hid ((X_9.out).below hb10)
  have BU_10 := Lib.hid ((BU_9.out).below_ hb10)
  have Y_10 := Lib.hid ((Y_9.out).below hb10)
  have Z_10 := Lib.hid ((Z_9.out).below hb10)
  have BY_10 := Lib.hid ((BY_9.out).below_ hb10)
  have U3_10 := Lib.hid ((U3_9.out).below hb10)
  have X3_10 := Lib.hid ((X3_9.out).below hb10)
  have BU3_10 := Lib.hid pk10
  clear hw10 hb10 pk10
  have lx10 := (BG_9.out).lt
  obtain ⟨x100, x101, x102, x103, x104, x105, x106, x107⟩ := gcells (BG_9.out)
  go_wp2_with fail
  rw [← WQ10.out]
  refine (impl_TickGate b n o f h t T C _ _ _ _ _ _ _ rfl rfl hlT2 hlC2 (T_10.out).1 (C_10.out).1 (t - 1) false 0 0 0 0 0 0 [] [] 0 0 HR4.out HX4.out rfl rfl).mono ?_
  rintro e w11 ⟨A4, c4, D4, d4, rfl, oT4, oC4, hb11⟩
  have hk11 := bstep hk10 hb11 hk10.size
  have T_11 := Lib.hid ((T_10.out).below hb11)
  have C_11 := Lib.hid ((C_10.out).below hb11)
  have BG_11 := Lib.hid ((BG_10.out).below_ hb11)
  have U_11 := Lib.hid ((U_10.out).below hb11)
  have X_11 := Lib.hid ((X_10.out).below hb11)
  have BU_11 := Lib.hid ((BU_10.out).below_ hb11)
  have Y_11 := Lib.hid ((Y_10.out).below hb11)
  have Z_11 := Lib.hid ((Z_10.out).below hb11)
  have BY_11 := Lib.hid ((BY_10.out).below_ hb11)
  have U3_11 := Lib.hid ((U3_10.out).below hb11)
  have X3_11 := Lib.hid ((X3_10.out).below hb11)
  have BU3_11 := Lib.hid ((BU3_10.out).below_ hb11)
  have U4_11 := Lib.hid oT4
  clear oT4
  have X4_11 := Lib.hid oC4
  clear oC4
  clear x100 x101 x102 x103 x104 x105 x106 x107
  clear hb11
  have HBA := Lib.hid True.intro
  obtain ⟨w12, hw12⟩ : ∃ x, x = w11.alloc (.cells #[.int .i64 0, .int .i64 0, .int .i64 0, .slice A4 0 c4, .slice D4 0 d4, .int .i64 0, .int .i64 0, .int .i64 0] 28) := ⟨_, rfl⟩
  have hb12 : Below w11.heap.size w11 w12 := by subst hw12; exact (Below.refl _ _).alloc (Nat.le_refl _) _
  have pk12 : BlAt w12 w11.heap.size #[.int .i64 0, .int .i64 0, .int .i64 0, .slice A4 0 c4, .slice D4 0 d4, .int .i64 0, .int .i64 0, .int .i64 0] := by subst hw12; exact BlAt.new _ _ _
  have WQ12 := Lib.hid hw12
  have hk12 := bstep hk11 hb12 hk11.size
  have T_12 := Lib.hid ((T_11.out).below hb12)
  have C_12 := Lib.hid ((C_11.out).below hb12)
  have BG_12 := Lib.hid ((BG_11.out).below_ hb12)
  have U_12 := Lib.hid ((U_11.out).below hb12)
  have X_12 := Lib.hid ((X_11.out).below hb12)
  have BU_12 := Lib.hid ((BU_11.out).below_ hb12)
  have Y_12 := Lib.hid ((Y_11.out).below hb12)
  have Z_12 := Lib.hid ((Z_11.out).below hb12)
  have BY_12 := Lib.hid ((BY_11.out).below_ hb12)
  have U3_12 := Lib.hid ((U3_11.out).below hb12)
  have X3_12 := Lib.hid ((X3_11.out).below hb12)
  have BU3_12 := Lib.hid ((BU3_11.out).below_ hb12)
  have U4_12 := Lib.hid ((U4_11.out).below hb12)
  have X4_12 := Lib.hid ((X4_11.out).below hb12)
  have BU4_12 := Lib.hid pk12
  clear hw12 hb12 pk12
  have lx12 := (BU3_11.out).lt
  obtain ⟨x120, x121, x122, x123, x124, x125, x126, x127⟩ := gcells (BU3_11.out)
  have ly12 := (BG_11.out).lt
  obtain ⟨y120, y121, y122, y123, y124, y125, y126, y127⟩ := gcells (BG_11.out)
  go_wp2_with fail
  rw [← WQ12.out]
  refine (same_gates (T := T) (C := C) rfl rfl rfl rfl hlT2 hlC2 (U3_12.out).1 (X3_12.out).1 (T_12.out).1 (C_12.out).1).mono ?_
  rintro e w13 ⟨rfl, hb13⟩
  have hk13 := bstep hk12 hb13 hk12.size
  have T_13 := Lib.hid ((T_12.out).below hb13)
  have C_13 := Lib.hid ((C_12.out).below hb13)
  have BG_13 := Lib.hid ((BG_12.out).below_ hb13)
  have U_13 := Lib.hid ((U_12.out).below hb13)
  have X_13 := Lib.hid ((X_12.out).below hb13)
  have BU_13 := Lib.hid ((BU_12.out).below_ hb13)
  have Y_13 := Lib.hid ((Y_12.out).below hb13)
  have Z_13 := Lib.hid ((Z_12.out).below hb13)
  have BY_13 := Lib.hid ((BY_12.out).below_ hb13)
  have U3_13 := Lib.hid ((U3_12.out).below hb13)
  have X3_13 := Lib.hid ((X3_12.out).below hb13)
  have BU3_13 := Lib.hid ((BU3_12.out).below_ hb13)
  have U4_13 := Lib.hid ((U4_12.out).below hb13)
  have X4_13 := Lib.hid ((X4_12.out).below hb13)
  have BU4_13 := Lib.hid ((BU4_12.out).below_ hb13)
  clear x120 x121 x122 x123 x124 x125 x126 x127 y120 y121 y122 y123 y124 y125 y126 y127
  clear hb13
  go_wp2
  go_ret
  exact ⟨by simp, HB.out.trans (hk13.mono HB.out.size)⟩
end Go.Proofs.Ytlgfmnognhojnaa
