/- The walk of FnValidGate. -/
import Derived.Test.YtlgfmnognhojnaaGl
namespace Go.Proofs.Ytlgfmnognhojnaa
open Go.RowKit
set_option maxHeartbeats 2000000 in
theorem impl_InNet (b n a : Int) (w : World) (hN : okN b n = true) (hW : isW a = true) (hF : hasN b n a = false) :
    Calls Try.prog 22 #[.agg #[.int .i64 b, .int .i64 n], .int .i64 a] w (Ret w (.bool false)) := by
  obtain ⟨wq, hwq⟩ : ∃ y, y = w.alloc (.cells #[.int .i64 b, .int .i64 n] 24) := ⟨_, rfl⟩
  have hq : Below w.heap.size w wq := by subst hwq; exact (Below.refl _ _).alloc (Nat.le_refl _) _
  have bx : BlAt wq w.heap.size #[.int .i64 b, .int .i64 n] := by subst hwq; exact BlAt.new _ _ _
  have BX := Lib.hid bx
  have WQ := Lib.hid hwq
  have HN := Lib.hid hN
  have HW := Lib.hid hW
  have HF := Lib.hid hF
  obtain ⟨h0, h1⟩ := okN_bits hN
  obtain ⟨b0, b1⟩ := okN_base hN
  clear hwq bx hN hW hF
  go_enter Try.func22, Try.ntmps22
  go_wp2_with fail
  rw [← WQ.out]
  refine (impl_ValidNet b n _).mono ?_
  rintro e w2 ⟨rfl, hb2⟩
  rw [HN.out]
  have b2 := BX.out.below_ hb2
  have x0 : w2.cell? ⟨w.heap.size, 0, none⟩ = some (.int .i64 b) := b2.cell rfl
  have x1 : w2.cell? ⟨w.heap.size, 1, none⟩ = some (.int .i64 n) := b2.cell rfl
  clear b2
  go_wp2_with fail
  refine (impl_isWord a _).mono ?_
  rintro e w' ⟨rfl, rfl⟩
  rw [HW.out]
  go_wp2_with fail
  refine (impl_has b n a _ h0 h1 b0 b1).mono ?_
  rintro e w3 ⟨rfl, hb3⟩
  rw [HF.out]
  have hk3 := bstep hb2 hb3 hb2.size
  go_wp2
  go_ret
  exact ⟨rfl, hq.trans (hk3.mono hq.size)⟩
set_option maxRecDepth 8000 in
set_option maxHeartbeats 8000000 in
theorem FnValidGate_walk (A : Option Addr) (c : Nat) (l : List Int) (w : World) (hi : CodeIn w A c l) :
    Calls Try.prog 7 #[.slice A l.length c] w (Ret w (.bool true)) := by
  have hc := hi.1
  have hlc := hi.2.1.1
  unfold maxLen at hc
  have HI := Lib.hid hi
  clear hi
  by_cases hbig : 1048576 < l.length
  · go_enter Try.func7, Try.ntmps7
    go_wp2
    go_ret
    exact ⟨rfl, Below.refl _ _⟩
  go_enter Try.func7, Try.ntmps7
  go_wp2_with fail
  refine (DrawValidGate_ _ _ _ _ HI.out).mono ?_
  rintro e w1 ⟨b, n, o, f, h, t, T, C, At, Ac, ct, cc, rfl, hlT, hlC, ht0, ht1, oT, oC, hb1⟩
  have HB := Lib.hid hb1
  have T_1 := Lib.hid oT
  have C_1 := Lib.hid oC
  have hk1 : Below w1.heap.size w1 w1 := Below.refl _ _
  have hlT2 : T.length ≤ 2000000 := by omega
  have hlC2 : C.length ≤ 2000000 := by omega
  obtain ⟨r, hr⟩ : ∃ r, okG ⟨b, n, o, T, C, f, h, t⟩ = r := ⟨_, rfl⟩
  have HR := Lib.hid hr
  clear hr oT oC hb1
  obtain ⟨w2, hw2⟩ : ∃ x, x = w1.alloc (.cells #[.int .i64 b, .int .i64 n, .int .i64 o, .slice At T.length ct, .slice Ac C.length cc, .int .i64 f, .int .i64 h, .int .i64 t] 28) := ⟨_, rfl⟩
  have hb2 : Below w1.heap.size w1 w2 := by subst hw2; exact (Below.refl _ _).alloc (Nat.le_refl _) _
  have pk2 : BlAt w2 w1.heap.size #[.int .i64 b, .int .i64 n, .int .i64 o, .slice At T.length ct, .slice Ac C.length cc, .int .i64 f, .int .i64 h, .int .i64 t] := by subst hw2; exact BlAt.new _ _ _
  have WQ2 := Lib.hid hw2
  have hk2 := bstep hk1 hb2 hk1.size
  have T_2 := Lib.hid ((T_1.out).below hb2)
  have C_2 := Lib.hid ((C_1.out).below hb2)
  have BG_2 := Lib.hid pk2
  clear hw2 hb2 pk2
  obtain ⟨x20, x21, x22, x23, x24, x25, x26, x27⟩ := gcells (BG_2.out)
  go_wp2_with fail
  rw [← WQ2.out]
  refine (impl_ValidGate b n o f h t T C _ _ _ _ _ _ _ rfl rfl hlT2 hlC2 (T_2.out).1 (C_2.out).1).mono ?_
  rintro e w3 ⟨rfl, hb3⟩
  have hk3 := bstep hk2 hb3 hk2.size
  have T_3 := Lib.hid ((T_2.out).below hb3)
  have C_3 := Lib.hid ((C_2.out).below hb3)
  have BG_3 := Lib.hid ((BG_2.out).below_ hb3)
  clear x20 x21 x22 x23 x24 x25 x26 x27
  clear hb3
  rw [HR.out]
  obtain ⟨x30, x31, x32, x33, x34, x35, x36, x37⟩ := gcells (BG_3.out)
  go_wp2_with fail
  refine (spec_ValidGate b n o f h t T C _ _ _ _ _ _ _ rfl rfl hlT2 hlC2 (T_3.out).1 (C_3.out).1).mono ?_
  rintro e w4 ⟨rfl, hb4⟩
  have hk4 := bstep hk3 hb4 hk3.size
  have T_4 := Lib.hid ((T_3.out).below hb4)
  have C_4 := Lib.hid ((C_3.out).below hb4)
  have BG_4 := Lib.hid ((BG_3.out).below_ hb4)
  clear x30 x31 x32 x33 x34 x35 x36 x37
  clear hb4
  rw [HR.out]
  cases r
  · skip
    obtain ⟨x40, x41, x42, x43, x44, x45, x46, x47⟩ := gcells (BG_4.out)
    go_wp2_with fail
    refine (spec_ValidGate b n o f h t T C _ _ _ _ _ _ _ rfl rfl hlT2 hlC2 (T_4.out).1 (C_4.out).1).mono ?_
    rintro e w5 ⟨rfl, hb5⟩
    have hk5 := bstep hk4 hb5 hk4.size
    have T_5 := Lib.hid ((T_4.out).below hb5)
    have C_5 := Lib.hid ((C_4.out).below hb5)
    have BG_5 := Lib.hid ((BG_4.out).below_ hb5)
    clear x40 x41 x42 x43 x44 x45 x46 x47
    clear hb5
    rw [HR.out]
    go_wp2
    go_ret
    exact ⟨by simp, HB.out.trans (hk5.mono HB.out.size)⟩
  have hH := (okG_iff.1 HR.out).1
  have HH := Lib.hid hH
  have HE := Lib.hid (okG_empty HR.out)
  clear hH
  obtain ⟨x40, x41, x42, x43, x44, x45, x46, x47⟩ := gcells (BG_4.out)
  go_wp2_with fail
  refine (impl_ValidGate b n o f h t [] [] none none 0 0 _ _ _ rfl rfl (by simp) (by simp) Sl.nil Sl.nil).mono ?_
  rintro e w5 ⟨rfl, hb5⟩
  have hk5 := bstep hk4 hb5 hk4.size
  have T_5 := Lib.hid ((T_4.out).below hb5)
  have C_5 := Lib.hid ((C_4.out).below hb5)
  have BG_5 := Lib.hid ((BG_4.out).below_ hb5)
  clear x40 x41 x42 x43 x44 x45 x46 x47
  clear hb5
  rw [show okG ⟨b, n, o, [], [], f, h, t⟩ = true from HE.out]
  obtain ⟨x50, x51, x52, x53, x54, x55, x56, x57⟩ := gcells (BG_5.out)
  go_wp2_with fail
  refine (impl_VT HH.out.T rfl hlT2 (T_5.out).1).mono ?_
  rintro e w6 ⟨rfl, hb6⟩
  have hk6 := bstep hk5 hb6 hk5.size
  have T_6 := Lib.hid ((T_5.out).below hb6)
  have C_6 := Lib.hid ((C_5.out).below hb6)
  have BG_6 := Lib.hid ((BG_5.out).below_ hb6)
  clear x50 x51 x52 x53 x54 x55 x56 x57
  clear hb6
  obtain ⟨x60, x61, x62, x63, x64, x65, x66, x67⟩ := gcells (BG_6.out)
  go_wp2_with fail
  refine (impl_VC HH.out.C rfl hlC2 (C_6.out).1).mono ?_
  rintro e w7 ⟨rfl, hb7⟩
  have hk7 := bstep hk6 hb7 hk6.size
  have T_7 := Lib.hid ((T_6.out).below hb7)
  have C_7 := Lib.hid ((C_6.out).below hb7)
  have BG_7 := Lib.hid ((BG_6.out).below_ hb7)
  clear x60 x61 x62 x63 x64 x65 x66 x67
  clear hb7
  obtain ⟨x70, x71, x72, x73, x74, x75, x76, x77⟩ := gcells (BG_7.out)
  go_wp2_with fail
  refine (impl_InNet b n o _ HH.out.net HH.out.o HH.out.far).mono ?_
  rintro e w8 ⟨rfl, hb8⟩
  have hk8 := bstep hk7 hb8 hk7.size
  have T_8 := Lib.hid ((T_7.out).below hb8)
  have C_8 := Lib.hid ((C_7.out).below hb8)
  have BG_8 := Lib.hid ((BG_7.out).below_ hb8)
  clear x70 x71 x72 x73 x74 x75 x76 x77
  clear hb8
  go_wp2
  go_ret
  exact ⟨by simp, HB.out.trans (hk8.mono HB.out.size)⟩
end Go.Proofs.Ytlgfmnognhojnaa
