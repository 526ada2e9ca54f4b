/- The walk of FnExactReversePacket. -/
import Derived.Test.YtnkdhpbbiilekaaKy
namespace Go.Proofs.Ytnkdhpbbiilekaa
open Go.RowKit
set_option maxHeartbeats 8000000 in
theorem FnExactReversePacket_walk (k fa fp ta tp : Int) (A : Option Addr) (c : Nat) (d : List Int) (w : World) (hc : c ≤ maxLen) (hs : Sl encI 1 w A c d) :
    Calls Try.prog 5 #[.agg #[.int .i64 k, .int .i64 fa, .int .i64 fp, .int .i64 ta, .int .i64 tp, .slice A d.length c]] w (Ret w (.bool true)) := by
  have hlc := hs.1
  unfold maxLen at hc
  obtain ⟨wq, hwq⟩ : ∃ x, x = w.alloc (.cells #[.int .i64 k, .int .i64 fa, .int .i64 fp, .int .i64 ta, .int .i64 tp, .slice A d.length c] 37) := ⟨_, rfl⟩
  have hq : Below w.heap.size w wq := by subst hwq; exact (Below.refl _ _).alloc (Nat.le_refl _) _
  have bx : PkAt wq w.heap.size k fa fp ta tp (.slice A d.length c) := by subst hwq; exact PkAt.new _ _ _ _ _ _ _ _
  have hlt : w.heap.size < wq.heap.size := bx.lt
  have EC := Lib.hid (fun W (h : Below wq.heap.size wq W) => bx.below h hlt)
  have SL := Lib.hid (fun W (h : Below wq.heap.size wq W) => hs.below (hq.trans (h.mono hq.size)))
  have WQ := Lib.hid hwq
  have hk : Below wq.heap.size wq wq := Below.refl _ _
  clear hs hwq bx
  by_cases hbig : (1048576 : Int) - (d.length : Int) < 0
  · go_enter Try.func5, Try.ntmps5
    go_wp2_with fail
    rw [← WQ.out]
    refine (laws_szPacket _ _ _ _ _ _ _ _ _ _ (by omega) (by omega) (by omega)).mono ?_
    rintro e w1 ⟨rfl, hb1⟩
    rw [if_pos hbig]
    go_wp2
    go_ret
    exact ⟨rfl, hq.trans (hb1.mono hq.size)⟩
  have hl2 : d.length ≤ 2000000 := by omega
  have HNB := Lib.hid hbig
  have hpos : (0 : Int) ≤ 1048576 - (d.length : Int) := by omega
  clear hbig
  obtain ⟨r, hr⟩ : ∃ r, okPk ⟨k, fa, fp, ta, tp, d⟩ = r := ⟨_, rfl⟩
  obtain ⟨x, hx⟩ : ∃ x, revV ⟨k, fa, fp, ta, tp, d⟩ = x := ⟨_, rfl⟩
  obtain ⟨k', fa', fp', ta', tp', D⟩ := x
  obtain ⟨m, hm⟩ : ∃ m, D.length = m := ⟨_, rfl⟩
  have hD2 : D.length ≤ 2000000 := by 
    have e : D = if okPk ⟨k, fa, fp, ta, tp, d⟩ then d else [] := by
      unfold revV at hx
      split at hx
      · rw [if_pos (by assumption)]; simp only [swapPk, Pk.mk.injEq] at hx; exact hx.2.2.2.2.2.symm
      · rw [if_neg (by assumption)]; simp only [zeroPk, Pk.mk.injEq] at hx; exact hx.2.2.2.2.2.symm
    rw [e]
    split
    · exact hl2
    · simp
  have hm2 : m ≤ 2000000 := by omega
  have HR := Lib.hid hr
  have HX := Lib.hid hx
  have HM := Lib.hid hm
  clear hr hx hm
  go_enter Try.func5, Try.ntmps5
  go_wp2_with fail
  rw [← WQ.out]
  refine (laws_szPacket _ _ _ _ _ _ _ _ _ _ (by omega) (by omega) (by omega)).mono ?_
  rintro e w1 ⟨rfl, hb1⟩
  have hk1 := bstep hk hb1 hk.size
  have z1 : wq.heap.size ≤ w1.heap.size := hb1.size
  clear hb1
  rw [if_neg (show ¬ (1048576 - (d.length : Int) < 0) by have := HNB.out; omega)]
  obtain ⟨x10, x11, x12, x13, x14, x15⟩ := (EC.out w1 hk1).cells
  go_wp2_with fail
  refine (laws_toPacket k fa fp ta tp d A c _ _ rfl hl2 (SL.out _ hk1)).mono ?_
  rintro e w2 ⟨Ar, cr, rfl, hr, hb2⟩
  have hk2 := bstep hk1 hb2 hk1.size
  have z2 : w1.heap.size ≤ w2.heap.size := hb2.size
  have R_2 := Lib.hid (hr.out)
  have SR := Lib.hid (R_2.out).span
  clear hr
  clear x10 x11 x12 x13 x14 x15
  clear hb2
  go_wp2_with fail
  refine (spec_RVU HR.out HX.out HM.out rfl hl2 (R_2.out).1).mono ?_
  rintro e w3 ⟨Aw, cw, rfl, hw, hb3⟩
  have hk3 := bstep hk2 hb3 hk2.size
  have z3 : w2.heap.size ≤ w3.heap.size := hb3.size
  have R_3 := Lib.hid ((R_2.out).below hb3)
  have Wr_3 := Lib.hid hw
  have SWr := Lib.hid (Wr_3.out).span
  clear hw
  clear hb3
  obtain ⟨w4, hw4⟩ : ∃ x, x = w3.alloc (.cells #[.int .i64 k', .int .i64 fa', .int .i64 fp', .int .i64 ta', .int .i64 tp', .slice Aw m cw] 27) := ⟨_, rfl⟩
  have hb4 : Below w3.heap.size w3 w4 := by subst hw4; exact (Below.refl _ _).alloc (Nat.le_refl _) _
  have z4 : w3.heap.size < w4.heap.size := by subst hw4; simp
  have pk4 : PkAt w4 w3.heap.size k' fa' fp' ta' tp' (.slice Aw m cw) := by subst hw4; exact PkAt.new _ _ _ _ _ _ _ _
  have WQ4 := Lib.hid hw4
  have hk4 := bstep hk3 hb4 hk3.size
  have Wr_4 := Lib.hid ((Wr_3.out).below hb4)
  have BW_4 := Lib.hid pk4
  clear hw4 hb4 pk4
  have lx4 := (EC.out w3 hk3).lt
  obtain ⟨x40, x41, x42, x43, x44, x45⟩ := (EC.out w3 hk3).cells
  go_wp2_with fail
  rw [← WQ4.out]
  refine (laws_toPacket k fa fp ta tp d A c _ _ rfl hl2 (SL.out _ hk4)).mono ?_
  rintro e w5 ⟨Ax, cx, rfl, hx, hb5⟩
  have hk5 := bstep hk4 hb5 hk4.size
  have z5 : w4.heap.size ≤ w5.heap.size := hb5.size
  have Wr_5 := Lib.hid ((Wr_4.out).below hb5)
  have BW_5 := Lib.hid ((BW_4.out).below_ hb5)
  have X_5 := Lib.hid (hx.out)
  have SX := Lib.hid (X_5.out).span
  clear hx
  clear x40 x41 x42 x43 x44 x45
  clear hb5
  obtain ⟨w6, hw6⟩ : ∃ x, x = w5.alloc (.cells #[.int .i64 k, .int .i64 fa, .int .i64 fp, .int .i64 ta, .int .i64 tp, .slice Ax d.length cx] 27) := ⟨_, rfl⟩
  have hb6 : Below w5.heap.size w5 w6 := by subst hw6; exact (Below.refl _ _).alloc (Nat.le_refl _) _
  have z6 : w5.heap.size < w6.heap.size := by subst hw6; simp
  have pk6 : PkAt w6 w5.heap.size k fa fp ta tp (.slice Ax d.length cx) := by subst hw6; exact PkAt.new _ _ _ _ _ _ _ _
  have WQ6 := Lib.hid hw6
  have hk6 := bstep hk5 hb6 hk5.size
  have Wr_6 := Lib.hid ((Wr_5.out).below hb6)
  have BW_6 := Lib.hid ((BW_5.out).below_ hb6)
  have X_6 := Lib.hid ((X_5.out).below hb6)
  have BX_6 := Lib.hid pk6
  clear hw6 hb6 pk6
  obtain ⟨x60, x61, x62, x63, x64, x65⟩ := (BX_6.out).cells
  go_wp2_with fail
  rw [← WQ6.out]
  refine (impl_RVU HR.out HX.out HM.out rfl hl2 (X_6.out).1).mono ?_
  rintro e w7 ⟨Ag, cg, rfl, hg, hb7⟩
  have hk7 := bstep hk6 hb7 hk6.size
  have z7 : w6.heap.size ≤ w7.heap.size := hb7.size
  have Wr_7 := Lib.hid ((Wr_6.out).below hb7)
  have BW_7 := Lib.hid ((BW_6.out).below_ hb7)
  have X_7 := Lib.hid ((X_6.out).below hb7)
  have BX_7 := Lib.hid ((BX_6.out).below_ hb7)
  have Gr_7 := Lib.hid hg
  have SGr := Lib.hid (Gr_7.out).span
  clear hg
  clear x60 x61 x62 x63 x64 x65
  clear hb7
  obtain ⟨w8, hw8⟩ : ∃ x, x = w7.alloc (.cells #[.int .i64 k', .int .i64 fa', .int .i64 fp', .int .i64 ta', .int .i64 tp', .slice Ag m cg] 27) := ⟨_, rfl⟩
  have hb8 : Below w7.heap.size w7 w8 := by subst hw8; exact (Below.refl _ _).alloc (Nat.le_refl _) _
  have z8 : w7.heap.size < w8.heap.size := by subst hw8; simp
  have pk8 : PkAt w8 w7.heap.size k' fa' fp' ta' tp' (.slice Ag m cg) := by subst hw8; exact PkAt.new _ _ _ _ _ _ _ _
  have WQ8 := Lib.hid hw8
  have hk8 := bstep hk7 hb8 hk7.size
  have Wr_8 := Lib.hid ((Wr_7.out).below hb8)
  have BW_8 := Lib.hid ((BW_7.out).below_ hb8)
  have X_8 := Lib.hid ((X_7.out).below hb8)
  have BX_8 := Lib.hid ((BX_7.out).below_ hb8)
  have Gr_8 := Lib.hid ((Gr_7.out).below hb8)
  have BG_8 := Lib.hid pk8
  clear hw8 hb8 pk8
  obtain ⟨x80, x81, x82, x83, x84, x85⟩ := (BG_8.out).cells
  have ly8 := (BW_7.out).lt
  obtain ⟨y80, y81, y82, y83, y84, y85⟩ := (BW_7.out).cells
  go_wp2_with fail
  rw [← WQ8.out]
  refine (same_eqPacket (d := D) HM.out.symm HM.out.symm hD2 (Gr_8.out).1 (Wr_8.out).1).mono ?_
  rintro e w9 ⟨rfl, hb9⟩
  have hk9 := bstep hk8 hb9 hk8.size
  have z9 : w8.heap.size ≤ w9.heap.size := hb9.size
  have Wr_9 := Lib.hid ((Wr_8.out).below hb9)
  have BW_9 := Lib.hid ((BW_8.out).below_ hb9)
  have X_9 := Lib.hid ((X_8.out).below hb9)
  have BX_9 := Lib.hid ((BX_8.out).below_ hb9)
  have Gr_9 := Lib.hid ((Gr_8.out).below hb9)
  have BG_9 := Lib.hid ((BG_8.out).below_ hb9)
  clear x80 x81 x82 x83 x84 x85 y80 y81 y82 y83 y84 y85
  clear hb9
  have hr0 : Below w9.heap.size w9 w9 := Below.refl _ _
  have KX := Lib.hid (fun W (h : Below w9.heap.size w9 W) => (BX_9.out).below_ h)
  have KE := Lib.hid (fun W (h : Below w9.heap.size w9 W) => EC.out W (bstep hk9 h hk9.size))
  have KS := Lib.hid (fun W (h : Below w9.heap.size w9 W) => SL.out W (bstep hk9 h hk9.size))
  have KO := Lib.hid (fun W (h : Below w9.heap.size w9 W) => (X_9.out).below h)
  have p0 : ∀ W, Below w9.heap.size w9 W → W.cell? ⟨w5.heap.size, 0, none⟩ = some (.int .i64 k) := fun W h => (KX.out W h).cells.1
  have p1 : ∀ W, Below w9.heap.size w9 W → W.cell? ⟨w5.heap.size, 1, none⟩ = some (.int .i64 fa) := fun W h => (KX.out W h).cells.2.1
  have p2 : ∀ W, Below w9.heap.size w9 W → W.cell? ⟨w5.heap.size, 2, none⟩ = some (.int .i64 fp) := fun W h => (KX.out W h).cells.2.2.1
  have p3 : ∀ W, Below w9.heap.size w9 W → W.cell? ⟨w5.heap.size, 3, none⟩ = some (.int .i64 ta) := fun W h => (KX.out W h).cells.2.2.2.1
  have p4 : ∀ W, Below w9.heap.size w9 W → W.cell? ⟨w5.heap.size, 4, none⟩ = some (.int .i64 tp) := fun W h => (KX.out W h).cells.2.2.2.2.1
  have p5 : ∀ W, Below w9.heap.size w9 W → W.cell? ⟨w5.heap.size, 5, none⟩ = some (.slice Ax d.length cx) := fun W h => (KX.out W h).cells.2.2.2.2.2
  have q0 : ∀ W, Below w9.heap.size w9 W → W.cell? ⟨w.heap.size, 0, none⟩ = some (.int .i64 k) := fun W h => (KE.out W h).cells.1
  have q1 : ∀ W, Below w9.heap.size w9 W → W.cell? ⟨w.heap.size, 1, none⟩ = some (.int .i64 fa) := fun W h => (KE.out W h).cells.2.1
  have q2 : ∀ W, Below w9.heap.size w9 W → W.cell? ⟨w.heap.size, 2, none⟩ = some (.int .i64 fp) := fun W h => (KE.out W h).cells.2.2.1
  have q3 : ∀ W, Below w9.heap.size w9 W → W.cell? ⟨w.heap.size, 3, none⟩ = some (.int .i64 ta) := fun W h => (KE.out W h).cells.2.2.2.1
  have q4 : ∀ W, Below w9.heap.size w9 W → W.cell? ⟨w.heap.size, 4, none⟩ = some (.int .i64 tp) := fun W h => (KE.out W h).cells.2.2.2.2.1
  have q5 : ∀ W, Below w9.heap.size w9 W → W.cell? ⟨w.heap.size, 5, none⟩ = some (.slice A d.length c) := fun W h => (KE.out W h).cells.2.2.2.2.2
  go_wp2_with fail
  go_region_held3 (fun W => Below w9.heap.size w9 W) (first | with_reducible exact hr0.drew | with_reducible exact hr0 | with_reducible assumption) (first | (go_at_call 24; refine (laws_toPacket k fa fp ta tp d A c _ _ rfl hl2 (KS.out _ (by with_reducible assumption))).mono ?_; rintro e wc ⟨Ac, cc, rfl, hcopy, hbc⟩; have hc1 := bstep (B := w9.heap.size) (a := w9) (by with_reducible assumption) hbc (Below.size (by with_reducible assumption)); have HCO := Lib.hid hcopy; clear hcopy) | (go_at_call 25; refine (same_eqPacket rfl rfl hl2 (KO.out _ hc1).1 HCO.out.sl).mono ?_; rintro e wd ⟨rfl, hbd⟩; have hd1 := bstep hc1 hbd hc1.size))
  clear hbc hbd hc1 p0 q0 p1 q1 p2 q2 p3 q3 p4 q4 p5 q5
  obtain ⟨w10, hww10⟩ : ∃ x, x = wd := ⟨_, rfl⟩
  subst hww10
  have hk10 := bstep hk9 hd1 hk9.size
  have z10 : w9.heap.size ≤ w10.heap.size := hd1.size
  have Wr_10 := Lib.hid ((Wr_9.out).below hd1)
  have BW_10 := Lib.hid ((BW_9.out).below_ hd1)
  have X_10 := Lib.hid ((X_9.out).below hd1)
  have BX_10 := Lib.hid ((BX_9.out).below_ hd1)
  have Gr_10 := Lib.hid ((Gr_9.out).below hd1)
  have BG_10 := Lib.hid ((BG_9.out).below_ hd1)
  clear hd1
  obtain ⟨x100, x101, x102, x103, x104, x105⟩ := (BX_10.out).cells
  go_wp2_with fail
  refine (markPk rfl (by omega) (by omega) (by omega) (X_10.out)).mono ?_
  rintro e w11 ⟨rfl, hm11, row11, hg11, hr11⟩
  have hrow11 : ∀ g, row11 = some g → _ := fun g hg => (SX.out) g (hr11 g hg).1 (hr11 g hg).2
  have hk11 : Below wq.heap.size wq w11 := below_app hk10 hg11 hk10.size (fun g hg => by have := (hrow11 g hg).1; omega)
  have z11 : w10.heap.size ≤ w11.heap.size := hg11.size
  have Wr_11 := Lib.hid ((Wr_10.out).grownM hg11 (fun g hy hne hr => by have a1 := hrow11 g hr; have a2 := (SWr.out) g hy hne; omega))
  have BW_11 := Lib.hid ((BW_10.out).grown hg11 (fun e => by have := hrow11 _ e.symm; omega))
  have BX_11 := Lib.hid ((BX_10.out).grown hg11 (fun e => by have := hrow11 _ e.symm; omega))
  have Gr_11 := Lib.hid ((Gr_10.out).grownM hg11 (fun g hy hne hr => by have a1 := hrow11 g hr; have a2 := (SGr.out) g hy hne; omega))
  have BG_11 := Lib.hid ((BG_10.out).grown hg11 (fun e => by have := hrow11 _ e.symm; omega))
  have X_11 := Lib.hid hm11
  clear x100 x101 x102 x103 x104 x105
  clear hm11 hg11 hr11 hrow11
  have hnn : ¬ (1 + (d.length : Int) < 0) := by omega
  obtain ⟨x110, x111, x112, x113, x114, x115⟩ := (BG_11.out).cells
  obtain ⟨y110, y111, y112, y113, y114, y115⟩ := (BW_11.out).cells
  go_wp2_with fail
  refine (same_eqPacket (d := D) HM.out.symm HM.out.symm hD2 (Gr_11.out).1 (Wr_11.out).1).mono ?_
  rintro e w12 ⟨rfl, hb12⟩
  have hk12 := bstep hk11 hb12 hk11.size
  have z12 : w11.heap.size ≤ w12.heap.size := hb12.size
  have Wr_12 := Lib.hid ((Wr_11.out).below hb12)
  have BW_12 := Lib.hid ((BW_11.out).below_ hb12)
  have Gr_12 := Lib.hid ((Gr_11.out).below hb12)
  have BG_12 := Lib.hid ((BG_11.out).below_ hb12)
  clear x110 x111 x112 x113 x114 x115 y110 y111 y112 y113 y114 y115
  clear hb12
  have hnm : ¬ (1 + (m : Int) < 0) := by omega
  obtain ⟨x120, x121, x122, x123, x124, x125⟩ := (BG_12.out).cells
  go_wp2_with fail
  refine (markPk HM.out.symm (by omega) (by omega) (by omega) (Gr_12.out)).mono ?_
  rintro e w13 ⟨rfl, hm13, row13, hg13, hr13⟩
  have hrow13 : ∀ g, row13 = some g → _ := fun g hg => (SGr.out) g (hr13 g hg).1 (hr13 g hg).2
  have hk13 : Below wq.heap.size wq w13 := below_app hk12 hg13 hk12.size (fun g hg => by have := (hrow13 g hg).1; omega)
  have z13 : w12.heap.size ≤ w13.heap.size := hg13.size
  have Wr_13 := Lib.hid ((Wr_12.out).grownM hg13 (fun g hy hne hr => by have a1 := hrow13 g hr; have a2 := (SWr.out) g hy hne; omega))
  have BW_13 := Lib.hid ((BW_12.out).grown hg13 (fun e => by have := hrow13 _ e.symm; omega))
  have BG_13 := Lib.hid ((BG_12.out).grown hg13 (fun e => by have := hrow13 _ e.symm; omega))
  have Gr_13 := Lib.hid hm13
  clear x120 x121 x122 x123 x124 x125
  clear hm13 hg13 hr13 hrow13
  obtain ⟨x130, x131, x132, x133, x134, x135⟩ := (BG_13.out).cells
  go_wp2_with fail
  refine (laws_heldPacket _ _ _ _ _ _ _ m 1 _ (by omega) (by omega) (by omega) Gr_13.out).mono ?_
  rintro e w14 ⟨rfl, hb14⟩
  have hk14 := bstep hk13 hb14 hk13.size
  have z14 : w13.heap.size ≤ w14.heap.size := hb14.size
  have Wr_14 := Lib.hid ((Wr_13.out).below hb14)
  have BW_14 := Lib.hid ((BW_13.out).below_ hb14)
  have BG_14 := Lib.hid ((BG_13.out).below_ hb14)
  have Gr_14 := Lib.hid ((Gr_13.out).below hb14)
  clear x130 x131 x132 x133 x134 x135
  clear hb14
  obtain ⟨x140, x141, x142, x143, x144, x145⟩ := (EC.out w14 hk14).cells
  go_wp2_with fail
  refine (laws_toPacket k fa fp ta tp d A c _ _ rfl hl2 (SL.out _ hk14)).mono ?_
  rintro e w15 ⟨Ah, ch, rfl, hh, hb15⟩
  have hk15 := bstep hk14 hb15 hk14.size
  have z15 : w14.heap.size ≤ w15.heap.size := hb15.size
  have Wr_15 := Lib.hid ((Wr_14.out).below hb15)
  have BW_15 := Lib.hid ((BW_14.out).below_ hb15)
  have BG_15 := Lib.hid ((BG_14.out).below_ hb15)
  have Gr_15 := Lib.hid ((Gr_14.out).below hb15)
  have H_15 := Lib.hid (hh.out)
  have SH := Lib.hid (H_15.out).span
  clear hh
  clear x140 x141 x142 x143 x144 x145
  clear hb15
  go_wp2_with fail
  refine (impl_RVU HR.out HX.out HM.out rfl hl2 (H_15.out).1).mono ?_
  rintro e w16 ⟨Ai, ci, rfl, hi, hb16⟩
  have hk16 := bstep hk15 hb16 hk15.size
  have z16 : w15.heap.size ≤ w16.heap.size := hb16.size
  have Wr_16 := Lib.hid ((Wr_15.out).below hb16)
  have BW_16 := Lib.hid ((BW_15.out).below_ hb16)
  have BG_16 := Lib.hid ((BG_15.out).below_ hb16)
  have Gr_16 := Lib.hid ((Gr_15.out).below hb16)
  have H_16 := Lib.hid ((H_15.out).below hb16)
  have I_16 := Lib.hid hi
  have SI := Lib.hid (I_16.out).span
  clear hi
  clear hb16
  obtain ⟨w17, hw17⟩ : ∃ x, x = w16.alloc (.cells #[.int .i64 k', .int .i64 fa', .int .i64 fp', .int .i64 ta', .int .i64 tp', .slice Ai m ci] 27) := ⟨_, rfl⟩
  have hb17 : Below w16.heap.size w16 w17 := by subst hw17; exact (Below.refl _ _).alloc (Nat.le_refl _) _
  have z17 : w16.heap.size < w17.heap.size := by subst hw17; simp
  have pk17 : PkAt w17 w16.heap.size k' fa' fp' ta' tp' (.slice Ai m ci) := by subst hw17; exact PkAt.new _ _ _ _ _ _ _ _
  have WQ17 := Lib.hid hw17
  have hk17 := bstep hk16 hb17 hk16.size
  have Wr_17 := Lib.hid ((Wr_16.out).below hb17)
  have BW_17 := Lib.hid ((BW_16.out).below_ hb17)
  have BG_17 := Lib.hid ((BG_16.out).below_ hb17)
  have Gr_17 := Lib.hid ((Gr_16.out).below hb17)
  have H_17 := Lib.hid ((H_16.out).below hb17)
  have I_17 := Lib.hid ((I_16.out).below hb17)
  have BI_17 := Lib.hid pk17
  clear hw17 hb17 pk17
  obtain ⟨x170, x171, x172, x173, x174, x175⟩ := (BI_17.out).cells
  have ly17 := (BW_16.out).lt
  obtain ⟨y170, y171, y172, y173, y174, y175⟩ := (BW_16.out).cells
  go_wp2_with fail
  rw [← WQ17.out]
  refine (same_eqPacket (d := D) HM.out.symm HM.out.symm hD2 (I_17.out).1 (Wr_17.out).1).mono ?_
  rintro e w18 ⟨rfl, hb18⟩
  have hk18 := bstep hk17 hb18 hk17.size
  have z18 : w17.heap.size ≤ w18.heap.size := hb18.size
  have Wr_18 := Lib.hid ((Wr_17.out).below hb18)
  have BW_18 := Lib.hid ((BW_17.out).below_ hb18)
  have BG_18 := Lib.hid ((BG_17.out).below_ hb18)
  have Gr_18 := Lib.hid ((Gr_17.out).below hb18)
  have H_18 := Lib.hid ((H_17.out).below hb18)
  have I_18 := Lib.hid ((I_17.out).below hb18)
  have BI_18 := Lib.hid ((BI_17.out).below_ hb18)
  clear x170 x171 x172 x173 x174 x175 y170 y171 y172 y173 y174 y175
  clear hb18
  obtain ⟨x180, x181, x182, x183, x184, x185⟩ := (BG_18.out).cells
  go_wp2_with fail
  refine (laws_heldPacket _ _ _ _ _ _ _ m 1 _ (by omega) (by omega) (by omega) Gr_18.out).mono ?_
  rintro e w19 ⟨rfl, hb19⟩
  have hk19 := bstep hk18 hb19 hk18.size
  have z19 : w18.heap.size ≤ w19.heap.size := hb19.size
  have Wr_19 := Lib.hid ((Wr_18.out).below hb19)
  have BW_19 := Lib.hid ((BW_18.out).below_ hb19)
  have BG_19 := Lib.hid ((BG_18.out).below_ hb19)
  have Gr_19 := Lib.hid ((Gr_18.out).below hb19)
  have H_19 := Lib.hid ((H_18.out).below hb19)
  have BI_19 := Lib.hid ((BI_18.out).below_ hb19)
  clear x180 x181 x182 x183 x184 x185
  clear hb19
  go_wp2
  go_ret
  exact ⟨rfl, hq.trans (hk19.mono hq.size)⟩
end Go.Proofs.Ytnkdhpbbiilekaa
