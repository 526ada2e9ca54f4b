/- The walk of FnExactPackPacket. -/
import Derived.Test.YtnkdhpbbiilekaaKy
namespace Go.Proofs.Ytnkdhpbbiilekaa
open Go.RowKit
set_option maxHeartbeats 8000000 in
theorem FnExactPackPacket_walk (k fa fp ta tp : Int) (A : Option Addr) (c : Nat) (d : List Int) (w : World) (hc : c ≤ maxLen) (hs : Sl encI 1 w A c d) :
    Calls Try.prog 10 #[.agg #[.int .i64 k, .int .i64 fa, .int .i64 fp, .int .i64 ta, .int .i64 tp, .slice A d.length c]] w (Ret w (.bool true)) := by
  have hlc := hs.1
  unfold maxLen at hc
  obtain ⟨wq, hwq⟩ : ∃ x, x = w.alloc (.cells #[.int .i64 k, .int .i64 fa, .int .i64 fp, .int .i64 ta, .int .i64 tp, .slice A d.length c] 37) := ⟨_, rfl⟩
  have hq : Below w.heap.size w wq := by subst hwq; exact (Below.refl _ _).alloc (Nat.le_refl _) _
  have bx : PkAt wq w.heap.size k fa fp ta tp (.slice A d.length c) := by subst hwq; exact PkAt.new _ _ _ _ _ _ _ _
  have hlt : w.heap.size < wq.heap.size := bx.lt
  have EC := Lib.hid (fun W (h : Below wq.heap.size wq W) => bx.below h hlt)
  have SL := Lib.hid (fun W (h : Below wq.heap.size wq W) => hs.below (hq.trans (h.mono hq.size)))
  have WQ := Lib.hid hwq
  have hk : Below wq.heap.size wq wq := Below.refl _ _
  clear hs hwq bx
  by_cases hbig : (1048576 : Int) - (d.length : Int) < 0
  · go_enter Try.func10, Try.ntmps10
    go_wp2_with fail
    rw [← WQ.out]
    refine (laws_szPacket _ _ _ _ _ _ _ _ _ _ (by omega) (by omega) (by omega)).mono ?_
    rintro e w1 ⟨rfl, hb1⟩
    rw [if_pos hbig]
    go_wp2
    go_ret
    exact ⟨rfl, hq.trans (hb1.mono hq.size)⟩
  have hl2 : d.length ≤ 2000000 := by omega
  have HNB := Lib.hid hbig
  have hpos : (0 : Int) ≤ 1048576 - (d.length : Int) := by omega
  clear hbig
  obtain ⟨r, hr⟩ : ∃ r, okPk ⟨k, fa, fp, ta, tp, d⟩ = r := ⟨_, rfl⟩
  obtain ⟨L, hL⟩ : ∃ L, packV ⟨k, fa, fp, ta, tp, d⟩ = L := ⟨_, rfl⟩
  obtain ⟨m, hm⟩ : ∃ m, L.length = m := ⟨_, rfl⟩
  have hm18 : m ≤ 18 := by rw [← hm, ← hL]; exact pack_len _
  have HR := Lib.hid hr
  have HL := Lib.hid hL
  have HM := Lib.hid hm
  have hL2 : L.length ≤ 2000000 := by omega
  clear hr hL hm
  go_enter Try.func10, Try.ntmps10
  go_wp2_with fail
  rw [← WQ.out]
  refine (laws_szPacket _ _ _ _ _ _ _ _ _ _ (by omega) (by omega) (by omega)).mono ?_
  rintro e w1 ⟨rfl, hb1⟩
  have hk1 := bstep hk hb1 hk.size
  have z1 : wq.heap.size ≤ w1.heap.size := hb1.size
  clear hb1
  rw [if_neg (show ¬ (1048576 - (d.length : Int) < 0) by have := HNB.out; omega)]
  obtain ⟨x10, x11, x12, x13, x14, x15⟩ := (EC.out w1 hk1).cells
  go_wp2_with fail
  refine (laws_toPacket k fa fp ta tp d A c _ _ rfl hl2 (SL.out _ hk1)).mono ?_
  rintro e w2 ⟨Ar, cr, rfl, hr, hb2⟩
  have hk2 := bstep hk1 hb2 hk1.size
  have z2 : w1.heap.size ≤ w2.heap.size := hb2.size
  have R_2 := Lib.hid (hr.out)
  have SR := Lib.hid (R_2.out).span
  clear hr
  clear x10 x11 x12 x13 x14 x15
  clear hb2
  go_wp2_with fail
  refine (spec_PackPacket _ _ _ _ _ _ _ _ _ _ rfl hl2 (R_2.out).1 L m r HR.out HL.out HM.out).mono ?_
  rintro e w3 ⟨Aw, cw, rfl, hw, hb3⟩
  have hk3 := bstep hk2 hb3 hk2.size
  have z3 : w2.heap.size ≤ w3.heap.size := hb3.size
  have R_3 := Lib.hid ((R_2.out).below hb3)
  have Wr_3 := Lib.hid (hw.out)
  have SWr := Lib.hid (Wr_3.out).span
  clear hw
  clear hb3
  obtain ⟨x30, x31, x32, x33, x34, x35⟩ := (EC.out w3 hk3).cells
  go_wp2_with fail
  refine (laws_toPacket k fa fp ta tp d A c _ _ rfl hl2 (SL.out _ hk3)).mono ?_
  rintro e w4 ⟨Ax, cx, rfl, hx, hb4⟩
  have hk4 := bstep hk3 hb4 hk3.size
  have z4 : w3.heap.size ≤ w4.heap.size := hb4.size
  have Wr_4 := Lib.hid ((Wr_3.out).below hb4)
  have X_4 := Lib.hid (hx.out)
  have SX := Lib.hid (X_4.out).span
  clear hx
  clear x30 x31 x32 x33 x34 x35
  clear hb4
  obtain ⟨w5, hw5⟩ : ∃ x, x = w4.alloc (.cells #[.int .i64 k, .int .i64 fa, .int .i64 fp, .int .i64 ta, .int .i64 tp, .slice Ax d.length cx] 27) := ⟨_, rfl⟩
  have hb5 : Below w4.heap.size w4 w5 := by subst hw5; exact (Below.refl _ _).alloc (Nat.le_refl _) _
  have z5 : w4.heap.size < w5.heap.size := by subst hw5; simp
  have pk5 : PkAt w5 w4.heap.size k fa fp ta tp (.slice Ax d.length cx) := by subst hw5; exact PkAt.new _ _ _ _ _ _ _ _
  have WQ5 := Lib.hid hw5
  have hk5 := bstep hk4 hb5 hk4.size
  have Wr_5 := Lib.hid ((Wr_4.out).below hb5)
  have X_5 := Lib.hid ((X_4.out).below hb5)
  have BX_5 := Lib.hid pk5
  clear hw5 hb5 pk5
  obtain ⟨x50, x51, x52, x53, x54, x55⟩ := (BX_5.out).cells
  go_wp2_with fail
  rw [← WQ5.out]
  refine (impl_PackPacket _ _ _ _ _ _ _ _ _ _ rfl hl2 (X_5.out).1 L m r HR.out HL.out HM.out).mono ?_
  rintro e w6 ⟨Ag, rfl, _, hg, hb6⟩
  have hk6 := bstep hk5 hb6 hk5.size
  have z6 : w5.heap.size ≤ w6.heap.size := hb6.size
  have Wr_6 := Lib.hid ((Wr_5.out).below hb6)
  have X_6 := Lib.hid ((X_5.out).below hb6)
  have BX_6 := Lib.hid ((BX_5.out).below_ hb6)
  have Gr_6 := Lib.hid hg
  have SGr := Lib.hid (Gr_6.out).span
  clear hg
  clear x50 x51 x52 x53 x54 x55
  clear hb6
  go_wp2_with fail
  refine (eqIs (l := L) (l' := L) (r := true) (decide_eq_true rfl) HM.out.symm HM.out.symm hL2 hL2 (Gr_6.out).1 (Wr_6.out).1).mono ?_
  rintro e w7 ⟨rfl, hb7⟩
  have hk7 := bstep hk6 hb7 hk6.size
  have z7 : w6.heap.size ≤ w7.heap.size := hb7.size
  have Wr_7 := Lib.hid ((Wr_6.out).below hb7)
  have X_7 := Lib.hid ((X_6.out).below hb7)
  have BX_7 := Lib.hid ((BX_6.out).below_ hb7)
  have Gr_7 := Lib.hid ((Gr_6.out).below hb7)
  clear hb7
  have hr0 : Below w7.heap.size w7 w7 := Below.refl _ _
  have KX := Lib.hid (fun W (h : Below w7.heap.size w7 W) => (BX_7.out).below_ h)
  have KE := Lib.hid (fun W (h : Below w7.heap.size w7 W) => EC.out W (bstep hk7 h hk7.size))
  have KS := Lib.hid (fun W (h : Below w7.heap.size w7 W) => SL.out W (bstep hk7 h hk7.size))
  have KO := Lib.hid (fun W (h : Below w7.heap.size w7 W) => (X_7.out).below h)
  have p0 : ∀ W, Below w7.heap.size w7 W → W.cell? ⟨w4.heap.size, 0, none⟩ = some (.int .i64 k) := fun W h => (KX.out W h).cells.1
  have p1 : ∀ W, Below w7.heap.size w7 W → W.cell? ⟨w4.heap.size, 1, none⟩ = some (.int .i64 fa) := fun W h => (KX.out W h).cells.2.1
  have p2 : ∀ W, Below w7.heap.size w7 W → W.cell? ⟨w4.heap.size, 2, none⟩ = some (.int .i64 fp) := fun W h => (KX.out W h).cells.2.2.1
  have p3 : ∀ W, Below w7.heap.size w7 W → W.cell? ⟨w4.heap.size, 3, none⟩ = some (.int .i64 ta) := fun W h => (KX.out W h).cells.2.2.2.1
  have p4 : ∀ W, Below w7.heap.size w7 W → W.cell? ⟨w4.heap.size, 4, none⟩ = some (.int .i64 tp) := fun W h => (KX.out W h).cells.2.2.2.2.1
  have p5 : ∀ W, Below w7.heap.size w7 W → W.cell? ⟨w4.heap.size, 5, none⟩ = some (.slice Ax d.length cx) := fun W h => (KX.out W h).cells.2.2.2.2.2
  have q0 : ∀ W, Below w7.heap.size w7 W → W.cell? ⟨w.heap.size, 0, none⟩ = some (.int .i64 k) := fun W h => (KE.out W h).cells.1
  have q1 : ∀ W, Below w7.heap.size w7 W → W.cell? ⟨w.heap.size, 1, none⟩ = some (.int .i64 fa) := fun W h => (KE.out W h).cells.2.1
  have q2 : ∀ W, Below w7.heap.size w7 W → W.cell? ⟨w.heap.size, 2, none⟩ = some (.int .i64 fp) := fun W h => (KE.out W h).cells.2.2.1
  have q3 : ∀ W, Below w7.heap.size w7 W → W.cell? ⟨w.heap.size, 3, none⟩ = some (.int .i64 ta) := fun W h => (KE.out W h).cells.2.2.2.1
  have q4 : ∀ W, Below w7.heap.size w7 W → W.cell? ⟨w.heap.size, 4, none⟩ = some (.int .i64 tp) := fun W h => (KE.out W h).cells.2.2.2.2.1
  have q5 : ∀ W, Below w7.heap.size w7 W → W.cell? ⟨w.heap.size, 5, none⟩ = some (.slice A d.length c) := fun W h => (KE.out W h).cells.2.2.2.2.2
  go_wp2_with fail
  go_region_held3 (fun W => Below w7.heap.size w7 W) (first | with_reducible exact hr0.drew | with_reducible exact hr0 | with_reducible assumption) (first | (go_at_call 24; refine (laws_toPacket k fa fp ta tp d A c _ _ rfl hl2 (KS.out _ (by with_reducible assumption))).mono ?_; rintro e wc ⟨Ac, cc, rfl, hcopy, hbc⟩; have hc1 := bstep (B := w7.heap.size) (a := w7) (by with_reducible assumption) hbc (Below.size (by with_reducible assumption)); have HCO := Lib.hid hcopy; clear hcopy) | (go_at_call 25; refine (same_eqPacket rfl rfl hl2 (KO.out _ hc1).1 HCO.out.sl).mono ?_; rintro e wd ⟨rfl, hbd⟩; have hd1 := bstep hc1 hbd hc1.size))
  clear hbc hbd hc1 p0 q0 p1 q1 p2 q2 p3 q3 p4 q4 p5 q5
  obtain ⟨w8, hww8⟩ : ∃ x, x = wd := ⟨_, rfl⟩
  subst hww8
  have hk8 := bstep hk7 hd1 hk7.size
  have z8 : w7.heap.size ≤ w8.heap.size := hd1.size
  have Wr_8 := Lib.hid ((Wr_7.out).below hd1)
  have X_8 := Lib.hid ((X_7.out).below hd1)
  have BX_8 := Lib.hid ((BX_7.out).below_ hd1)
  have Gr_8 := Lib.hid ((Gr_7.out).below hd1)
  clear hd1
  obtain ⟨x80, x81, x82, x83, x84, x85⟩ := (BX_8.out).cells
  go_wp2_with fail
  refine (markPk rfl (by omega) (by omega) (by omega) (X_8.out)).mono ?_
  rintro e w9 ⟨rfl, hm9, row9, hg9, hr9⟩
  have hrow9 : ∀ g, row9 = some g → _ := fun g hg => (SX.out) g (hr9 g hg).1 (hr9 g hg).2
  have hk9 : Below wq.heap.size wq w9 := below_app hk8 hg9 hk8.size (fun g hg => by have := (hrow9 g hg).1; omega)
  have z9 : w8.heap.size ≤ w9.heap.size := hg9.size
  have Wr_9 := Lib.hid ((Wr_8.out).grownM hg9 (fun g hy hne hr => by have a1 := hrow9 g hr; have a2 := (SWr.out) g hy hne; omega))
  have BX_9 := Lib.hid ((BX_8.out).grown hg9 (fun e => by have := hrow9 _ e.symm; omega))
  have Gr_9 := Lib.hid ((Gr_8.out).grownM hg9 (fun g hy hne hr => by have a1 := hrow9 g hr; have a2 := (SGr.out) g hy hne; omega))
  have X_9 := Lib.hid hm9
  clear x80 x81 x82 x83 x84 x85
  clear hm9 hg9 hr9 hrow9
  have hnn : ¬ (1 + (d.length : Int) < 0) := by omega
  go_wp2_with fail
  refine (eqIs (l := L) (l' := L) (r := true) (decide_eq_true rfl) HM.out.symm HM.out.symm hL2 hL2 (Gr_9.out).1 (Wr_9.out).1).mono ?_
  rintro e w10 ⟨rfl, hb10⟩
  have hk10 := bstep hk9 hb10 hk9.size
  have z10 : w9.heap.size ≤ w10.heap.size := hb10.size
  have Wr_10 := Lib.hid ((Wr_9.out).below hb10)
  have Gr_10 := Lib.hid ((Gr_9.out).below hb10)
  clear hb10
  have hnm : ¬ (1 + (m : Int) < 0) := by omega
  go_wp2_with fail
  refine (markZ HM.out.symm (by omega) (by omega) (by omega) (Gr_10.out)).mono ?_
  rintro e w11 ⟨rfl, hm11, row11, hg11, hr11⟩
  have hrow11 : ∀ g, row11 = some g → _ := fun g hg => (SGr.out) g (hr11 g hg).1 (hr11 g hg).2
  have hk11 : Below wq.heap.size wq w11 := below_app hk10 hg11 hk10.size (fun g hg => by have := (hrow11 g hg).1; omega)
  have z11 : w10.heap.size ≤ w11.heap.size := hg11.size
  have Wr_11 := Lib.hid ((Wr_10.out).grownM hg11 (fun g hy hne hr => by have a1 := hrow11 g hr; have a2 := (SWr.out) g hy hne; omega))
  have Gr_11 := Lib.hid hm11
  clear hm11 hg11 hr11 hrow11
  go_wp2_with fail
  refine (laws_heldIntS _ _ m 1 _ (by omega) (by omega) (by omega) Gr_11.out).mono ?_
  rintro e wh11 ⟨rfl, rfl⟩
  obtain ⟨x110, x111, x112, x113, x114, x115⟩ := (EC.out w11 hk11).cells
  go_wp2_with fail
  refine (laws_toPacket k fa fp ta tp d A c _ _ rfl hl2 (SL.out _ hk11)).mono ?_
  rintro e w12 ⟨Ah, ch, rfl, hh, hb12⟩
  have hk12 := bstep hk11 hb12 hk11.size
  have z12 : w11.heap.size ≤ w12.heap.size := hb12.size
  have Wr_12 := Lib.hid ((Wr_11.out).below hb12)
  have Gr_12 := Lib.hid ((Gr_11.out).below hb12)
  have H_12 := Lib.hid (hh.out)
  have SH := Lib.hid (H_12.out).span
  clear hh
  clear x110 x111 x112 x113 x114 x115
  clear hb12
  go_wp2_with fail
  refine (impl_PackPacket _ _ _ _ _ _ _ _ _ _ rfl hl2 (H_12.out).1 L m r HR.out HL.out HM.out).mono ?_
  rintro e w13 ⟨Ai, rfl, _, hi, hb13⟩
  have hk13 := bstep hk12 hb13 hk12.size
  have z13 : w12.heap.size ≤ w13.heap.size := hb13.size
  have Wr_13 := Lib.hid ((Wr_12.out).below hb13)
  have Gr_13 := Lib.hid ((Gr_12.out).below hb13)
  have H_13 := Lib.hid ((H_12.out).below hb13)
  have I_13 := Lib.hid hi
  have SI := Lib.hid (I_13.out).span
  clear hi
  clear hb13
  go_wp2_with fail
  refine (eqIs (l := L) (l' := L) (r := true) (decide_eq_true rfl) HM.out.symm HM.out.symm hL2 hL2 (I_13.out).1 (Wr_13.out).1).mono ?_
  rintro e w14 ⟨rfl, hb14⟩
  have hk14 := bstep hk13 hb14 hk13.size
  have z14 : w13.heap.size ≤ w14.heap.size := hb14.size
  have Wr_14 := Lib.hid ((Wr_13.out).below hb14)
  have Gr_14 := Lib.hid ((Gr_13.out).below hb14)
  have H_14 := Lib.hid ((H_13.out).below hb14)
  have I_14 := Lib.hid ((I_13.out).below hb14)
  clear hb14
  go_wp2_with fail
  refine (laws_heldIntS _ _ m 1 _ (by omega) (by omega) (by omega) Gr_14.out).mono ?_
  rintro e wh14 ⟨rfl, rfl⟩
  go_wp2
  go_ret
  exact ⟨rfl, hq.trans (hk14.mono hq.size)⟩
end Go.Proofs.Ytnkdhpbbiilekaa
