/- The walk of FnExactPacketCheck. -/
import Derived.Test.YtnkdhpbbiilekaaKy
namespace Go.Proofs.Ytnkdhpbbiilekaa
open Go.RowKit
set_option maxHeartbeats 8000000 in
theorem FnExactPacketCheck_walk (k fa fp ta tp : Int) (A : Option Addr) (c : Nat) (d : List Int) (w : World) (hc : c ≤ maxLen) (hs : Sl encI 1 w A c d) :
    Calls Try.prog 8 #[.agg #[.int .i64 k, .int .i64 fa, .int .i64 fp, .int .i64 ta, .int .i64 tp, .slice A d.length c]] w (Ret w (.bool true)) := by
  have hlc := hs.1
  unfold maxLen at hc
  obtain ⟨wq, hwq⟩ : ∃ x, x = w.alloc (.cells #[.int .i64 k, .int .i64 fa, .int .i64 fp, .int .i64 ta, .int .i64 tp, .slice A d.length c] 37) := ⟨_, rfl⟩
  have hq : Below w.heap.size w wq := by subst hwq; exact (Below.refl _ _).alloc (Nat.le_refl _) _
  have bx : PkAt wq w.heap.size k fa fp ta tp (.slice A d.length c) := by subst hwq; exact PkAt.new _ _ _ _ _ _ _ _
  have hlt : w.heap.size < wq.heap.size := bx.lt
  have EC := Lib.hid (fun W (h : Below wq.heap.size wq W) => bx.below h hlt)
  have SL := Lib.hid (fun W (h : Below wq.heap.size wq W) => hs.below (hq.trans (h.mono hq.size)))
  have WQ := Lib.hid hwq
  have hk : Below wq.heap.size wq wq := Below.refl _ _
  clear hs hwq bx
  by_cases hbig : (1048576 : Int) - (d.length : Int) < 0
  · go_enter Try.func8, Try.ntmps8
    go_wp2_with fail
    rw [← WQ.out]
    refine (laws_szPacket _ _ _ _ _ _ _ _ _ _ (by omega) (by omega) (by omega)).mono ?_
    rintro e w1 ⟨rfl, hb1⟩
    rw [if_pos hbig]
    go_wp2
    go_ret
    exact ⟨rfl, hq.trans (hb1.mono hq.size)⟩
  have hl2 : d.length ≤ 2000000 := by omega
  have HNB := Lib.hid hbig
  have hpos : (0 : Int) ≤ 1048576 - (d.length : Int) := by omega
  clear hbig
  obtain ⟨v, hv⟩ : ∃ v, checkV ⟨k, fa, fp, ta, tp, d⟩ = v := ⟨_, rfl⟩
  have HV := Lib.hid hv
  clear hv
  go_enter Try.func8, Try.ntmps8
  go_wp2_with fail
  rw [← WQ.out]
  refine (laws_szPacket _ _ _ _ _ _ _ _ _ _ (by omega) (by omega) (by omega)).mono ?_
  rintro e w1 ⟨rfl, hb1⟩
  have hk1 := bstep hk hb1 hk.size
  have z1 : wq.heap.size ≤ w1.heap.size := hb1.size
  clear hb1
  rw [if_neg (show ¬ (1048576 - (d.length : Int) < 0) by have := HNB.out; omega)]
  obtain ⟨x10, x11, x12, x13, x14, x15⟩ := (EC.out w1 hk1).cells
  go_wp2_with fail
  refine (laws_toPacket k fa fp ta tp d A c _ _ rfl hl2 (SL.out _ hk1)).mono ?_
  rintro e w2 ⟨Ar, cr, rfl, hr, hb2⟩
  have hk2 := bstep hk1 hb2 hk1.size
  have z2 : w1.heap.size ≤ w2.heap.size := hb2.size
  have R_2 := Lib.hid (hr.out)
  have SR := Lib.hid (R_2.out).span
  clear hr
  clear x10 x11 x12 x13 x14 x15
  clear hb2
  go_wp2_with fail
  refine (spec_PC HV.out rfl hl2 (R_2.out).1).mono ?_
  rintro e w3 ⟨rfl, hb3⟩
  have hk3 := bstep hk2 hb3 hk2.size
  have z3 : w2.heap.size ≤ w3.heap.size := hb3.size
  have R_3 := Lib.hid ((R_2.out).below hb3)
  clear hb3
  obtain ⟨x30, x31, x32, x33, x34, x35⟩ := (EC.out w3 hk3).cells
  go_wp2_with fail
  refine (laws_toPacket k fa fp ta tp d A c _ _ rfl hl2 (SL.out _ hk3)).mono ?_
  rintro e w4 ⟨Ax, cx, rfl, hx, hb4⟩
  have hk4 := bstep hk3 hb4 hk3.size
  have z4 : w3.heap.size ≤ w4.heap.size := hb4.size
  have X_4 := Lib.hid (hx.out)
  have SX := Lib.hid (X_4.out).span
  clear hx
  clear x30 x31 x32 x33 x34 x35
  clear hb4
  obtain ⟨w5, hw5⟩ : ∃ x, x = w4.alloc (.cells #[.int .i64 k, .int .i64 fa, .int .i64 fp, .int .i64 ta, .int .i64 tp, .slice Ax d.length cx] 27) := ⟨_, rfl⟩
  have hb5 : Below w4.heap.size w4 w5 := by subst hw5; exact (Below.refl _ _).alloc (Nat.le_refl _) _
  have z5 : w4.heap.size < w5.heap.size := by subst hw5; simp
  have pk5 : PkAt w5 w4.heap.size k fa fp ta tp (.slice Ax d.length cx) := by subst hw5; exact PkAt.new _ _ _ _ _ _ _ _
  have WQ5 := Lib.hid hw5
  have hk5 := bstep hk4 hb5 hk4.size
  have X_5 := Lib.hid ((X_4.out).below hb5)
  have BX_5 := Lib.hid pk5
  clear hw5 hb5 pk5
  obtain ⟨x50, x51, x52, x53, x54, x55⟩ := (BX_5.out).cells
  go_wp2_with fail
  rw [← WQ5.out]
  refine (impl_PC HV.out rfl hl2 (X_5.out).1).mono ?_
  rintro e w6 ⟨rfl, hb6⟩
  have hk6 := bstep hk5 hb6 hk5.size
  have z6 : w5.heap.size ≤ w6.heap.size := hb6.size
  have X_6 := Lib.hid ((X_5.out).below hb6)
  have BX_6 := Lib.hid ((BX_5.out).below_ hb6)
  clear x50 x51 x52 x53 x54 x55
  clear hb6
  have hr0 : Below w6.heap.size w6 w6 := Below.refl _ _
  have KX := Lib.hid (fun W (h : Below w6.heap.size w6 W) => (BX_6.out).below_ h)
  have KE := Lib.hid (fun W (h : Below w6.heap.size w6 W) => EC.out W (bstep hk6 h hk6.size))
  have KS := Lib.hid (fun W (h : Below w6.heap.size w6 W) => SL.out W (bstep hk6 h hk6.size))
  have KO := Lib.hid (fun W (h : Below w6.heap.size w6 W) => (X_6.out).below h)
  have p0 : ∀ W, Below w6.heap.size w6 W → W.cell? ⟨w4.heap.size, 0, none⟩ = some (.int .i64 k) := fun W h => (KX.out W h).cells.1
  have p1 : ∀ W, Below w6.heap.size w6 W → W.cell? ⟨w4.heap.size, 1, none⟩ = some (.int .i64 fa) := fun W h => (KX.out W h).cells.2.1
  have p2 : ∀ W, Below w6.heap.size w6 W → W.cell? ⟨w4.heap.size, 2, none⟩ = some (.int .i64 fp) := fun W h => (KX.out W h).cells.2.2.1
  have p3 : ∀ W, Below w6.heap.size w6 W → W.cell? ⟨w4.heap.size, 3, none⟩ = some (.int .i64 ta) := fun W h => (KX.out W h).cells.2.2.2.1
  have p4 : ∀ W, Below w6.heap.size w6 W → W.cell? ⟨w4.heap.size, 4, none⟩ = some (.int .i64 tp) := fun W h => (KX.out W h).cells.2.2.2.2.1
  have p5 : ∀ W, Below w6.heap.size w6 W → W.cell? ⟨w4.heap.size, 5, none⟩ = some (.slice Ax d.length cx) := fun W h => (KX.out W h).cells.2.2.2.2.2
  have q0 : ∀ W, Below w6.heap.size w6 W → W.cell? ⟨w.heap.size, 0, none⟩ = some (.int .i64 k) := fun W h => (KE.out W h).cells.1
  have q1 : ∀ W, Below w6.heap.size w6 W → W.cell? ⟨w.heap.size, 1, none⟩ = some (.int .i64 fa) := fun W h => (KE.out W h).cells.2.1
  have q2 : ∀ W, Below w6.heap.size w6 W → W.cell? ⟨w.heap.size, 2, none⟩ = some (.int .i64 fp) := fun W h => (KE.out W h).cells.2.2.1
  have q3 : ∀ W, Below w6.heap.size w6 W → W.cell? ⟨w.heap.size, 3, none⟩ = some (.int .i64 ta) := fun W h => (KE.out W h).cells.2.2.2.1
  have q4 : ∀ W, Below w6.heap.size w6 W → W.cell? ⟨w.heap.size, 4, none⟩ = some (.int .i64 tp) := fun W h => (KE.out W h).cells.2.2.2.2.1
  have q5 : ∀ W, Below w6.heap.size w6 W → W.cell? ⟨w.heap.size, 5, none⟩ = some (.slice A d.length c) := fun W h => (KE.out W h).cells.2.2.2.2.2
  go_wp2_with fail
  go_region_held3 (fun W => Below w6.heap.size w6 W) (first | with_reducible exact hr0.drew | with_reducible exact hr0 | with_reducible assumption) (first | (go_at_call 24; refine (laws_toPacket k fa fp ta tp d A c _ _ rfl hl2 (KS.out _ (by with_reducible assumption))).mono ?_; rintro e wc ⟨Ac, cc, rfl, hcopy, hbc⟩; have hc1 := bstep (B := w6.heap.size) (a := w6) (by with_reducible assumption) hbc (Below.size (by with_reducible assumption)); have HCO := Lib.hid hcopy; clear hcopy) | (go_at_call 25; refine (same_eqPacket rfl rfl hl2 (KO.out _ hc1).1 HCO.out.sl).mono ?_; rintro e wd ⟨rfl, hbd⟩; have hd1 := bstep hc1 hbd hc1.size))
  clear hbc hbd hc1 p0 q0 p1 q1 p2 q2 p3 q3 p4 q4 p5 q5
  obtain ⟨w7, hww7⟩ : ∃ x, x = wd := ⟨_, rfl⟩
  subst hww7
  have hk7 := bstep hk6 hd1 hk6.size
  have z7 : w6.heap.size ≤ w7.heap.size := hd1.size
  have X_7 := Lib.hid ((X_6.out).below hd1)
  have BX_7 := Lib.hid ((BX_6.out).below_ hd1)
  clear hd1
  go_wp2
  go_ret
  exact ⟨rfl, hq.trans (hk7.mono hq.size)⟩
end Go.Proofs.Ytnkdhpbbiilekaa
