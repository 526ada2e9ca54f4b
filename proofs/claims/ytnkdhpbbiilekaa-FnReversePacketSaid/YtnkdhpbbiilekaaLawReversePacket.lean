/- The walk of FnReversePacket. -/
import Derived.Test.YtnkdhpbbiilekaaKr
namespace Go.Proofs.Ytnkdhpbbiilekaa
open Go.RowKit
set_option maxHeartbeats 4000000 in
theorem FnReversePacket_walk (A : Option Addr) (c : Nat) (l : List Int) (w : World) (hi : CodeIn w A c l) :
    Calls Try.prog 9 #[.slice A l.length c] w (Ret w (.bool true)) := by
  have hc := hi.1
  have hlc := hi.2.1.1
  unfold maxLen at hc
  have HI := Lib.hid hi
  clear hi
  by_cases hbig : 1048576 < l.length
  · go_enter Try.func9, Try.ntmps9
    go_wp2
    go_ret
    exact ⟨rfl, Below.refl _ _⟩
  go_enter Try.func9, Try.ntmps9
  go_wp2_with fail
  refine (DrawReversePacket_ _ _ _ _ HI.out).mono ?_
  rintro e w1 ⟨k, fa, fp, ta, tp, A1, c1, d, rfl, hd, ho, hb⟩
  obtain ⟨w2, hw2⟩ : ∃ x, x = w1.alloc (.cells #[.int .i64 k, .int .i64 fa, .int .i64 fp, .int .i64 ta, .int .i64 tp, .slice A1 d.length c1] 27) := ⟨_, rfl⟩
  have hq : Below w1.heap.size w1 w2 := by subst hw2; exact (Below.refl _ _).alloc (Nat.le_refl _) _
  have hzq : w1.heap.size < w2.heap.size := by subst hw2; simp
  have bx : PkAt w2 w1.heap.size k fa fp ta tp (.slice A1 d.length c1) := by subst hw2; exact PkAt.new _ _ _ _ _ _ _ _
  have CC := Lib.hid (fun W (h : Below w2.heap.size w2 W) => (bx.below h hzq).cells)
  have SL := Lib.hid (fun W (h : Below w2.heap.size w2 W) => ho.sl.below (hq.trans (h.mono hq.size)))
  have HB := Lib.hid (hb.trans (hq.mono hb.size))
  have hk : Below w2.heap.size w2 w2 := Below.refl _ _
  have hd2 : d.length ≤ 2000000 := by omega
  have WQ := Lib.hid hw2
  clear hb ho hw2 bx
  obtain ⟨x0, x1, x2, x3, x4, x5⟩ := CC.out w2 hk
  obtain ⟨r, hr⟩ : ∃ r, okPk ⟨k, fa, fp, ta, tp, d⟩ = r := ⟨_, rfl⟩
  have RO := Lib.hid hr
  clear hr
  cases r
  · go_wp2_with fail
    rw [← WQ.out]
    refine (impl_ReversePacket_bad _ _ _ _ _ _ _ _ _ _ rfl hd2 (SL.out _ hk) RO.out).mono ?_
    rintro e w3 ⟨rfl, hb3⟩
    have hk3 := hb3
    have hl3 : w1.heap.size < w3.heap.size := Nat.lt_of_lt_of_le hzq hb3.size
    have hk4 : Below w2.heap.size w2 (w3.alloc (.cells #[.int .i64 0, .int .i64 0, .int .i64 0, .int .i64 0, .int .i64 0, .slice none 0 0] 27)) := hk3.alloc hk3.size _
    have hj4 : Below w3.heap.size w3 (w3.alloc (.cells #[.int .i64 0, .int .i64 0, .int .i64 0, .int .i64 0, .int .i64 0, .slice none 0 0] 27)) := (Below.refl _ _).alloc (Nat.le_refl _) _
    clear x0 x1 x2 x3 x4 x5
    obtain ⟨x0, x1, x2, x3, x4, x5⟩ := CC.out w3 hk3
    go_wp2_with fail
    refine (spec_ReversePacket_bad _ _ _ _ _ _ _ _ _ _ rfl hd2 (SL.out _ hk4) RO.out).mono ?_
    rintro e w5 ⟨rfl, hb5⟩
    have hk5 := bstep hk4 hb5 hk4.size
    have hj5 := bstep hj4 hb5 hj4.size
    have bq5 : PkAt w5 w3.heap.size 0 0 0 0 0 (.slice none 0 0) := (PkAt.new w3 27 _ _ _ _ _ _).below_ hb5
    have hl5 := bq5.lt
    have hk5a : Below w2.heap.size w2 (w5.alloc (.cells #[.int .i64 0, .int .i64 0, .int .i64 0, .int .i64 0, .int .i64 0, .slice none 0 0] 27)) := hk5.alloc hk5.size _
    have hj5a : Below w3.heap.size w3 (w5.alloc (.cells #[.int .i64 0, .int .i64 0, .int .i64 0, .int .i64 0, .int .i64 0, .slice none 0 0] 27)) := hj5.alloc hj5.size _
    have hi5a : Below w5.heap.size w5 (w5.alloc (.cells #[.int .i64 0, .int .i64 0, .int .i64 0, .int .i64 0, .int .i64 0, .slice none 0 0] 27)) := (Below.refl _ _).alloc (Nat.le_refl _) _
    clear x0 x1 x2 x3 x4 x5
    obtain ⟨y0, y1, y2, y3, y4, y5⟩ := bq5.cells
    go_wp2_with fail
    refine (same_packets (d := []) rfl rfl (by simp) Sl.nil Sl.nil).mono ?_
    rintro e w6 ⟨rfl, hb6⟩
    have hk6 := bstep hk5a hb6 hk5a.size
    have hj6 := bstep hj5a hb6 hj5a.size
    have hi6 := bstep hi5a hb6 hi5a.size
    have bq6 := bq5.below hi6 hl5
    have bw6 : PkAt w6 w5.heap.size 0 0 0 0 0 (.slice none 0 0) := (PkAt.new w5 27 _ _ _ _ _ _).below_ hb6
    clear y0 y1 y2 y3 y4 y5
    obtain ⟨y0, y1, y2, y3, y4, y5⟩ := bq6.cells
    obtain ⟨z0, z1, z2, z3, z4, z5⟩ := bw6.cells
    go_wp2_with fail
    refine (same_packets (d := []) rfl rfl (by simp) Sl.nil Sl.nil).mono ?_
    rintro e w7 ⟨rfl, hb7⟩
    have hk7 := bstep hk6 hb7 hk6.size
    go_wp2
    go_ret
    exact ⟨by simp, HB.out.trans (hk7.mono HB.out.size)⟩
  go_wp2_with fail
  rw [← WQ.out]
  refine (impl_ReversePacket_ok _ _ _ _ _ _ _ _ _ _ rfl hd2 (SL.out _ hk) RO.out).mono ?_
  rintro e w3 ⟨A3, rfl, ho3, hb3⟩
  have hk3 := hb3
  have O3 := Lib.hid (fun W (h : Below w3.heap.size w3 W) => ho3.below h)
  clear ho3
  have hl3 : w1.heap.size < w3.heap.size := Nat.lt_of_lt_of_le hzq hb3.size
  have hk4 : Below w2.heap.size w2 (w3.alloc (.cells #[.int .i64 k, .int .i64 ta, .int .i64 tp, .int .i64 fa, .int .i64 fp, .slice A3 d.length d.length] 27)) := hk3.alloc hk3.size _
  have hj4 : Below w3.heap.size w3 (w3.alloc (.cells #[.int .i64 k, .int .i64 ta, .int .i64 tp, .int .i64 fa, .int .i64 fp, .slice A3 d.length d.length] 27)) := (Below.refl _ _).alloc (Nat.le_refl _) _
  clear x0 x1 x2 x3 x4 x5
  obtain ⟨x0, x1, x2, x3, x4, x5⟩ := CC.out w3 hk3
  go_wp2_with fail
  refine (spec_ReversePacket_ok _ _ _ _ _ _ _ _ _ _ rfl hd2 (SL.out _ hk4) RO.out).mono ?_
  rintro e w5 ⟨A5, c5, rfl, ho5, hb5⟩
  have hk5 := bstep hk4 hb5 hk4.size
  have hj5 := bstep hj4 hb5 hj4.size
  have O5 := Lib.hid (fun W (h : Below w5.heap.size w5 W) => ho5.below h)
  clear ho5
  have bq5 : PkAt w5 w3.heap.size k ta tp fa fp (.slice A3 d.length d.length) := (PkAt.new w3 27 _ _ _ _ _ _).below_ hb5
  have hl5 := bq5.lt
  have hk5a : Below w2.heap.size w2 (w5.alloc (.cells #[.int .i64 k, .int .i64 ta, .int .i64 tp, .int .i64 fa, .int .i64 fp, .slice A5 d.length c5] 27)) := hk5.alloc hk5.size _
  have hj5a : Below w3.heap.size w3 (w5.alloc (.cells #[.int .i64 k, .int .i64 ta, .int .i64 tp, .int .i64 fa, .int .i64 fp, .slice A5 d.length c5] 27)) := hj5.alloc hj5.size _
  have hi5a : Below w5.heap.size w5 (w5.alloc (.cells #[.int .i64 k, .int .i64 ta, .int .i64 tp, .int .i64 fa, .int .i64 fp, .slice A5 d.length c5] 27)) := (Below.refl _ _).alloc (Nat.le_refl _) _
  clear x0 x1 x2 x3 x4 x5
  obtain ⟨y0, y1, y2, y3, y4, y5⟩ := bq5.cells
  go_wp2_with fail
  refine (same_packets (d := d) rfl rfl hd2 (O3.out _ hj5a).1 (O5.out _ hi5a).sl).mono ?_
  rintro e w6 ⟨rfl, hb6⟩
  have hk6 := bstep hk5a hb6 hk5a.size
  have hj6 := bstep hj5a hb6 hj5a.size
  have hi6 := bstep hi5a hb6 hi5a.size
  have bq6 := bq5.below hi6 hl5
  have bw6 : PkAt w6 w5.heap.size k ta tp fa fp (.slice A5 d.length c5) := (PkAt.new w5 27 _ _ _ _ _ _).below_ hb6
  clear y0 y1 y2 y3 y4 y5
  have rk := rev_ok RO.out
  have RO2 := Lib.hid rk.1
  obtain ⟨v, hv⟩ : ∃ v, checkV ⟨k, fa, fp, ta, tp, d⟩ = v := ⟨_, rfl⟩
  have V := Lib.hid hv
  have V2 := Lib.hid (show checkV ⟨k, ta, tp, fa, fp, d⟩ = v by rw [← hv, checkV_ok RO.out, ← rk.2]; exact checkV_ok rk.1)
  clear bw6 rk hv
  have hl6 := bq6.lt
  obtain ⟨y0, y1, y2, y3, y4, y5⟩ := bq6.cells
  go_wp2_with fail
  refine (impl_ReversePacket_ok k ta tp fa fp d _ _ _ _ rfl hd2 (O3.out _ hj6).1 RO2.out).mono ?_
  rintro e w7 ⟨A7, rfl, ho7, hb7⟩
  have hk7 := bstep hk6 hb7 hk6.size
  have hj7 := bstep hj6 hb7 hj6.size
  have bq7 := bq6.below_ hb7
  obtain ⟨wS, hwS⟩ : ∃ z : World, z = w7.alloc (.cells #[.int .i64 k, .int .i64 fa, .int .i64 fp, .int .i64 ta, .int .i64 tp, .slice A7 d.length d.length] 27) := ⟨_, rfl⟩
  have hbS : Below w7.heap.size w7 wS := by subst hwS; exact (Below.refl _ _).alloc (Nat.le_refl _) _
  have bS : PkAt wS w7.heap.size k fa fp ta tp (.slice A7 d.length d.length) := by subst hwS; exact PkAt.new _ _ _ _ _ _ _ _
  have hkS := bstep hk7 hbS hk7.size
  have hjS := bstep hj7 hbS hj7.size
  have bqS := bq7.below_ hbS
  have WS := Lib.hid hwS
  have s0 : ∀ W, Below wS.heap.size wS W → W.cell? ⟨w7.heap.size, 0, none⟩ = some (.int .i64 k) := fun W h => (bS.below h bS.lt).cells.1
  have s1 : ∀ W, Below wS.heap.size wS W → W.cell? ⟨w7.heap.size, 1, none⟩ = some (.int .i64 fa) := fun W h => (bS.below h bS.lt).cells.2.1
  have s2 : ∀ W, Below wS.heap.size wS W → W.cell? ⟨w7.heap.size, 2, none⟩ = some (.int .i64 fp) := fun W h => (bS.below h bS.lt).cells.2.2.1
  have s3 : ∀ W, Below wS.heap.size wS W → W.cell? ⟨w7.heap.size, 3, none⟩ = some (.int .i64 ta) := fun W h => (bS.below h bS.lt).cells.2.2.2.1
  have s4 : ∀ W, Below wS.heap.size wS W → W.cell? ⟨w7.heap.size, 4, none⟩ = some (.int .i64 tp) := fun W h => (bS.below h bS.lt).cells.2.2.2.2.1
  have s5 : ∀ W, Below wS.heap.size wS W → W.cell? ⟨w7.heap.size, 5, none⟩ = some (.slice A7 d.length d.length) := fun W h => (bS.below h bS.lt).cells.2.2.2.2.2
  have q0 : ∀ W, Below wS.heap.size wS W → W.cell? ⟨w3.heap.size, 0, none⟩ = some (.int .i64 k) := fun W h => (bqS.below h bqS.lt).cells.1
  have q1 : ∀ W, Below wS.heap.size wS W → W.cell? ⟨w3.heap.size, 1, none⟩ = some (.int .i64 ta) := fun W h => (bqS.below h bqS.lt).cells.2.1
  have q2 : ∀ W, Below wS.heap.size wS W → W.cell? ⟨w3.heap.size, 2, none⟩ = some (.int .i64 tp) := fun W h => (bqS.below h bqS.lt).cells.2.2.1
  have q3 : ∀ W, Below wS.heap.size wS W → W.cell? ⟨w3.heap.size, 3, none⟩ = some (.int .i64 fa) := fun W h => (bqS.below h bqS.lt).cells.2.2.2.1
  have q4 : ∀ W, Below wS.heap.size wS W → W.cell? ⟨w3.heap.size, 4, none⟩ = some (.int .i64 fp) := fun W h => (bqS.below h bqS.lt).cells.2.2.2.2.1
  have q5 : ∀ W, Below wS.heap.size wS W → W.cell? ⟨w3.heap.size, 5, none⟩ = some (.slice A3 d.length d.length) := fun W h => (bqS.below h bqS.lt).cells.2.2.2.2.2
  have x0 : ∀ W, Below wS.heap.size wS W → W.cell? ⟨w1.heap.size, 0, none⟩ = some (.int .i64 k) := fun W h => (CC.out W (bstep hkS h hkS.size)).1
  have x1 : ∀ W, Below wS.heap.size wS W → W.cell? ⟨w1.heap.size, 1, none⟩ = some (.int .i64 fa) := fun W h => (CC.out W (bstep hkS h hkS.size)).2.1
  have x2 : ∀ W, Below wS.heap.size wS W → W.cell? ⟨w1.heap.size, 2, none⟩ = some (.int .i64 fp) := fun W h => (CC.out W (bstep hkS h hkS.size)).2.2.1
  have x3 : ∀ W, Below wS.heap.size wS W → W.cell? ⟨w1.heap.size, 3, none⟩ = some (.int .i64 ta) := fun W h => (CC.out W (bstep hkS h hkS.size)).2.2.2.1
  have x4 : ∀ W, Below wS.heap.size wS W → W.cell? ⟨w1.heap.size, 4, none⟩ = some (.int .i64 tp) := fun W h => (CC.out W (bstep hkS h hkS.size)).2.2.2.2.1
  have x5 : ∀ W, Below wS.heap.size wS W → W.cell? ⟨w1.heap.size, 5, none⟩ = some (.slice A1 d.length c1) := fun W h => (CC.out W (bstep hkS h hkS.size)).2.2.2.2.2
  have SLS := Lib.hid (fun W (h : Below wS.heap.size wS W) => SL.out W (bstep hkS h hkS.size))
  have O3S := Lib.hid (fun W (h : Below wS.heap.size wS W) => (O3.out W (bstep hjS h hjS.size)).1)
  have O7S := Lib.hid (fun W (h : Below wS.heap.size wS W) => (ho7.below ((hbS.trans (h.mono hbS.size)))).1)
  have E1 := eqlEnB fa fp fa fp (r := true) (by simp)
  have E2 := eqlEnB ta tp ta tp (r := true) (by simp)
  have hr0 : Below wS.heap.size wS wS := Below.refl _ _
  clear y0 y1 y2 y3 y4 y5 hwS ho7 bS bqS
  go_wp2
  rw [← WS.out]
  go_region_held3 (fun W => Below wS.heap.size wS W) (first | exact hr0.drew | assumption) (first | (go_at_call 18; refine (same_packets (d := d) rfl rfl hd2 (O7S.out _ (by assumption)) (SLS.out _ (by assumption))).mono ?_; rintro e wa ⟨rfl, hba⟩; have hka := bstep (B := wS.heap.size) (a := wS) (by assumption) hba (Below.size (by assumption))) | (go_at_call 20; first | (have _hh := hkb; refine (impl_PC V.out rfl hd2 (SLS.out _ (by assumption))).mono ?_; rintro e wc ⟨rfl, hbc⟩; have hkc := bstep (B := wS.heap.size) (a := wS) (by assumption) hbc (Below.size (by assumption))) | (refine (impl_PC V2.out rfl hd2 (O3S.out _ (by assumption))).mono ?_; rintro e wb ⟨rfl, hbb⟩; have hkb := bstep (B := wS.heap.size) (a := wS) (by assumption) hbb (Below.size (by assumption)))))
  all_goals
    go_wp2
    go_ret
    exact ⟨by simp, HB.out.trans ((bstep hkS hkc hkS.size).mono HB.out.size)⟩
end Go.Proofs.Ytnkdhpbbiilekaa
