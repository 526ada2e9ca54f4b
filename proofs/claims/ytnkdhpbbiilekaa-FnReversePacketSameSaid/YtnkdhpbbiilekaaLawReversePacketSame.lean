/- The walk of FnReversePacketSame. -/
import Derived.Test.YtnkdhpbbiilekaaKr
namespace Go.Proofs.Ytnkdhpbbiilekaa
open Go.RowKit
set_option maxHeartbeats 4000000 in
theorem FnReversePacketSame_walk (A : Option Addr) (c : Nat) (l : List Int) (w : World) (hi : CodeIn w A c l) :
    Calls Try.prog 3 #[.slice A l.length c] w (Ret w (.bool true)) := by
  have hc := hi.1
  have hlc := hi.2.1.1
  unfold maxLen at hc
  have HI := Lib.hid hi
  clear hi
  by_cases hbig : 1048576 < l.length
  · go_enter Try.func3, Try.ntmps3
    go_wp2
    go_ret
    exact ⟨rfl, Below.refl _ _⟩
  go_enter Try.func3, Try.ntmps3
  go_wp2_with fail
  refine (DrawReversePacket_ _ _ _ _ HI.out).mono ?_
  rintro e w1 ⟨k, fa, fp, ta, tp, A1, c1, d, rfl, hd, ho, hb⟩
  obtain ⟨w2, hw2⟩ : ∃ x, x = w1.alloc (.cells #[.int .i64 k, .int .i64 fa, .int .i64 fp, .int .i64 ta, .int .i64 tp, .slice A1 d.length c1] 27) := ⟨_, rfl⟩
  have hq : Below w1.heap.size w1 w2 := by subst hw2; exact (Below.refl _ _).alloc (Nat.le_refl _) _
  have hzq : w1.heap.size < w2.heap.size := by subst hw2; simp
  have bx : PkAt w2 w1.heap.size k fa fp ta tp (.slice A1 d.length c1) := by subst hw2; exact PkAt.new _ _ _ _ _ _ _ _
  have CC := Lib.hid (fun W (h : Below w2.heap.size w2 W) => (bx.below h hzq).cells)
  have SL := Lib.hid (fun W (h : Below w2.heap.size w2 W) => ho.sl.below (hq.trans (h.mono hq.size)))
  have HB := Lib.hid (hb.trans (hq.mono hb.size))
  have hk : Below w2.heap.size w2 w2 := Below.refl _ _
  have hd2 : d.length ≤ 2000000 := by omega
  have WQ := Lib.hid hw2
  clear hb ho hw2 bx
  obtain ⟨x0, x1, x2, x3, x4, x5⟩ := CC.out w2 hk
  obtain ⟨r, hr⟩ : ∃ r, okPk ⟨k, fa, fp, ta, tp, d⟩ = r := ⟨_, rfl⟩
  have RO := Lib.hid hr
  clear hr
  cases r
  · go_wp2_with fail
    rw [← WQ.out]
    refine (impl_ReversePacket_bad _ _ _ _ _ _ _ _ _ _ rfl hd2 (SL.out _ hk) RO.out).mono ?_
    rintro e w3 ⟨rfl, hb3⟩
    have hk3 := hb3
    have hl3 : w1.heap.size < w3.heap.size := Nat.lt_of_lt_of_le hzq hb3.size
    have hk4 : Below w2.heap.size w2 (w3.alloc (.cells #[.int .i64 0, .int .i64 0, .int .i64 0, .int .i64 0, .int .i64 0, .slice none 0 0] 27)) := hk3.alloc hk3.size _
    have hj4 : Below w3.heap.size w3 (w3.alloc (.cells #[.int .i64 0, .int .i64 0, .int .i64 0, .int .i64 0, .int .i64 0, .slice none 0 0] 27)) := (Below.refl _ _).alloc (Nat.le_refl _) _
    clear x0 x1 x2 x3 x4 x5
    obtain ⟨x0, x1, x2, x3, x4, x5⟩ := CC.out w3 hk3
    go_wp2_with fail
    refine (spec_ReversePacket_bad _ _ _ _ _ _ _ _ _ _ rfl hd2 (SL.out _ hk4) RO.out).mono ?_
    rintro e w5 ⟨rfl, hb5⟩
    have hk5 := bstep hk4 hb5 hk4.size
    have hj5 := bstep hj4 hb5 hj4.size
    have bq5 : PkAt w5 w3.heap.size 0 0 0 0 0 (.slice none 0 0) := (PkAt.new w3 27 _ _ _ _ _ _).below_ hb5
    have hl5 := bq5.lt
    have hk5a : Below w2.heap.size w2 (w5.alloc (.cells #[.int .i64 0, .int .i64 0, .int .i64 0, .int .i64 0, .int .i64 0, .slice none 0 0] 27)) := hk5.alloc hk5.size _
    have hj5a : Below w3.heap.size w3 (w5.alloc (.cells #[.int .i64 0, .int .i64 0, .int .i64 0, .int .i64 0, .int .i64 0, .slice none 0 0] 27)) := hj5.alloc hj5.size _
    have hi5a : Below w5.heap.size w5 (w5.alloc (.cells #[.int .i64 0, .int .i64 0, .int .i64 0, .int .i64 0, .int .i64 0, .slice none 0 0] 27)) := (Below.refl _ _).alloc (Nat.le_refl _) _
    clear x0 x1 x2 x3 x4 x5
    obtain ⟨y0, y1, y2, y3, y4, y5⟩ := bq5.cells
    go_wp2_with fail
    refine (same_packets (d := []) rfl rfl (by simp) Sl.nil Sl.nil).mono ?_
    rintro e w6 ⟨rfl, hb6⟩
    have hk6 := bstep hk5a hb6 hk5a.size
    have hj6 := bstep hj5a hb6 hj5a.size
    have hi6 := bstep hi5a hb6 hi5a.size
    have bq6 := bq5.below hi6 hl5
    have bw6 : PkAt w6 w5.heap.size 0 0 0 0 0 (.slice none 0 0) := (PkAt.new w5 27 _ _ _ _ _ _).below_ hb6
    clear y0 y1 y2 y3 y4 y5
    obtain ⟨y0, y1, y2, y3, y4, y5⟩ := bq6.cells
    obtain ⟨z0, z1, z2, z3, z4, z5⟩ := bw6.cells
    go_wp2_with fail
    refine (same_packets (d := []) rfl rfl (by simp) Sl.nil Sl.nil).mono ?_
    rintro e w7 ⟨rfl, hb7⟩
    have hk7 := bstep hk6 hb7 hk6.size
    go_wp2
    go_ret
    exact ⟨by simp, HB.out.trans (hk7.mono HB.out.size)⟩
  go_wp2_with fail
  rw [← WQ.out]
  refine (impl_ReversePacket_ok _ _ _ _ _ _ _ _ _ _ rfl hd2 (SL.out _ hk) RO.out).mono ?_
  rintro e w3 ⟨A3, rfl, ho3, hb3⟩
  have hk3 := hb3
  have O3 := Lib.hid (fun W (h : Below w3.heap.size w3 W) => ho3.below h)
  clear ho3
  have hl3 : w1.heap.size < w3.heap.size := Nat.lt_of_lt_of_le hzq hb3.size
  have hk4 : Below w2.heap.size w2 (w3.alloc (.cells #[.int .i64 k, .int .i64 ta, .int .i64 tp, .int .i64 fa, .int .i64 fp, .slice A3 d.length d.length] 27)) := hk3.alloc hk3.size _
  have hj4 : Below w3.heap.size w3 (w3.alloc (.cells #[.int .i64 k, .int .i64 ta, .int .i64 tp, .int .i64 fa, .int .i64 fp, .slice A3 d.length d.length] 27)) := (Below.refl _ _).alloc (Nat.le_refl _) _
  clear x0 x1 x2 x3 x4 x5
  obtain ⟨x0, x1, x2, x3, x4, x5⟩ := CC.out w3 hk3
  go_wp2_with fail
  refine (spec_ReversePacket_ok _ _ _ _ _ _ _ _ _ _ rfl hd2 (SL.out _ hk4) RO.out).mono ?_
  rintro e w5 ⟨A5, c5, rfl, ho5, hb5⟩
  have hk5 := bstep hk4 hb5 hk4.size
  have hj5 := bstep hj4 hb5 hj4.size
  have O5 := Lib.hid (fun W (h : Below w5.heap.size w5 W) => ho5.below h)
  clear ho5
  have bq5 : PkAt w5 w3.heap.size k ta tp fa fp (.slice A3 d.length d.length) := (PkAt.new w3 27 _ _ _ _ _ _).below_ hb5
  have hl5 := bq5.lt
  have hk5a : Below w2.heap.size w2 (w5.alloc (.cells #[.int .i64 k, .int .i64 ta, .int .i64 tp, .int .i64 fa, .int .i64 fp, .slice A5 d.length c5] 27)) := hk5.alloc hk5.size _
  have hj5a : Below w3.heap.size w3 (w5.alloc (.cells #[.int .i64 k, .int .i64 ta, .int .i64 tp, .int .i64 fa, .int .i64 fp, .slice A5 d.length c5] 27)) := hj5.alloc hj5.size _
  have hi5a : Below w5.heap.size w5 (w5.alloc (.cells #[.int .i64 k, .int .i64 ta, .int .i64 tp, .int .i64 fa, .int .i64 fp, .slice A5 d.length c5] 27)) := (Below.refl _ _).alloc (Nat.le_refl _) _
  clear x0 x1 x2 x3 x4 x5
  obtain ⟨y0, y1, y2, y3, y4, y5⟩ := bq5.cells
  go_wp2_with fail
  refine (same_packets (d := d) rfl rfl hd2 (O3.out _ hj5a).1 (O5.out _ hi5a).sl).mono ?_
  rintro e w6 ⟨rfl, hb6⟩
  have hk6 := bstep hk5a hb6 hk5a.size
  have hj6 := bstep hj5a hb6 hj5a.size
  have hi6 := bstep hi5a hb6 hi5a.size
  have bq6 := bq5.below hi6 hl5
  have bw6 : PkAt w6 w5.heap.size k ta tp fa fp (.slice A5 d.length c5) := (PkAt.new w5 27 _ _ _ _ _ _).below_ hb6
  clear y0 y1 y2 y3 y4 y5
  have ok2 : okPk ⟨k, fa, fp, fa, fp, d⟩ = true := by
    have h := okPk_iff.1 RO.out
    exact okPk_iff.2 ⟨h.1, h.2.1, h.2.1, h.2.2.2⟩
  have RO2 := Lib.hid ok2
  have hl6 : w1.heap.size < w6.heap.size := Nat.lt_of_lt_of_le hzq hk6.size
  have hk7 : Below w2.heap.size w2 (w6.alloc (.cells #[.int .i64 k, .int .i64 fa, .int .i64 fp, .int .i64 fa, .int .i64 fp, .slice A1 d.length c1] 27)) := hk6.alloc hk6.size _
  clear bq6 bw6 ok2
  obtain ⟨x0, x1, x2, x3, x4, x5⟩ := CC.out w6 hk6
  go_wp2_with fail
  refine (impl_ReversePacket_ok k fa fp fa fp d _ _ _ _ rfl hd2 (SL.out _ hk7) RO2.out).mono ?_
  rintro e w8 ⟨A8, rfl, ho8, hb8⟩
  have hk8 := bstep hk7 hb8 hk7.size
  have bs8 : PkAt w8 w6.heap.size k fa fp fa fp (.slice A1 d.length c1) := (PkAt.new w6 27 _ _ _ _ _ _).below_ hb8
  have hl8 := bs8.lt
  have hk9 : Below w2.heap.size w2 (w8.alloc (.cells #[.int .i64 k, .int .i64 fa, .int .i64 fp, .int .i64 fa, .int .i64 fp, .slice A8 d.length d.length] 27)) := hk8.alloc hk8.size _
  have O9 := Lib.hid (ho8.below (w' := w8.alloc (.cells #[.int .i64 k, .int .i64 fa, .int .i64 fp, .int .i64 fa, .int .i64 fp, .slice A8 d.length d.length] 27)) ((Below.refl _ _).alloc (Nat.le_refl _) _))
  clear x0 x1 x2 x3 x4 x5 ho8
  obtain ⟨x0, x1, x2, x3, x4, x5⟩ := bs8.cells
  go_wp2_with fail
  refine (same_packets (d := d) rfl rfl hd2 O9.out.1 (SL.out _ hk9)).mono ?_
  rintro e w10 ⟨rfl, hb10⟩
  have hk10 := bstep hk9 hb10 hk9.size
  go_wp2
  go_ret
  exact ⟨by simp, HB.out.trans (hk10.mono HB.out.size)⟩
end Go.Proofs.Ytnkdhpbbiilekaa
