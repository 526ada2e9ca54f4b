/- The walk of FnUnpackPacket. -/
import Derived.Test.YtnkdhpbbiilekaaKw
namespace Go.Proofs.Ytnkdhpbbiilekaa
open Go.RowKit
set_option maxHeartbeats 4000000 in
theorem FnUnpackPacket_walk (A : Option Addr) (c : Nat) (l : List Int) (w : World) (hi : CodeIn w A c l) :
    Calls Try.prog 12 #[.slice A l.length c] w (Ret w (.bool true)) := by
  have hc := hi.1
  have hlc := hi.2.1.1
  unfold maxLen at hc
  have HI := Lib.hid hi
  clear hi
  by_cases hbig : 1048576 < l.length
  · go_enter Try.func12, Try.ntmps12
    go_wp2
    go_ret
    exact ⟨rfl, Below.refl _ _⟩
  go_enter Try.func12, Try.ntmps12
  go_wp2_with fail
  refine (DrawUnpackPacket_ _ _ _ _ HI.out).mono ?_
  rintro e w2 ⟨A1, c1, n1, l1, rfl, hn1, hl1, ho, hb⟩
  have SL := Lib.hid (fun W (h : Below w2.heap.size w2 W) => ho.sl.below h)
  have HB := Lib.hid hb
  have hcm8 : c1 ≤ 9223372036854775807 := by have := ho.capm; unfold maxLen at this; omega
  have hk : Below w2.heap.size w2 w2 := Below.refl _ _
  have HN1 := Lib.hid hn1
  have hn19 : n1 ≤ 19 := by omega
  clear hb ho hn1
  cases hu : unpackO l1
  · have HO := Lib.hid hu
    clear hu
    go_wp2_with fail
    refine (impl_UP0 HO.out HN1.out (by omega) hcm8 (SL.out _ hk)).mono ?_
    rintro e w3 ⟨rfl, hb3⟩
    have hk3 := hb3
    have hk4 : Below w2.heap.size w2 (w3.alloc (.cells #[.int .i64 0, .int .i64 0, .int .i64 0, .int .i64 0, .int .i64 0, .slice none 0 0] 27)) := hk3.alloc hk3.size _
    have hj4 : Below w3.heap.size w3 (w3.alloc (.cells #[.int .i64 0, .int .i64 0, .int .i64 0, .int .i64 0, .int .i64 0, .slice none 0 0] 27)) := (Below.refl _ _).alloc (Nat.le_refl _) _
    go_wp2_with fail
    refine (spec_UP0 HO.out HN1.out (by omega) hcm8 (SL.out _ hk4)).mono ?_
    rintro e w5 ⟨rfl, hb5⟩
    have hk5 := bstep hk4 hb5 hk4.size
    have hj5 := bstep hj4 hb5 hj4.size
    have bq5 : PkAt w5 w3.heap.size 0 0 0 0 0 (.slice none 0 0) := (PkAt.new w3 27 _ _ _ _ _ _).below_ hb5
    have hl5 := bq5.lt
    have hk5a : Below w2.heap.size w2 (w5.alloc (.cells #[.int .i64 0, .int .i64 0, .int .i64 0, .int .i64 0, .int .i64 0, .slice none 0 0] 27)) := hk5.alloc hk5.size _
    have hj5a : Below w3.heap.size w3 (w5.alloc (.cells #[.int .i64 0, .int .i64 0, .int .i64 0, .int .i64 0, .int .i64 0, .slice none 0 0] 27)) := hj5.alloc hj5.size _
    have hi5a : Below w5.heap.size w5 (w5.alloc (.cells #[.int .i64 0, .int .i64 0, .int .i64 0, .int .i64 0, .int .i64 0, .slice none 0 0] 27)) := (Below.refl _ _).alloc (Nat.le_refl _) _
    obtain ⟨y0, y1, y2, y3, y4, y5⟩ := bq5.cells
    go_wp2_with fail
    refine (same_packets (d := []) rfl rfl (by simp) Sl.nil Sl.nil).mono ?_
    rintro e w6 ⟨rfl, hb6⟩
    have hk6 := bstep hk5a hb6 hk5a.size
    go_wp2
    go_ret
    exact ⟨by simp, HB.out.trans (hk6.mono HB.out.size)⟩
  have hs := unpack_some hu
  obtain ⟨x, hx⟩ : ∃ x, unpackP l1 = x := ⟨_, rfl⟩
  rw [hx] at hs
  obtain ⟨k, fa, fp, ta, tp, d⟩ := x
  have hd12 : d.length ≤ 12 := (okPk_iff.1 hs.1).2.2.2.1
  have hd2 : d.length ≤ 2000000 := by omega
  have HO := Lib.hid hu
  have HX := Lib.hid hx
  have HOK := Lib.hid hs.1
  have HPK := Lib.hid hs.2
  clear hu hx hs
  go_wp2_with fail
  refine (impl_UP1 HO.out HX.out rfl HN1.out (by omega) hcm8 (SL.out _ hk)).mono ?_
  rintro e w3 ⟨A3, c3, rfl, ho3, hb3⟩
  have hk3 := hb3
  have O3 := Lib.hid (fun W (h : Below w3.heap.size w3 W) => ho3.below h)
  clear ho3
  have hk4 : Below w2.heap.size w2 (w3.alloc (.cells #[.int .i64 k, .int .i64 fa, .int .i64 fp, .int .i64 ta, .int .i64 tp, .slice A3 d.length c3] 27)) := hk3.alloc hk3.size _
  have hj4 : Below w3.heap.size w3 (w3.alloc (.cells #[.int .i64 k, .int .i64 fa, .int .i64 fp, .int .i64 ta, .int .i64 tp, .slice A3 d.length c3] 27)) := (Below.refl _ _).alloc (Nat.le_refl _) _
  go_wp2_with fail
  refine (spec_UP1 HO.out HX.out rfl HN1.out (by omega) hcm8 (SL.out _ hk4)).mono ?_
  rintro e w5 ⟨A5, c5, rfl, ho5, hb5⟩
  have hk5 := bstep hk4 hb5 hk4.size
  have hj5 := bstep hj4 hb5 hj4.size
  have O5 := Lib.hid (fun W (h : Below w5.heap.size w5 W) => ho5.below h)
  clear ho5
  have bq5 : PkAt w5 w3.heap.size k fa fp ta tp (.slice A3 d.length c3) := (PkAt.new w3 27 _ _ _ _ _ _).below_ hb5
  have hl5 := bq5.lt
  have hk5a : Below w2.heap.size w2 (w5.alloc (.cells #[.int .i64 k, .int .i64 fa, .int .i64 fp, .int .i64 ta, .int .i64 tp, .slice A5 d.length c5] 27)) := hk5.alloc hk5.size _
  have hj5a : Below w3.heap.size w3 (w5.alloc (.cells #[.int .i64 k, .int .i64 fa, .int .i64 fp, .int .i64 ta, .int .i64 tp, .slice A5 d.length c5] 27)) := hj5.alloc hj5.size _
  have hi5a : Below w5.heap.size w5 (w5.alloc (.cells #[.int .i64 k, .int .i64 fa, .int .i64 fp, .int .i64 ta, .int .i64 tp, .slice A5 d.length c5] 27)) := (Below.refl _ _).alloc (Nat.le_refl _) _
  obtain ⟨y0, y1, y2, y3, y4, y5⟩ := bq5.cells
  go_wp2_with fail
  refine (same_packets (d := d) rfl rfl hd2 (O3.out _ hj5a).1 (O5.out _ hi5a).1).mono ?_
  rintro e w6 ⟨rfl, hb6⟩
  have hk6 := bstep hk5a hb6 hk5a.size
  have hj6 := bstep hj5a hb6 hj5a.size
  have bq6 := bq5.below (bstep hi5a hb6 hi5a.size) hl5
  clear y0 y1 y2 y3 y4 y5
  obtain ⟨y0, y1, y2, y3, y4, y5⟩ := bq6.cells
  go_wp2_with fail
  refine (impl_PackPacket _ _ _ _ _ _ _ _ _ _ rfl hd2 (O3.out _ hj6).1 l1 n1 true HOK.out HPK.out HN1.out.symm).mono ?_
  rintro e w7 ⟨A7, rfl, _, ho7, hb7⟩
  have hk7 := bstep hk6 hb7 hk6.size
  have hj7 := bstep hj6 hb7 hj6.size
  have bq7 := bq6.below_ hb7
  have O7 := Lib.hid ho7
  clear y0 y1 y2 y3 y4 y5 ho7
  go_wp2_with fail
  refine (eqIn (l := l1) (l' := l1) (decide_eq_true rfl) HN1.out HN1.out (by omega) (by omega) O7.out.1 (SL.out _ hk7)).mono ?_
  rintro e w8 ⟨rfl, hb8⟩
  have hk8 := bstep hk7 hb8 hk7.size
  have hj8 := bstep hj7 hb8 hj7.size
  have bq8 := bq7.below_ hb8
  obtain ⟨y0, y1, y2, y3, y4, y5⟩ := bq8.cells
  go_wp2_with fail
  refine (impl_ValidPacket _ _ _ _ _ _ _ _ _ _ rfl hd2 (O3.out _ hj8).1).mono ?_
  rintro e w9 ⟨rfl, hb9⟩
  rw [HOK.out]
  have hk9 := bstep hk8 hb9 hk8.size
  go_wp2
  go_ret
  exact ⟨by simp, HB.out.trans (hk9.mono HB.out.size)⟩
end Go.Proofs.Ytnkdhpbbiilekaa
