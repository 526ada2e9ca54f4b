/- The walk of FnMapEndTwice. -/
import Derived.Test.YtpfmlenodgjebaaMs
namespace Go.Proofs.Ytpfmlenodgjebaa
open Go.RowKit
set_option maxHeartbeats 4000000 in
theorem FnMapEndTwice_walk (A : Option Addr) (c : Nat) (l : List Int) (w : World) (hi : CodeIn w A c l) :
    Calls Try.prog 5 #[.slice A l.length c] w (Ret w (.bool true)) := by
  have hc := hi.1
  have hlc := hi.2.1.1
  unfold maxLen at hc
  have HI := Lib.hid hi
  clear hi
  by_cases hbig : 1048576 < l.length
  · go_enter Try.func5, Try.ntmps5
    go_wp2
    go_ret
    exact ⟨rfl, Below.refl _ _⟩
  go_enter Try.func5, Try.ntmps5
  go_wp2_with fail
  refine (DrawMapEnd_ _ _ _ _ HI.out).mono ?_
  rintro e w1 ⟨A1, c1, l1, a, q, n, rfl, hl1, ho, hb⟩
  obtain ⟨w2, hw2⟩ : ∃ x, x = w1.alloc (.cells #[.int .i64 a, .int .i64 q] 28) := ⟨_, rfl⟩
  have hq : Below w1.heap.size w1 w2 := by subst hw2; exact (Below.refl _ _).alloc (Nat.le_refl _) _
  have SL := Lib.hid (fun W (h : Below w2.heap.size w2 W) => ho.sl.below (hq.trans (h.mono hq.size)))
  have EC := Lib.hid (fun W (h : Below w2.heap.size w2 W) => end_cells w1 a q (W := W) (by subst hw2; exact h))
  have HB := Lib.hid (hb.trans (hq.mono hb.size))
  have hk : Below w2.heap.size w2 w2 := Below.refl _ _
  have hl2 : l1.length ≤ 2000000 := by omega
  have WQ := Lib.hid hw2
  clear hb ho hw2
  obtain ⟨x0, x1, xz⟩ := EC.out w2 hk
  obtain ⟨L, v, r, hR⟩ : ∃ L v r, mapV l1 a q n = (L, v, r) := ⟨_, _, _, rfl⟩
  have hLL : L.length ≤ 2000000 := by have := map_fit hR hl1; omega
  have R := Lib.hid hR
  clear hR
  go_wp2_with fail
  rw [← WQ.out]
  refine (impl_ME R.out rfl rfl hl2 (SL.out _ hk)).mono ?_
  rintro e w3 ⟨A3, rfl, ho3, hb3⟩
  have O3 := Lib.hid (fun W (h : Below w3.heap.size w3 W) => ho3.below h)
  have hk3 := hb3
  clear x0 x1 xz ho3 hb3
  obtain ⟨x0, x1, xz⟩ := EC.out w3 hk3
  go_wp2_with fail
  refine (spec_ME R.out rfl rfl hl2 (SL.out _ hk3)).mono ?_
  rintro e w4 ⟨A4, c4, rfl, ho4, hb4⟩
  have O4 := Lib.hid (fun W (h : Below w4.heap.size w4 W) => ho4.below h)
  have hk4 := bstep hk3 hb4 hk3.size
  have hj4 := hb4
  clear x0 x1 xz ho4
  obtain ⟨x0, x1, xz⟩ := EC.out w4 hk4
  have hi4 : Below w4.heap.size w4 w4 := Below.refl _ _
  go_wp2_with fail
  refine (eqTbs (l := L) (l' := L) (decide_eq_true rfl) rfl rfl hLL hLL (O3.out w4 hj4).1 (O4.out w4 hi4).sl).mono ?_
  rintro e w5 ⟨rfl, hb5⟩
  have hk5 := bstep hk4 hb5 hk4.size
  have hj5 := bstep hj4 hb5 hj4.size
  have hi5 := bstep hi4 hb5 hi4.size
  clear x0 x1 xz
  obtain ⟨x0, x1, xz⟩ := EC.out w5 hk5
  cases r
  · go_wp2_with fail
    refine (eqTbs (l := L) (l' := L) (decide_eq_true rfl) rfl rfl hLL hLL (O3.out w5 hj5).1 (O4.out w5 hi5).sl).mono ?_
    rintro e w6 ⟨rfl, hb6⟩
    have hk6 := bstep hk5 hb6 hk5.size
    go_wp2
    go_ret
    exact ⟨by simp, HB.out.trans (hk6.mono HB.out.size)⟩
  have hr : (mapV l1 a q n).2.2 = true := by rw [R.out]
  have R2 := Lib.hid (show mapV L a q n = (L, v, true) by have := map_twice hr; rwa [R.out] at this)
  have hold : outP l1 a q = -1 ∨ outP l1 a q = v := by have := map_old hr; rwa [R.out] at this
  have hn1 : v ≠ -1 := by
    intro e; subst e
    have := map_out hr
    have h2 := map_mem hr
    obtain ⟨k, x, hx, _, _, hp, _⟩ := h2
    have h3 := okM_port (map_vM hr) (List.mem_of_getElem? hx)
    rw [R.out] at hp
    simp only at hp
    omega
  clear hr
  go_wp2_with fail
  refine (impl_ME R2.out rfl rfl hLL (O3.out w5 hj5).1).mono ?_
  rintro e w6 ⟨A6, rfl, ho6, hb6⟩
  have O6 := Lib.hid ho6
  have hk6 := bstep hk5 hb6 hk5.size
  have hj6 := bstep hj5 hb6 hj5.size
  clear x0 x1 xz ho6
  obtain ⟨x0, x1, xz⟩ := EC.out w6 hk6
  go_wp2_with fail
  refine (eqTbs (l := L) (l' := L) (decide_eq_true rfl) rfl rfl hLL hLL O6.out.1 (O3.out w6 hj6).1).mono ?_
  rintro e w7 ⟨rfl, hb7⟩
  have hk7 := bstep hk6 hb7 hk6.size
  clear x0 x1 xz
  obtain ⟨x0, x1, xz⟩ := EC.out w7 hk7
  rcases hold with hold | hold
  · have HO1 := Lib.hid hold
    clear hold
    go_wp2_with fail
    refine (impl_OP HO1.out rfl hl2 (SL.out _ hk7)).mono ?_
    rintro e w8 ⟨rfl, hb8⟩
    have hk8 := bstep hk7 hb8 hk7.size
    go_wp2
    go_ret
    exact ⟨by simp, HB.out.trans (hk8.mono HB.out.size)⟩
  · have HO1 := Lib.hid hold
    clear hold
    go_wp2_with fail
    refine (impl_OP HO1.out rfl hl2 (SL.out _ hk7)).mono ?_
    rintro e w8 ⟨rfl, hb8⟩
    have hk8 := bstep hk7 hb8 hk7.size
    clear x0 x1 xz
    obtain ⟨x0, x1, xz⟩ := EC.out w8 hk8
    go_wp2_with fail
    refine (impl_OP HO1.out rfl hl2 (SL.out _ hk8)).mono ?_
    rintro e w9 ⟨rfl, hb9⟩
    have hk9 := bstep hk8 hb9 hk8.size
    go_wp2
    go_ret
    exact ⟨by simp, HB.out.trans (hk9.mono HB.out.size)⟩
end Go.Proofs.Ytpfmlenodgjebaa
