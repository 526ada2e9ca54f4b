/- The walk of FnMapEnd. -/
import Derived.Test.YtpfmlenodgjebaaMs
namespace Go.Proofs.Ytpfmlenodgjebaa
open Go.RowKit
set_option maxHeartbeats 4000000 in
theorem FnMapEnd_walk (A : Option Addr) (c : Nat) (l : List Int) (w : World) (hi : CodeIn w A c l) :
    Calls Try.prog 4 #[.slice A l.length c] w (Ret w (.bool true)) := by
  have hc := hi.1
  have hlc := hi.2.1.1
  unfold maxLen at hc
  have HI := Lib.hid hi
  clear hi
  by_cases hbig : 1048576 < l.length
  · go_enter Try.func4, Try.ntmps4
    go_wp2
    go_ret
    exact ⟨rfl, Below.refl _ _⟩
  go_enter Try.func4, Try.ntmps4
  go_wp2_with fail
  refine (DrawMapEnd_ _ _ _ _ HI.out).mono ?_
  rintro e w1 ⟨A1, c1, l1, a, q, n, rfl, hl1, ho, hb⟩
  obtain ⟨w2, hw2⟩ : ∃ x, x = w1.alloc (.cells #[.int .i64 a, .int .i64 q] 28) := ⟨_, rfl⟩
  have hq : Below w1.heap.size w1 w2 := by subst hw2; exact (Below.refl _ _).alloc (Nat.le_refl _) _
  have SL := Lib.hid (fun W (h : Below w2.heap.size w2 W) => ho.sl.below (hq.trans (h.mono hq.size)))
  have EC := Lib.hid (fun W (h : Below w2.heap.size w2 W) => end_cells w1 a q (W := W) (by subst hw2; exact h))
  have HB := Lib.hid (hb.trans (hq.mono hb.size))
  have hk : Below w2.heap.size w2 w2 := Below.refl _ _
  have hl2 : l1.length ≤ 2000000 := by omega
  have WQ := Lib.hid hw2
  clear hb ho hw2
  obtain ⟨x0, x1, xz⟩ := EC.out w2 hk
  obtain ⟨L, v, r, hR⟩ : ∃ L v r, mapV l1 a q n = (L, v, r) := ⟨_, _, _, rfl⟩
  have hLL : L.length ≤ 2000000 := by have := map_fit hR hl1; omega
  have R := Lib.hid hR
  clear hR
  go_wp2_with fail
  rw [← WQ.out]
  refine (impl_ME R.out rfl rfl hl2 (SL.out _ hk)).mono ?_
  rintro e w3 ⟨A3, rfl, ho3, hb3⟩
  have O3 := Lib.hid (fun W (h : Below w3.heap.size w3 W) => ho3.below h)
  have hk3 := hb3
  clear x0 x1 xz ho3 hb3
  obtain ⟨x0, x1, xz⟩ := EC.out w3 hk3
  go_wp2_with fail
  refine (spec_ME R.out rfl rfl hl2 (SL.out _ hk3)).mono ?_
  rintro e w4 ⟨A4, c4, rfl, ho4, hb4⟩
  have O4 := Lib.hid (fun W (h : Below w4.heap.size w4 W) => ho4.below h)
  have hk4 := bstep hk3 hb4 hk3.size
  have hj4 := hb4
  clear x0 x1 xz ho4
  obtain ⟨x0, x1, xz⟩ := EC.out w4 hk4
  have hi4 : Below w4.heap.size w4 w4 := Below.refl _ _
  go_wp2_with fail
  refine (eqTbs (l := L) (l' := L) (decide_eq_true rfl) rfl rfl hLL hLL (O3.out w4 hj4).1 (O4.out w4 hi4).sl).mono ?_
  rintro e w5 ⟨rfl, hb5⟩
  have hk5 := bstep hk4 hb5 hk4.size
  have hj5 := bstep hj4 hb5 hj4.size
  have hi5 := bstep hi4 hb5 hi4.size
  clear x0 x1 xz
  obtain ⟨x0, x1, xz⟩ := EC.out w5 hk5
  cases r
  · go_wp2_with fail
    refine (eqTbs (l := L) (l' := L) (decide_eq_true rfl) rfl rfl hLL hLL (O3.out w5 hj5).1 (O4.out w5 hi5).sl).mono ?_
    rintro e w6 ⟨rfl, hb6⟩
    have hk6 := bstep hk5 hb6 hk5.size
    go_wp2
    go_ret
    exact ⟨by simp, HB.out.trans (hk6.mono HB.out.size)⟩
  have hr : (mapV l1 a q n).2.2 = true := by rw [R.out]
  have hlen : l1.length ≤ L.length ∧ L.length ≤ l1.length + 1 := by have := map_len hr; rwa [R.out] at this
  obtain ⟨hlen1, hlen2⟩ := hlen
  have KP := Lib.hid (fun i y (hy : l1[i]? = some y) => (show ∃ z, L[i]? = some z ∧ z.p = y.p ∧ z.a = y.a ∧ z.q = y.q ∧ (sameE a q y = false → z = y) by have := map_keep hr hy; rwa [R.out] at this))
  have HVL := Lib.hid (show vM L = true by have := map_vM hr; rwa [R.out] at this)
  have HOP := Lib.hid (show outP L a q = v by have := map_out hr; rwa [R.out] at this)
  clear hr x0 x1 xz
  go_wp2
  go_loopw [12] (fun i wr => ∃ k : Nat, k ≤ l1.length ∧ i = .int .i64 k ∧ Below w5.heap.size w5 wr) (fun i _ => l1.length - (intOf i).toNat)
  case atStart => exact ⟨0, Nat.zero_le _, rfl, Below.refl _ _⟩
  case round =>
    obtain ⟨k, hk, rfl, hbr⟩ := hrel
    have hkr := bstep hk5 hbr hk5.size
    have hjr := bstep hj5 hbr hj5.size
    obtain ⟨x0, x1, xz⟩ := EC.out wr hkr
    by_cases hlt : k < l1.length
    · obtain ⟨b, o, hA1, hbs, hc⟩ := (SL.out wr hkr).base hlt
      subst hA1
      obtain ⟨b', o', hA3, hbs', hc'⟩ := (O3.out wr hjr).1.base (i := k) (by omega)
      subst hA3
      obtain ⟨a1, q1, p1, t1, hy⟩ := mt_at hlt
      obtain ⟨⟨a2, q2, p2, t2⟩, hz, hp2, ha2, hq2, hsm⟩ := KP.out k _ hy
      simp only at hp2 ha2 hq2
      subst hp2
      subst ha2
      subst hq2
      have d0 : ∀ y : BW wr.heap.size wr, y.w.cell? ⟨b, o + k * 4, none⟩ = some (.int .i64 a2) := bwCell hbs (hc.mt (Below.refl _ _) hbs hy).1
      have d1 : ∀ y : BW wr.heap.size wr, y.w.cell? ⟨b, o + k * 4 + 1, none⟩ = some (.int .i64 q2) := bwCell hbs (hc.mt (Below.refl _ _) hbs hy).2.1
      have d2 : ∀ y : BW wr.heap.size wr, y.w.cell? ⟨b, o + k * 4 + 2, none⟩ = some (.int .i64 p2) := bwCell hbs (hc.mt (Below.refl _ _) hbs hy).2.2.1
      have d3 : ∀ y : BW wr.heap.size wr, y.w.cell? ⟨b, o + k * 4 + 3, none⟩ = some (.int .i64 t1) := bwCell hbs (hc.mt (Below.refl _ _) hbs hy).2.2.2
      have e0 : ∀ y : BW wr.heap.size wr, y.w.cell? ⟨b', o' + k * 4, none⟩ = some (.int .i64 a2) := bwCell hbs' (hc'.mt (Below.refl _ _) hbs' hz).1
      have e1 : ∀ y : BW wr.heap.size wr, y.w.cell? ⟨b', o' + k * 4 + 1, none⟩ = some (.int .i64 q2) := bwCell hbs' (hc'.mt (Below.refl _ _) hbs' hz).2.1
      have e2 : ∀ y : BW wr.heap.size wr, y.w.cell? ⟨b', o' + k * 4 + 2, none⟩ = some (.int .i64 p2) := bwCell hbs' (hc'.mt (Below.refl _ _) hbs' hz).2.2.1
      have e3 : ∀ y : BW wr.heap.size wr, y.w.cell? ⟨b', o' + k * 4 + 3, none⟩ = some (.int .i64 t2) := bwCell hbs' (hc'.mt (Below.refl _ _) hbs' hz).2.2.2
      have f0 : ∀ y : BW wr.heap.size wr, y.w.cell? ⟨w1.heap.size, 0, none⟩ = some (.int .i64 a) := bwCell (by simpa using xz) x0
      have f1 : ∀ y : BW wr.heap.size wr, y.w.cell? ⟨w1.heap.size, 1, none⟩ = some (.int .i64 q) := bwCell (by simpa using xz) x1
      have hkL : k < L.length := by omega
      have hg1 : decide ((L.length : Int) ≤ (k : Int)) = false := decide_eq_false (by omega)
      have hg2 : decide (L.length ≤ k) = false := decide_eq_false (by omega)
      clear hc hc' hy hz x0 x1
      cases he : ((a2 == a) && (q2 == q))
      · have e5 := hsm he
        injection e5 with _ _ _ e5
        subst e5
        have E1 := neqEnB _ _ _ _ he
        have E2 := neqMp a2 q2 p2 t2 a2 q2 p2 t2 (decide_eq_true rfl)
        clear he hsm
        go_wp2
        refine wp_region_bw wr.heap.size wr (Below.refl _ _) (by kernel_rfl) (by kernel_rfl) ?_
        repeat (go_big_quiet_step (fail))
        refine wpQuiet_nil ?_
        rintro _ ⟨⟨w9, h9⟩, rfl⟩
        go_wp2
        go_roundw
        case rel => exact ⟨k + 1, by omega, by go_num, bstep hbr h9 hbr.size⟩
        case measure => simp [intOf]; omega
      · have E1 := neqEnB _ _ _ _ he
        clear he hsm
        go_wp2
        refine wp_region_bw wr.heap.size wr (Below.refl _ _) (by kernel_rfl) (by kernel_rfl) ?_
        repeat (go_big_quiet_step (fail))
        refine wpQuiet_nil ?_
        rintro _ ⟨⟨w9, h9⟩, rfl⟩
        go_wp2
        go_roundw
        case rel => exact ⟨k + 1, by omega, by go_num, bstep hbr h9 hbr.size⟩
        case measure => simp [intOf]; omega
    · go_wp2_with fail
      refine (impl_OP HOP.out rfl hLL (O3.out wr hjr).1).mono ?_
      rintro e w6 ⟨rfl, hb6⟩
      have hk6 := bstep hkr hb6 hkr.size
      have hj6 := bstep hjr hb6 hjr.size
      go_wp2_with fail
      refine (impl_VT HVL.out rfl hLL (O3.out w6 hj6).1).mono ?_
      rintro e w7 ⟨rfl, hb7⟩
      have hk7 := bstep hk6 hb7 hk6.size
      go_wp2
      go_ret
      exact ⟨by first | (simp; done) | (simp; omega), HB.out.trans (hk7.mono HB.out.size)⟩
end Go.Proofs.Ytpfmlenodgjebaa
