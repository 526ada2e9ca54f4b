/- The walk of FnMapEndNew. -/
import Derived.Test.YtpfmlenodgjebaaMs
namespace Go.Proofs.Ytpfmlenodgjebaa
open Go.RowKit
set_option maxRecDepth 10000 in
set_option maxHeartbeats 4000000 in
theorem FnMapEndNew_walk (A : Option Addr) (c : Nat) (l : List Int) (w : World) (hi : CodeIn w A c l) :
    Calls Try.prog 7 #[.slice A l.length c] w (Ret w (.bool true)) := by
  have hc := hi.1
  have hlc := hi.2.1.1
  unfold maxLen at hc
  have HI := Lib.hid hi
  clear hi
  by_cases hbig : 1048576 < l.length
  · go_enter Try.func7, Try.ntmps7
    go_wp2
    go_ret
    exact ⟨rfl, Below.refl _ _⟩
  go_enter Try.func7, Try.ntmps7
  go_wp2_with fail
  refine (DrawMapEnd_ _ _ _ _ HI.out).mono ?_
  rintro e w1 ⟨A1, c1, l1, a, q, n, rfl, hl1, ho, hb⟩
  obtain ⟨w2, hw2⟩ : ∃ x, x = w1.alloc (.cells #[.int .i64 a, .int .i64 q] 28) := ⟨_, rfl⟩
  have hq : Below w1.heap.size w1 w2 := by subst hw2; exact (Below.refl _ _).alloc (Nat.le_refl _) _
  have SL := Lib.hid (fun W (h : Below w2.heap.size w2 W) => ho.sl.below (hq.trans (h.mono hq.size)))
  have EC := Lib.hid (fun W (h : Below w2.heap.size w2 W) => end_cells w1 a q (W := W) (by subst hw2; exact h))
  have HB := Lib.hid (hb.trans (hq.mono hb.size))
  have hk : Below w2.heap.size w2 w2 := Below.refl _ _
  have hl2 : l1.length ≤ 2000000 := by omega
  have WQ := Lib.hid hw2
  clear hb ho hw2
  obtain ⟨x0, x1, xz⟩ := EC.out w2 hk
  obtain ⟨L, v, r, hR⟩ : ∃ L v r, mapV l1 a q n = (L, v, r) := ⟨_, _, _, rfl⟩
  have hLL : L.length ≤ 2000000 := by have := map_fit hR hl1; omega
  have R := Lib.hid hR
  clear hR
  go_wp2_with fail
  rw [← WQ.out]
  refine (impl_ME R.out rfl rfl hl2 (SL.out _ hk)).mono ?_
  rintro e w3 ⟨A3, rfl, ho3, hb3⟩
  have O3 := Lib.hid (fun W (h : Below w3.heap.size w3 W) => ho3.below h)
  have hk3 := hb3
  clear x0 x1 xz ho3 hb3
  obtain ⟨x0, x1, xz⟩ := EC.out w3 hk3
  go_wp2_with fail
  refine (spec_ME R.out rfl rfl hl2 (SL.out _ hk3)).mono ?_
  rintro e w4 ⟨A4, c4, rfl, ho4, hb4⟩
  have O4 := Lib.hid (fun W (h : Below w4.heap.size w4 W) => ho4.below h)
  have hk4 := bstep hk3 hb4 hk3.size
  have hj4 := hb4
  clear x0 x1 xz ho4
  obtain ⟨x0, x1, xz⟩ := EC.out w4 hk4
  have hi4 : Below w4.heap.size w4 w4 := Below.refl _ _
  go_wp2_with fail
  refine (eqTbs (l := L) (l' := L) (decide_eq_true rfl) rfl rfl hLL hLL (O3.out w4 hj4).1 (O4.out w4 hi4).sl).mono ?_
  rintro e w5 ⟨rfl, hb5⟩
  have hk5 := bstep hk4 hb5 hk4.size
  have hj5 := bstep hj4 hb5 hj4.size
  have hi5 := bstep hi4 hb5 hi4.size
  clear x0 x1 xz
  obtain ⟨x0, x1, xz⟩ := EC.out w5 hk5
  cases r
  · go_wp2_with fail
    refine (eqTbs (l := L) (l' := L) (decide_eq_true rfl) rfl rfl hLL hLL (O3.out w5 hj5).1 (O4.out w5 hi5).sl).mono ?_
    rintro e w6 ⟨rfl, hb6⟩
    have hk6 := bstep hk5 hb6 hk5.size
    go_wp2
    go_ret
    exact ⟨by simp, HB.out.trans (hk6.mono HB.out.size)⟩
  obtain ⟨o, hov⟩ : ∃ o, outP l1 a q = o := ⟨_, rfl⟩
  have HOV := Lib.hid hov
  by_cases ho0 : 0 ≤ o
  · clear hov
    go_wp2_with fail
    refine (impl_OP HOV.out rfl hl2 (SL.out _ hk5)).mono ?_
    rintro e w6 ⟨rfl, hb6⟩
    have hk6 := bstep hk5 hb6 hk5.size
    have hj6 := bstep hj5 hb6 hj5.size
    have hi6 := bstep hi5 hb6 hi5.size
    go_wp2_with fail
    refine (eqTbs (l := L) (l' := L) (decide_eq_true rfl) rfl rfl hLL hLL (O3.out w6 hj6).1 (O4.out w6 hi6).sl).mono ?_
    rintro e w7 ⟨rfl, hb7⟩
    have hk7 := bstep hk6 hb7 hk6.size
    go_wp2
    go_ret
    exact ⟨by simp, HB.out.trans (hk7.mono HB.out.size)⟩
  have hm := map_add (l := l1) (a := a) (q := q) (now := n) (by rw [R.out]) (by rw [hov]; omega)
  obtain ⟨f, hf⟩ : ∃ f, freeV l1 q = f := ⟨_, rfl⟩
  have HF := Lib.hid hf
  rw [R.out, hf] at hm
  obtain ⟨hm, _⟩ := hm
  injection hm with hL _
  have hx : L[l1.length]? = some ⟨a, q, f, n⟩ := by rw [hL, List.getElem?_append_right (Nat.le_refl _), Nat.sub_self]; rfl
  obtain ⟨m, hm⟩ : ∃ m, L.length = m := ⟨_, rfl⟩
  obtain ⟨m1, hm1⟩ : ∃ m1, l1.length = m1 := ⟨_, rfl⟩
  have hlen : m = m1 + 1 := by rw [← hm, ← hm1, hL]; simp
  have htk : L.take l1.length = l1 := by rw [hL]; simp
  have HLEN := Lib.hid hlen
  have hmm : m ≤ 20 := by omega
  clear hlen
  have TK := Lib.hid htk
  go_wp2_with fail
  refine (impl_OP HOV.out hm1.symm hl2 (SL.out _ hk5)).mono ?_
  rintro e w6 ⟨rfl, hb6⟩
  have hk6 := bstep hk5 hb6 hk5.size
  have hj6 := bstep hj5 hb6 hj5.size
  clear x0 x1 xz
  obtain ⟨b, o, hA3, hbs, hc⟩ := (O3.out w6 hj6).1.base (i := l1.length) (by have := HLEN.out; omega)
  subst hA3
  have c0 : ∀ W, Below w6.heap.size w6 W → W.cell? ⟨b, o + m1 * 4, none⟩ = some (.int .i64 a) := fun W h => hm1 ▸ (hc.mt h hbs hx).1
  have c1 : ∀ W, Below w6.heap.size w6 W → W.cell? ⟨b, o + m1 * 4 + 1, none⟩ = some (.int .i64 q) := fun W h => hm1 ▸ (hc.mt h hbs hx).2.1
  have c2 : ∀ W, Below w6.heap.size w6 W → W.cell? ⟨b, o + m1 * 4 + 2, none⟩ = some (.int .i64 f) := fun W h => hm1 ▸ (hc.mt h hbs hx).2.2.1
  have c3 : ∀ W, Below w6.heap.size w6 W → W.cell? ⟨b, o + m1 * 4 + 3, none⟩ = some (.int .i64 n) := fun W h => hm1 ▸ (hc.mt h hbs hx).2.2.2
  have x0 : ∀ W, Below w6.heap.size w6 W → W.cell? ⟨w1.heap.size, 0, none⟩ = some (.int .i64 a) := fun W h => (EC.out W (bstep hk6 h hk6.size)).1
  have x1 : ∀ W, Below w6.heap.size w6 W → W.cell? ⟨w1.heap.size, 1, none⟩ = some (.int .i64 q) := fun W h => (EC.out W (bstep hk6 h hk6.size)).2.1
  have E2 := eqMp a q f n a q f n (decide_eq_true rfl)
  have SL6 := Lib.hid (fun W (h : Below w6.heap.size w6 W) => SL.out W (bstep hk6 h hk6.size))
  have TS6 := Lib.hid (fun W (h : Below w6.heap.size w6 W) => (show Sl encM 4 W (some ⟨b, o, none⟩) m l1 by have := (O3.out W (bstep hj6 h hj6.size)).1.take l1.length; rwa [TK.out, hm] at this))
  obtain rfl := HLEN.out
  have hwr : IntKind.i64.wrap ((m1 : Int) + 1) = (m1 : Int) + 1 := by simp [IntKind.wrap, IntKind.bits, IntKind.signed]; omega
  have hix1 : m1 < m1 + 1 := by omega
  have hix2 : (m1 : Int) < (m1 : Int) + 1 := by omega
  have hix3 : m1 ≤ m1 + 1 := by omega
  have hix4 : (m1 : Int) ≤ (m1 : Int) + 1 := by omega
  have hix5 : (0 : Int) ≤ (m1 : Int) := by omega
  have HM1 := Lib.hid hm1.symm
  clear hL hx htk hf hc hov
  go_wp2
  go_region_held3 (fun W => Below w6.heap.size w6 W) (first | exact (Below.refl _ _).drew | assumption | (refine Below.alloc (by assumption) ?_ _; exact Below.size (by assumption))) (first | (go_at_call 24; refine (impl_FP HF.out HM1.out hl2 (SL6.out _ (by assumption))).mono ?_; rintro e w7 ⟨rfl, hb7⟩; have hk7 := bstep (B := w6.heap.size) (a := w6) (by assumption) hb7 (Below.size (by assumption))) | (go_at_call 30; refine (eqTbs (l := l1) (l' := l1) (decide_eq_true rfl) HM1.out HM1.out hl2 hl2 (TS6.out _ (by assumption)) (SL6.out _ (by assumption))).mono ?_; rintro e w8 ⟨rfl, hb8⟩; have hk8 := bstep (B := w6.heap.size) (a := w6) (by assumption) hb8 (Below.size (by assumption))))
  all_goals
    go_wp2
    go_ret
    exact ⟨by simp, HB.out.trans ((bstep hk6 hk8 hk6.size).mono HB.out.size)⟩
end Go.Proofs.Ytpfmlenodgjebaa
