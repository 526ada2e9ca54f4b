/- The walk of FnExactMapEnd. -/
import Derived.Test.YtpfmlenodgjebaaMs
namespace Go.Proofs.Ytpfmlenodgjebaa
open Go.RowKit
set_option maxHeartbeats 8000000 in
theorem FnExactMapEnd_walk (A : Option Addr) (c : Nat) (l : List Mp) (a q now : Int) (w : World) (hc : c ≤ maxLen) (hs : Sl encM 4 w A c l) :
    Calls Try.prog 8 #[.slice A l.length c, .agg #[.int .i64 a, .int .i64 q], .int .i64 now] w (Ret w (.bool true)) := by
  have hlc := hs.1
  unfold maxLen at hc
  obtain ⟨wq, hwq⟩ : ∃ x, x = w.alloc (.cells #[.int .i64 a, .int .i64 q] 42) := ⟨_, rfl⟩
  have hq : Below w.heap.size w wq := by subst hwq; exact (Below.refl _ _).alloc (Nat.le_refl _) _
  have SL := Lib.hid (fun W (h : Below wq.heap.size wq W) => hs.below (hq.trans (h.mono hq.size)))
  have EC := Lib.hid (fun W (h : Below wq.heap.size wq W) => lend_cells w a q (W := W) (by subst hwq; exact h))
  have WQ := Lib.hid hwq
  clear hs hwq
  by_cases hbig : (1048576 : Int) - (l.length : Int) < 0
  · go_enter Try.func8, Try.ntmps8
    go_wp2_with (first | (go_at_call 33; rw [← WQ.out]; refine (laws_szMappingS _ _ _ _ _ (by omega) (by omega) (by omega)).mono ?_; rintro e w' ⟨rfl, rfl⟩; rw [if_pos hbig]))
    go_ret
    exact ⟨rfl, hq⟩
  have hl2 : l.length ≤ 2000000 := by omega
  have HNB := Lib.hid hbig
  have hpos : (0 : Int) ≤ 1048576 - (l.length : Int) := by omega
  obtain ⟨D, v, r, hR⟩ : ∃ D v r, mapV l a q now = (D, v, r) := ⟨_, _, _, rfl⟩
  obtain ⟨n, hn⟩ : ∃ n, D.length = n := ⟨_, rfl⟩
  have hle : n ≤ 10 := by
    have h9 := mapV_len l a q now
    rw [hR] at h9
    simp only at h9
    omega
  have R := Lib.hid hR
  have HN := Lib.hid hn
  have hD2 : D.length ≤ 2000000 := by omega
  have hk0 : Below wq.heap.size wq wq := Below.refl _ _
  have e0 : ∀ W, Below wq.heap.size wq W → W.cell? ⟨w.heap.size, 0, none⟩ = some (.int .i64 a) := fun W h => (EC.out W h).1
  have e1 : ∀ W, Below wq.heap.size wq W → W.cell? ⟨w.heap.size, 1, none⟩ = some (.int .i64 q) := fun W h => (EC.out W h).2.1
  have E0 := Lib.hid e0
  have E1 := Lib.hid e1
  clear hn hbig hR
  go_enter Try.func8, Try.ntmps8
  go_wp2_with (first | (go_at_call 33; rw [← WQ.out]; refine (laws_szMappingS _ _ _ _ _ (by omega) (by omega) (by omega)).mono ?_; rintro e w' ⟨rfl, rfl⟩; rw [if_neg HNB.out]))
  go_region_held3 (fun W => Below wq.heap.size wq W) (first | exact hk0.drew | assumption) (first | (go_at_call 34; refine (toMts rfl hl2 (SL.out _ (by assumption))).mono ?_; rintro e w1 ⟨A1, c1, rfl, h1, hb1⟩; have hk1 := bstep (B := wq.heap.size) (a := wq) (by assumption) hb1 (Below.size (by assumption))) | (go_at_call 35; refine (laws_toEnd _ _ _).mono ?_; rintro e w1b ⟨rfl, hb1b⟩; have h1b := h1.below hb1b; have hk1b := bstep hk1 hb1b hk1.size) | (go_at_call 29; refine (spec_ME R.out HN.out rfl hl2 h1b.sl).mono ?_; rintro e w2 ⟨A2, c2, rfl, h2, hb2⟩; have hk2 := bstep hk1b hb2 hk1b.size))
  have W2 := Lib.hid h2
  have M2 := Lib.hid (fun g hg => (h2.blk g hg).2)
  clear h1 h1b h2 hb1 hb1b hb2 e0 e1
  cases r
  all_goals
    go_wp2_with fail
    refine (toMts rfl hl2 (SL.out _ hk2)).mono ?_
    rintro e w3 ⟨A3, c3, rfl, h3, hb3⟩
    have hk3 := bstep hk2 hb3 hk2.size
    have W3 := Lib.hid (W2.out.below hb3)
    have X3 := Lib.hid h3
    have hz3 := hb3.size
    obtain ⟨y0, y1, yz⟩ := EC.out _ hk3
    clear h3 hb3
    go_wp2_with fail
    refine (laws_toEnd _ _ _).mono ?_
    rintro e w3b ⟨rfl, hb3⟩
    have hk3b := bstep hk3 hb3 hk3.size
    have W3b := Lib.hid (W3.out.below hb3)
    have X3b := Lib.hid (X3.out.below hb3)
    have hz3b := hb3.size
    clear hb3 y0 y1 yz
    go_wp2_with fail
    refine (impl_ME R.out HN.out rfl hl2 X3b.out.sl).mono ?_
    rintro e w4 ⟨A4, rfl, h4, hb4⟩
    have hk4 := bstep hk3b hb4 hk3b.size
    have W4 := Lib.hid (W3b.out.below hb4)
    have X4 := Lib.hid (X3b.out.below hb4)
    have G4 := Lib.hid h4
    have hz4 := hb4.size
    clear h4 hb4
    go_wp2_with fail
    refine (eqMts (l := D) (l' := D) (r := true) (decide_eq_true rfl) HN.out.symm HN.out.symm hD2 hD2 G4.out.1 W4.out.sl).mono ?_
    rintro e w5 ⟨rfl, hb5⟩
    have hk5 := bstep hk4 hb5 hk4.size
    have W5 := Lib.hid (W4.out.below hb5)
    have X5 := Lib.hid (X4.out.below hb5)
    have G5 := Lib.hid (G4.out.below hb5)
    clear hb5
    go_wp2_with fail
    refine (toMts rfl hl2 (SL.out _ hk5)).mono ?_
    rintro e w6 ⟨A6, c6, rfl, h6, hb6⟩
    have hk6 := bstep hk5 hb6 hk5.size
    have W6 := Lib.hid (W5.out.below hb6)
    have X6 := Lib.hid (X5.out.below hb6)
    have G6 := Lib.hid (G5.out.below hb6)
    have Y6 := Lib.hid h6
    clear hb6 h6
    go_wp2_with fail
    refine (eqMts (l := l) (l' := l) (r := true) (decide_eq_true rfl) rfl rfl hl2 hl2 X6.out.sl Y6.out.sl).mono ?_
    rintro e w7 ⟨rfl, hb7⟩
    have hk7 := bstep hk6 hb7 hk6.size
    have W7 := Lib.hid (W6.out.below hb7)
    have X7 := Lib.hid (X6.out.below hb7)
    have G7 := Lib.hid (G6.out.below hb7)
    clear hb7
    go_wp2_with fail
    refine (markMt rfl (by omega) (by omega) (by omega) X7.out.sl X7.out.fr).mono ?_
    rintro e w8 ⟨rfl, _, row, hg8, hrow⟩
    have hk8 : Below wq.heap.size wq w8 := below_app hk7 hg8 hk7.size (fun g hg => Nat.le_trans hk2.size (hrow g hg).1)
    have W8 := Lib.hid (W7.out.grown_lt hg8 M2.out (fun g hg => (hrow g hg).1))
    have G8 := Lib.hid (G7.out.grown hg8 (fun g hg => Nat.lt_of_lt_of_le (X3.out.blk g (hrow g hg).2).2 hz3b))
    clear hg8 hrow
    have hnn : ¬ (1 + 4 * (l.length : Int) < 0) := by omega
    go_wp2_with fail
    refine (eqMts (l := D) (l' := D) (r := true) (decide_eq_true rfl) HN.out.symm HN.out.symm hD2 hD2 G8.out.1 W8.out.sl).mono ?_
    rintro e w9 ⟨rfl, hb9⟩
    have hk9 := bstep hk8 hb9 hk8.size
    have W9 := Lib.hid (W8.out.below hb9)
    have G9 := Lib.hid (G8.out.below hb9)
    clear hb9
    go_wp2_with fail
    refine (markMt HN.out.symm (by omega) (by omega) (by omega) G9.out.1 G9.out.2).mono ?_
    rintro e wa ⟨rfl, ha, row, hga, hrow⟩
    have hka : Below wq.heap.size wq wa := below_app hk9 hga hk9.size (fun g hg => Nat.le_trans hk3b.size (hrow g hg).1)
    have Wa := Lib.hid (W9.out.grown_lt hga (fun g hg => Nat.lt_of_lt_of_le (M2.out g hg) (Nat.le_trans hz3 hz3b)) (fun g hg => (hrow g hg).1))
    have Ga := Lib.hid ha
    clear hga hrow ha
    have hnm : ¬ (1 + 4 * (n : Int) < 0) := by omega
    go_wp2_with fail
    refine (laws_heldMappingS _ _ n 1 _ (by omega) (by omega) (by omega) Ga.out).mono ?_
    rintro e wb ⟨rfl, rfl⟩
    have e0 : ∀ W, Below wa.heap.size wa W → W.cell? ⟨w.heap.size, 0, none⟩ = some (.int .i64 a) := fun W h => E0.out W (hka.trans (h.mono hka.size))
    have e1 : ∀ W, Below wa.heap.size wa W → W.cell? ⟨w.heap.size, 1, none⟩ = some (.int .i64 q) := fun W h => E1.out W (hka.trans (h.mono hka.size))
    have SLa := Lib.hid (fun W (h : Below wa.heap.size wa W) => SL.out W (hka.trans (h.mono hka.size)))
    have hr0 : Below wa.heap.size wa wa := Below.refl _ _
    go_wp2_with fail
    go_region_held3 (fun W => Below wa.heap.size wa W) (first | exact hr0.drew | assumption) (first | (go_at_call 34; refine (toMts rfl hl2 (SLa.out _ (by assumption))).mono ?_; rintro e wb ⟨A7, c7, rfl, h7, hbb⟩; have hkb := bstep (B := wa.heap.size) (a := wa) (by assumption) hbb (Below.size (by assumption))) | (go_at_call 35; refine (laws_toEnd _ _ _).mono ?_; rintro e wbb ⟨rfl, hbbb⟩; have h7b := h7.below hbbb; have hkbb := bstep hkb hbbb hkb.size) | (go_at_call 27; refine (impl_ME R.out HN.out rfl hl2 h7b.sl).mono ?_; rintro e wc ⟨A8, rfl, h8, hbc⟩; have hkc := bstep hkbb hbc hkbb.size))
    have Wc := Lib.hid (Wa.out.below hkc)
    have Gc := Lib.hid (Ga.out.below hkc)
    have Hc := Lib.hid h8
    clear h7 h7b h8 hbb hbbb hbc e0 e1
    go_wp2_with fail
    refine (eqMts (l := D) (l' := D) (r := true) (decide_eq_true rfl) HN.out.symm HN.out.symm hD2 hD2 Hc.out.1 Wc.out.sl).mono ?_
    rintro e wd ⟨rfl, hbd⟩
    have hkd := bstep hkc hbd hkc.size
    have Gd := Lib.hid (Gc.out.below hbd)
    clear hbd
    go_wp2_with fail
    refine (laws_heldMappingS _ _ n 1 _ (by omega) (by omega) (by omega) Gd.out).mono ?_
    rintro e we ⟨rfl, rfl⟩
    go_wp2
    go_ret
    exact ⟨rfl, hq.trans ((hka.trans (hkd.mono hka.size)).mono hq.size)⟩
end Go.Proofs.Ytpfmlenodgjebaa
