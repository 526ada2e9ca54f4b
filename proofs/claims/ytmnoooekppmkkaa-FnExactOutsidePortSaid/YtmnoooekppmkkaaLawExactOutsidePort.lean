/- The walk of FnExactOutsidePort. -/
import Derived.Test.YtmnoooekppmkkaaMk
namespace Go.Proofs.Ytmnoooekppmkkaa
open Go.RowKit
set_option maxHeartbeats 8000000 in
theorem FnExactOutsidePort_walk (A : Option Addr) (c : Nat) (l : List Mp) (a q : Int) (w : World) (hc : c ≤ maxLen) (hs : Sl encM 4 w A c l) :
    Calls Try.prog 4 #[.slice A l.length c, .agg #[.int .i64 a, .int .i64 q]] w (Ret w (.bool true)) := by
  have hlc := hs.1
  unfold maxLen at hc
  obtain ⟨wq, hwq⟩ : ∃ x, x = w.alloc (.cells #[.int .i64 a, .int .i64 q] 33) := ⟨_, rfl⟩
  have hq : Below w.heap.size w wq := by subst hwq; exact (Below.refl _ _).alloc (Nat.le_refl _) _
  have SL := Lib.hid (fun W (h : Below wq.heap.size wq W) => hs.below (hq.trans (h.mono hq.size)))
  have EC := Lib.hid (fun W (h : Below wq.heap.size wq W) => lend_cells w a q (W := W) (by subst hwq; exact h))
  have WQ := Lib.hid hwq
  clear hs hwq
  by_cases hbig : (1048576 : Int) - (l.length : Int) < 0
  · go_enter Try.func4, Try.ntmps4
    go_wp2_with (first | (go_at_call 15; rw [← WQ.out]; refine (laws_szMappingS _ _ _ _ _ (by omega) (by omega) (by omega)).mono ?_; rintro e w' ⟨rfl, rfl⟩; rw [if_pos hbig]))
    go_ret
    exact ⟨rfl, hq⟩
  have hl2 : l.length ≤ 2000000 := by omega
  have HNB := Lib.hid hbig
  have hpos : (0 : Int) ≤ 1048576 - (l.length : Int) := by omega
  have hk0 : Below wq.heap.size wq wq := Below.refl _ _
  obtain ⟨v, hv⟩ : ∃ v, outP l a q = v := ⟨_, rfl⟩
  have HV := Lib.hid hv
  have e0 : ∀ W, Below wq.heap.size wq W → W.cell? ⟨w.heap.size, 0, none⟩ = some (.int .i64 a) := fun W h => (EC.out W h).1
  have e1 : ∀ W, Below wq.heap.size wq W → W.cell? ⟨w.heap.size, 1, none⟩ = some (.int .i64 q) := fun W h => (EC.out W h).2.1
  clear hv
  clear hbig
  go_enter Try.func4, Try.ntmps4
  go_wp2_with (first | (go_at_call 15; rw [← WQ.out]; refine (laws_szMappingS _ _ _ _ _ (by omega) (by omega) (by omega)).mono ?_; rintro e w' ⟨rfl, rfl⟩; rw [if_neg HNB.out]))
  go_region_held3 (fun W => Below wq.heap.size wq W) (first | exact hk0.drew | assumption) (first | (go_at_call 17; refine (toMts rfl hl2 (SL.out _ (by assumption))).mono ?_; rintro e w1 ⟨A1, c1, rfl, h1, hb1⟩; have hk1 := bstep (B := wq.heap.size) (a := wq) (by assumption) hb1 (Below.size (by assumption))) | (go_at_call 22; refine (laws_toEnd _ _ _).mono ?_; rintro e w1b ⟨rfl, hb1b⟩; have h1b := h1.below hb1b; have hk1b := bstep hk1 hb1b hk1.size) | (go_at_call 21; refine (spec_OP HV.out rfl hl2 h1b.sl).mono ?_; rintro e w2 ⟨rfl, hb2⟩; have hk2 := bstep hk1b hb2 hk1b.size))
  clear h1 h1b hb1 hb1b hb2 e0 e1
  go_wp2_with fail
  refine (toMts rfl hl2 (SL.out _ hk2)).mono ?_
  rintro e w3 ⟨A3, c3, rfl, h3, hb3⟩
  have hk3 := bstep hk2 hb3 hk2.size
  have X3 := Lib.hid h3
  obtain ⟨y0, y1, yz⟩ := EC.out _ hk3
  clear h3 hb3
  go_wp2_with fail
  refine (laws_toEnd _ _ _).mono ?_
  rintro e w3b ⟨rfl, hb3⟩
  have hk3b := bstep hk3 hb3 hk3.size
  have X3b := Lib.hid (X3.out.below hb3)
  clear hb3 y0 y1 yz
  go_wp2_with fail
  refine (impl_OP HV.out rfl hl2 X3b.out.sl).mono ?_
  rintro e w4 ⟨rfl, hb4⟩
  have hk4 := bstep hk3b hb4 hk3b.size
  have X4 := Lib.hid (X3b.out.below hb4)
  clear hb4
  go_wp2_with fail
  refine (toMts rfl hl2 (SL.out _ hk4)).mono ?_
  rintro e w6 ⟨A6, c6, rfl, h6, hb6⟩
  have hk6 := bstep hk4 hb6 hk4.size
  have X6 := Lib.hid (X4.out.below hb6)
  have Y6 := Lib.hid h6
  clear hb6 h6
  go_wp2_with fail
  refine (eqMts (l := l) (l' := l) (r := true) (decide_eq_true rfl) rfl rfl hl2 hl2 X6.out.sl Y6.out.sl).mono ?_
  rintro e w7 ⟨rfl, hb7⟩
  have hk7 := bstep hk6 hb7 hk6.size
  go_wp2
  go_ret
  exact ⟨rfl, hq.trans (hk7.mono hq.size)⟩
end Go.Proofs.Ytmnoooekppmkkaa
