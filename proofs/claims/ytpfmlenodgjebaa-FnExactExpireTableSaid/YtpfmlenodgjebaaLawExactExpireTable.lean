/- The walk of FnExactExpireTable. -/
import Derived.Test.YtpfmlenodgjebaaTc
namespace Go.Proofs.Ytpfmlenodgjebaa
open Go.RowKit
set_option maxHeartbeats 4000000 in
theorem FnExactExpireTable_walk (A : Option Addr) (c : Nat) (l : List Mp) (now hold : Int) (w : World) (hc : c ≤ maxLen) (hs : Sl encM 4 w A c l) :
    Calls Try.prog 15 #[.slice A l.length c, .int .i64 now, .int .i64 hold] w (Ret w (.bool true)) := by
  have hlc := hs.1
  unfold maxLen at hc
  have SL := Lib.hid (fun W (h : Below w.heap.size w W) => hs.below h)
  clear hs
  by_cases hbig : (1048576 : Int) - (l.length : Int) < 0
  · go_enter Try.func15, Try.ntmps15
    go_wp2_with (first | (go_at_call 33; refine (laws_szMappingS _ _ _ _ _ (by omega) (by omega) (by omega)).mono ?_; rintro e w' ⟨rfl, rfl⟩; rw [if_pos hbig]))
    go_ret
    exact ⟨rfl, Below.refl _ _⟩
  have hl2 : l.length ≤ 2000000 := by omega
  have HNB := Lib.hid hbig
  have hpos : (0 : Int) ≤ 1048576 - (l.length : Int) := by omega
  obtain ⟨D, hD⟩ : ∃ D, expV l now hold = D := ⟨_, rfl⟩
  obtain ⟨n, hn⟩ : ∃ n, D.length = n := ⟨_, rfl⟩
  have hle : n ≤ l.length := by
    rw [← hn, ← hD]; exact exp_len l now hold
  have HD := Lib.hid hD
  have HN := Lib.hid hn
  have hD2 : D.length ≤ 2000000 := by omega
  have hk0 : Below w.heap.size w w := Below.refl _ _
  clear hD hn hbig
  go_enter Try.func15, Try.ntmps15
  go_wp2_with (first | (go_at_call 33; refine (laws_szMappingS _ _ _ _ _ (by omega) (by omega) (by omega)).mono ?_; rintro e w' ⟨rfl, rfl⟩; rw [if_neg HNB.out]))
  refine (toMts rfl hl2 (SL.out _ hk0)).mono ?_
  rintro e w1 ⟨A1, c1, rfl, h1, hb1⟩
  have hk1 := bstep hk0 hb1 hk0.size
  go_wp2_with fail
  refine (spec_ET HD.out HN.out rfl hl2 h1.sl).mono ?_
  rintro e w2 ⟨A2, c2, rfl, h2, hb2⟩
  have hk2 := bstep hk1 hb2 hk1.size
  have W2 := Lib.hid h2
  have M2 := Lib.hid (fun g hg => (h2.blk g hg).2)
  clear h1 h2 hb1 hb2
  go_wp2_with fail
  refine (toMts rfl hl2 (SL.out _ hk2)).mono ?_
  rintro e w3 ⟨A3, c3, rfl, h3, hb3⟩
  have hk3 := bstep hk2 hb3 hk2.size
  have W3 := Lib.hid (W2.out.below hb3)
  have X3 := Lib.hid h3
  have hz3 := hb3.size
  clear h3 hb3
  go_wp2_with fail
  refine (impl_ET HD.out HN.out rfl hl2 X3.out.sl).mono ?_
  rintro e w4 ⟨A4, rfl, h4, hb4⟩
  have hk4 := bstep hk3 hb4 hk3.size
  have W4 := Lib.hid (W3.out.below hb4)
  have X4 := Lib.hid (X3.out.below hb4)
  have G4 := Lib.hid h4
  have hz4 := hb4.size
  clear h4 hb4
  go_wp2_with fail
  refine (eqMts (l := D) (l' := D) (r := true) (decide_eq_true rfl) HN.out.symm HN.out.symm hD2 hD2 G4.out.1 W4.out.sl).mono ?_
  rintro e w5 ⟨rfl, hb5⟩
  have hk5 := bstep hk4 hb5 hk4.size
  have W5 := Lib.hid (W4.out.below hb5)
  have X5 := Lib.hid (X4.out.below hb5)
  have G5 := Lib.hid (G4.out.below hb5)
  clear hb5
  go_wp2_with fail
  refine (toMts rfl hl2 (SL.out _ hk5)).mono ?_
  rintro e w6 ⟨A6, c6, rfl, h6, hb6⟩
  have hk6 := bstep hk5 hb6 hk5.size
  have W6 := Lib.hid (W5.out.below hb6)
  have X6 := Lib.hid (X5.out.below hb6)
  have G6 := Lib.hid (G5.out.below hb6)
  have Y6 := Lib.hid h6
  clear hb6 h6
  go_wp2_with fail
  refine (eqMts (l := l) (l' := l) (r := true) (decide_eq_true rfl) rfl rfl hl2 hl2 X6.out.sl Y6.out.sl).mono ?_
  rintro e w7 ⟨rfl, hb7⟩
  have hk7 := bstep hk6 hb7 hk6.size
  have W7 := Lib.hid (W6.out.below hb7)
  have X7 := Lib.hid (X6.out.below hb7)
  have G7 := Lib.hid (G6.out.below hb7)
  clear hb7
  go_wp2_with fail
  refine (markMt rfl (by omega) (by omega) (by omega) X7.out.sl X7.out.fr).mono ?_
  rintro e w8 ⟨rfl, _, row, hg8, hrow⟩
  have hk8 : Below w.heap.size w w8 := below_app hk7 hg8 hk7.size (fun g hg => Nat.le_trans hk2.size (hrow g hg).1)
  have W8 := Lib.hid (W7.out.grown_lt hg8 M2.out (fun g hg => (hrow g hg).1))
  have G8 := Lib.hid (G7.out.grown hg8 (fun g hg => (X3.out.blk g (hrow g hg).2).2))
  clear hg8 hrow
  have hnn : ¬ (1 + 4 * (l.length : Int) < 0) := by omega
  go_wp2_with fail
  refine (eqMts (l := D) (l' := D) (r := true) (decide_eq_true rfl) HN.out.symm HN.out.symm hD2 hD2 G8.out.1 W8.out.sl).mono ?_
  rintro e w9 ⟨rfl, hb9⟩
  have hk9 := bstep hk8 hb9 hk8.size
  have W9 := Lib.hid (W8.out.below hb9)
  have G9 := Lib.hid (G8.out.below hb9)
  clear hb9
  go_wp2_with fail
  refine (markMt HN.out.symm (by omega) (by omega) (by omega) G9.out.1 G9.out.2).mono ?_
  rintro e wa ⟨rfl, ha, row, hga, hrow⟩
  have hka : Below w.heap.size w wa := below_app hk9 hga hk9.size (fun g hg => Nat.le_trans hk3.size (hrow g hg).1)
  have Wa := Lib.hid (W9.out.grown_lt hga (fun g hg => Nat.lt_of_lt_of_le (M2.out g hg) hz3) (fun g hg => (hrow g hg).1))
  have Ga := Lib.hid ha
  clear hga hrow ha
  have hnm : ¬ (1 + 4 * (n : Int) < 0) := by omega
  go_wp2_with fail
  refine (laws_heldMappingS _ _ n 1 _ (by omega) (by omega) (by omega) Ga.out).mono ?_
  rintro e wb ⟨rfl, rfl⟩
  go_wp2_with fail
  refine (toMts rfl hl2 (SL.out _ hka)).mono ?_
  rintro e wb ⟨A7, c7, rfl, h7, hbb⟩
  have hkb := bstep hka hbb hka.size
  have Wb := Lib.hid (Wa.out.below hbb)
  have Gb := Lib.hid (Ga.out.below hbb)
  have Yb := Lib.hid h7
  clear hbb h7
  go_wp2_with fail
  refine (impl_ET HD.out HN.out rfl hl2 Yb.out.sl).mono ?_
  rintro e wc ⟨A8, rfl, h8, hbc⟩
  have hkc := bstep hkb hbc hkb.size
  have Wc := Lib.hid (Wb.out.below hbc)
  have Gc := Lib.hid (Gb.out.below hbc)
  have Hc := Lib.hid h8
  clear hbc h8
  go_wp2_with fail
  refine (eqMts (l := D) (l' := D) (r := true) (decide_eq_true rfl) HN.out.symm HN.out.symm hD2 hD2 Hc.out.1 Wc.out.sl).mono ?_
  rintro e wd ⟨rfl, hbd⟩
  have hkd := bstep hkc hbd hkc.size
  have Gd := Lib.hid (Gc.out.below hbd)
  clear hbd
  go_wp2_with fail
  refine (laws_heldMappingS _ _ n 1 _ (by omega) (by omega) (by omega) Gd.out).mono ?_
  rintro e we ⟨rfl, rfl⟩
  go_wp2
  go_ret
  exact ⟨rfl, hkd⟩
end Go.Proofs.Ytpfmlenodgjebaa
