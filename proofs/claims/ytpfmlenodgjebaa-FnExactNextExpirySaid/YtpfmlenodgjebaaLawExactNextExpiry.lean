/- The walk of FnExactNextExpiry. -/
import Derived.Test.YtpfmlenodgjebaaTc
namespace Go.Proofs.Ytpfmlenodgjebaa
open Go.RowKit
set_option maxHeartbeats 8000000 in
theorem FnExactNextExpiry_walk (A : Option Addr) (c : Nat) (l : List Mp) (p : Int) (w : World) (hc : c ≤ maxLen) (hs : Sl encM 4 w A c l) :
    Calls Try.prog 9 #[.slice A l.length c, .int .i64 p] w (Ret w (.bool true)) := by
  have hlc := hs.1
  unfold maxLen at hc
  have SL := Lib.hid (fun W (h : Below w.heap.size w W) => hs.below h)
  clear hs
  by_cases hbig : (1048576 : Int) - (l.length : Int) < 0
  · go_enter Try.func9, Try.ntmps9
    go_wp2_with (first | (go_at_call 33; refine (laws_szMappingS _ _ _ _ _ (by omega) (by omega) (by omega)).mono ?_; rintro e w' ⟨rfl, rfl⟩; rw [if_pos hbig]))
    go_ret
    exact ⟨rfl, Below.refl _ _⟩
  have hl2 : l.length ≤ 2000000 := by omega
  have HNB := Lib.hid hbig
  have hpos : (0 : Int) ≤ 1048576 - (l.length : Int) := by omega
  have hk0 : Below w.heap.size w w := Below.refl _ _
  obtain ⟨v, hv⟩ : ∃ v, nextV l p = v := ⟨_, rfl⟩
  have HV := Lib.hid hv
  clear hv
  clear hbig
  go_enter Try.func9, Try.ntmps9
  go_wp2_with (first | (go_at_call 33; refine (laws_szMappingS _ _ _ _ _ (by omega) (by omega) (by omega)).mono ?_; rintro e w' ⟨rfl, rfl⟩; rw [if_neg HNB.out]))
  refine (toMts rfl hl2 (SL.out _ hk0)).mono ?_
  rintro e w1 ⟨A1, c1, rfl, h1, hb1⟩
  have hk1 := bstep hk0 hb1 hk0.size
  go_wp2_with fail
  refine (spec_NE HV.out rfl hl2 h1.sl).mono ?_
  rintro e w2 ⟨rfl, hb2⟩
  have hk2 := bstep hk1 hb2 hk1.size
  clear h1 hb1 hb2
  go_wp2_with fail
  refine (toMts rfl hl2 (SL.out _ hk2)).mono ?_
  rintro e w3 ⟨A3, c3, rfl, h3, hb3⟩
  have hk3 := bstep hk2 hb3 hk2.size
  have X3 := Lib.hid h3
  clear h3 hb3
  go_wp2_with fail
  refine (impl_NE HV.out rfl hl2 X3.out.sl).mono ?_
  rintro e w4 ⟨rfl, hb4⟩
  have hk4 := bstep hk3 hb4 hk3.size
  have X4 := Lib.hid (X3.out.below hb4)
  clear hb4
  go_wp2_with fail
  refine (toMts rfl hl2 (SL.out _ hk4)).mono ?_
  rintro e w6 ⟨A6, c6, rfl, h6, hb6⟩
  have hk6 := bstep hk4 hb6 hk4.size
  have X6 := Lib.hid (X4.out.below hb6)
  have Y6 := Lib.hid h6
  clear hb6 h6
  go_wp2_with fail
  refine (eqMts (l := l) (l' := l) (r := true) (decide_eq_true rfl) rfl rfl hl2 hl2 X6.out.sl Y6.out.sl).mono ?_
  rintro e w7 ⟨rfl, hb7⟩
  have hk7 := bstep hk6 hb7 hk6.size
  go_wp2
  go_ret
  exact ⟨rfl, hk7⟩
end Go.Proofs.Ytpfmlenodgjebaa
