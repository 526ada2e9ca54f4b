/- The walk of FnNextExpiry. -/
import Derived.Test.YtpfmlenodgjebaaTc
namespace Go.Proofs.Ytpfmlenodgjebaa
open Go.RowKit
set_option maxHeartbeats 4000000 in
theorem FnNextExpiry_walk (A : Option Addr) (c : Nat) (l : List Int) (w : World) (hi : CodeIn w A c l) :
    Calls Try.prog 17 #[.slice A l.length c] w (Ret w (.bool true)) := by
  have hc := hi.1
  have hlc := hi.2.1.1
  unfold maxLen at hc
  have HI := Lib.hid hi
  clear hi
  by_cases hbig : 1048576 < l.length
  · go_enter Try.func17, Try.ntmps17
    go_wp2
    go_ret
    exact ⟨rfl, Below.refl _ _⟩
  go_enter Try.func17, Try.ntmps17
  go_wp2_with fail
  refine (DrawNextExpiry_ _ _ _ _ HI.out).mono ?_
  rintro e w1 ⟨A1, c1, l1, h, rfl, hl1, ⟨hh0, hh1⟩, ho, hb⟩
  have SL := Lib.hid (fun W (g : Below w1.heap.size w1 W) => ho.sl.below g)
  have HB := Lib.hid hb
  have hk : Below w1.heap.size w1 w1 := Below.refl _ _
  have hl2 : l1.length ≤ 2000000 := by omega
  clear hb ho
  obtain ⟨v, hv⟩ : ∃ v, nextV l1 h = v := ⟨_, rfl⟩
  have hvb : -1 ≤ v ∧ v ≤ 10500 := by have := nextV_fit l1 h; rwa [hv] at this
  obtain ⟨hv0, hv1⟩ := hvb
  have R := Lib.hid hv
  clear hv
  go_wp2_with fail
  refine (impl_NE R.out rfl hl2 (SL.out _ hk)).mono ?_
  rintro e w2 ⟨rfl, hb2⟩
  have hk2 := hb2
  clear hb2
  go_wp2_with fail
  refine (spec_NE R.out rfl hl2 (SL.out _ hk2)).mono ?_
  rintro e w3 ⟨rfl, hb3⟩
  have hk3 := bstep hk2 hb3 hk2.size
  clear hb3
  by_cases g1 : v < 1
  · go_wp2_with fail
    refine (spec_NE R.out rfl hl2 (SL.out _ hk3)).mono ?_
    rintro e wa ⟨rfl, hba⟩
    have hka := bstep hk3 hba hk3.size
    go_wp2
    go_ret
    exact ⟨by simp, HB.out.trans (hka.mono HB.out.size)⟩
  by_cases g2 : 10000 < v
  · go_wp2_with fail
    refine (spec_NE R.out rfl hl2 (SL.out _ hk3)).mono ?_
    rintro e wa ⟨rfl, hba⟩
    have hka := bstep hk3 hba hk3.size
    go_wp2
    go_ret
    exact ⟨by simp, HB.out.trans (hka.mono HB.out.size)⟩
  have hat := next_at (l := l1) (hold := h) (by rw [R.out]; omega) (by rw [R.out]; omega)
  rw [R.out] at hat
  obtain ⟨hat1, hat2⟩ := hat
  obtain ⟨L2, hL2⟩ : ∃ L2, expV l1 v h = L2 := ⟨_, rfl⟩
  rw [hL2] at hat2
  have T1 := Lib.hid hat1
  have T2 := Lib.hid hL2
  clear hat1 hL2
  go_wp2_with fail
  refine (impl_ET T1.out rfl rfl hl2 (SL.out _ hk3)).mono ?_
  rintro e w4 ⟨A4, rfl, ho4, hb4⟩
  have hk4 := bstep hk3 hb4 hk3.size
  clear ho4 hb4
  go_wp2_with fail
  refine (impl_ET T2.out rfl rfl hl2 (SL.out _ hk4)).mono ?_
  rintro e w5 ⟨A5, rfl, ho5, hb5⟩
  have hk5 := bstep hk4 hb5 hk4.size
  clear ho5 hb5
  go_wp2
  go_ret
  exact ⟨by first | (simp; done) | (simp; omega), HB.out.trans (hk5.mono HB.out.size)⟩
end Go.Proofs.Ytpfmlenodgjebaa
