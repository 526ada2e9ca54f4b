/- The walk of FnExpireTableTwice. -/
import Derived.Test.YtpfmlenodgjebaaTc
namespace Go.Proofs.Ytpfmlenodgjebaa
open Go.RowKit
set_option maxHeartbeats 4000000 in
theorem FnExpireTableTwice_walk (A : Option Addr) (c : Nat) (l : List Int) (w : World) (hi : CodeIn w A c l) :
    Calls Try.prog 20 #[.slice A l.length c] w (Ret w (.bool true)) := by
  have hc := hi.1
  have hlc := hi.2.1.1
  unfold maxLen at hc
  have HI := Lib.hid hi
  clear hi
  by_cases hbig : 1048576 < l.length
  · go_enter Try.func20, Try.ntmps20
    go_wp2
    go_ret
    exact ⟨rfl, Below.refl _ _⟩
  go_enter Try.func20, Try.ntmps20
  go_wp2_with fail
  refine (DrawExpireTable_ _ _ _ _ HI.out).mono ?_
  rintro e w1 ⟨A1, c1, l1, n, h, rfl, hl1, ⟨hn0, hn1⟩, ⟨hh0, hh1⟩, ho, hb⟩
  have SL := Lib.hid (fun W (g : Below w1.heap.size w1 W) => ho.sl.below g)
  have HB := Lib.hid hb
  have hk : Below w1.heap.size w1 w1 := Below.refl _ _
  have hl2 : l1.length ≤ 2000000 := by omega
  clear hb ho
  obtain ⟨L, hL⟩ : ∃ L, expV l1 n h = L := ⟨_, rfl⟩
  have hLl : L.length ≤ l1.length := by have := exp_len l1 n h; rwa [hL] at this
  have hLL : L.length ≤ 2000000 := by omega
  have R := Lib.hid hL
  clear hL
  go_wp2_with fail
  refine (impl_ET R.out rfl rfl hl2 (SL.out _ hk)).mono ?_
  rintro e w2 ⟨A2, rfl, ho2, hb2⟩
  have O2 := Lib.hid (fun W (g : Below w2.heap.size w2 W) => ho2.below g)
  have hk2 := hb2
  clear ho2 hb2
  go_wp2_with fail
  refine (spec_ET R.out rfl rfl hl2 (SL.out _ hk2)).mono ?_
  rintro e w3 ⟨A3, c3, rfl, ho3, hb3⟩
  have O3 := Lib.hid (fun W (g : Below w3.heap.size w3 W) => ho3.below g)
  have hk3 := bstep hk2 hb3 hk2.size
  have hj3 := hb3
  clear ho3 hb3
  go_wp2_with fail
  refine (eqTbs (l := L) (l' := L) (decide_eq_true rfl) rfl rfl hLL hLL (O2.out w3 hj3).1 (O3.out w3 (Below.refl _ _)).sl).mono ?_
  rintro e w4 ⟨rfl, hb4⟩
  have hk4 := bstep hk3 hb4 hk3.size
  have hj4 := bstep hj3 hb4 hj3.size
  clear hb4
  by_cases h0 : L.length = 0
  · have hz : ((L.length : Int) == 0) = true := by rw [h0]; rfl
    clear h0
    go_wp2_with fail
    refine (spec_ET R.out rfl rfl hl2 (SL.out _ hk4)).mono ?_
    rintro e wa ⟨Aa, ca, rfl, hoa, hba⟩
    have hka := bstep hk4 hba hk4.size
    have hja := bstep hj4 hba hj4.size
    have OA := Lib.hid hoa
    clear hoa
    go_wp2_with fail
    refine (eqTbs (l := L) (l' := L) (decide_eq_true rfl) rfl rfl hLL hLL (O2.out wa hja).1 OA.out.sl).mono ?_
    rintro e wb ⟨rfl, hbb⟩
    have hkb := bstep hka hbb hka.size
    go_wp2
    go_ret
    exact ⟨by simp, HB.out.trans (hkb.mono HB.out.size)⟩
  have hz : ((L.length : Int) == 0) = false := by rw [beq_eq_false_iff_ne]; omega
  have hLne : expV l1 n h ≠ [] := by rw [R.out]; intro e; rw [e] at h0; exact h0 rfl
  have LNE := Lib.hid hLne
  clear h0 hLne
  by_cases h5 : h = 500
  · subst h5
    go_wp2_with fail
    refine (spec_ET R.out rfl rfl hl2 (SL.out _ hk4)).mono ?_
    rintro e wa ⟨Aa, ca, rfl, hoa, hba⟩
    have hka := bstep hk4 hba hk4.size
    have hja := bstep hj4 hba hj4.size
    have OA := Lib.hid hoa
    clear hoa
    go_wp2_with fail
    refine (eqTbs (l := L) (l' := L) (decide_eq_true rfl) rfl rfl hLL hLL (O2.out wa hja).1 OA.out.sl).mono ?_
    rintro e wb ⟨rfl, hbb⟩
    have hkb := bstep hka hbb hka.size
    go_wp2
    go_ret
    exact ⟨by simp, HB.out.trans (hkb.mono HB.out.size)⟩
  have T1 := Lib.hid (show expV L n h = L by have := exp_twice LNE.out; rwa [R.out] at this)
  obtain ⟨L2, hL2⟩ : ∃ L2, expV l1 n (h + 1) = L2 := ⟨_, rfl⟩
  have hle : L.length ≤ L2.length := by have := exp_longer LNE.out h5; rwa [R.out, hL2] at this
  have T2 := Lib.hid hL2
  clear hL2
  have h5b : (h == 500) = false := by rw [beq_eq_false_iff_ne]; exact h5
  clear h5
  go_wp2_with fail
  refine (impl_ET T1.out rfl rfl hLL (O2.out w4 hj4).1).mono ?_
  rintro e w5 ⟨A5, rfl, ho5, hb5⟩
  have O5 := Lib.hid ho5
  have hk5 := bstep hk4 hb5 hk4.size
  have hj5 := bstep hj4 hb5 hj4.size
  clear ho5 hb5
  go_wp2_with fail
  refine (eqTbs (l := L) (l' := L) (decide_eq_true rfl) rfl rfl hLL hLL O5.out.1 (O2.out w5 hj5).1).mono ?_
  rintro e w6 ⟨rfl, hb6⟩
  have hk6 := bstep hk5 hb6 hk5.size
  clear hb6
  go_wp2_with fail
  refine (impl_ET T2.out rfl rfl hl2 (SL.out _ hk6)).mono ?_
  rintro e w7 ⟨A7, rfl, ho7, hb7⟩
  have hk7 := bstep hk6 hb7 hk6.size
  clear ho7 hb7
  go_wp2
  go_ret
  exact ⟨by first | (simp; done) | (simp; omega), HB.out.trans (hk7.mono HB.out.size)⟩
end Go.Proofs.Ytpfmlenodgjebaa
