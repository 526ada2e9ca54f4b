/- The walk of FnNextExpiryTouch. -/
import Derived.Test.YtpfmlenodgjebaaTc
namespace Go.Proofs.Ytpfmlenodgjebaa
open Go.RowKit
set_option maxHeartbeats 4000000 in
theorem FnNextExpiryTouch_walk (A : Option Addr) (c : Nat) (l : List Int) (w : World) (hi : CodeIn w A c l) :
    Calls Try.prog 16 #[.slice A l.length c] w (Ret w (.bool true)) := by
  have hc := hi.1
  have hlc := hi.2.1.1
  unfold maxLen at hc
  have HI := Lib.hid hi
  clear hi
  by_cases hbig : 1048576 < l.length
  · go_enter Try.func16, Try.ntmps16
    go_wp2
    go_ret
    exact ⟨rfl, Below.refl _ _⟩
  go_enter Try.func16, Try.ntmps16
  go_wp2_with fail
  refine (DrawTouchPort_ _ _ _ _ HI.out).mono ?_
  rintro e w1 ⟨A1, c1, l1, p, n, rfl, hl1, ⟨hn0, hn1⟩, ho, hb⟩
  have SL := Lib.hid (fun W (g : Below w1.heap.size w1 W) => ho.sl.below g)
  have HB := Lib.hid hb
  have hk : Below w1.heap.size w1 w1 := Below.refl _ _
  have hl2 : l1.length ≤ 2000000 := by omega
  clear hb ho
  obtain ⟨L, hL⟩ : ∃ L, touchV l1 p n = L := ⟨_, rfl⟩
  obtain ⟨r, hr⟩ : ∃ r, touchO l1 p n = r := ⟨_, rfl⟩
  have hLl : L.length ≤ l1.length := by have := touchV_len l1 p n; rwa [hL] at this
  have hLL : L.length ≤ 2000000 := by omega
  have R := Lib.hid hL
  have RO := Lib.hid hr
  clear hL hr
  go_wp2_with fail
  refine (impl_TP R.out RO.out rfl rfl hl2 (SL.out _ hk)).mono ?_
  rintro e w2 ⟨A2, rfl, ho2, hb2⟩
  have O2 := Lib.hid (fun W (g : Below w2.heap.size w2 W) => ho2.below g)
  have hk2 := hb2
  clear ho2 hb2
  go_wp2_with fail
  refine (spec_TP R.out RO.out rfl rfl hl2 (SL.out _ hk2)).mono ?_
  rintro e w3 ⟨A3, c3, rfl, ho3, hb3⟩
  have O3 := Lib.hid (fun W (g : Below w3.heap.size w3 W) => ho3.below g)
  have hk3 := bstep hk2 hb3 hk2.size
  have hj3 := hb3
  clear ho3 hb3
  go_wp2_with fail
  refine (eqTbs (l := L) (l' := L) (decide_eq_true rfl) rfl rfl hLL hLL (O2.out w3 hj3).1 (O3.out w3 (Below.refl _ _)).sl).mono ?_
  rintro e w4 ⟨rfl, hb4⟩
  have hk4 := bstep hk3 hb4 hk3.size
  have hj4 := bstep hj3 hb4 hj3.size
  have hi4 := hb4
  clear hb4
  cases r
  · go_wp2_with fail
    refine (eqTbs (l := L) (l' := L) (decide_eq_true rfl) rfl rfl hLL hLL (O2.out w4 hj4).1 (O3.out w4 hi4).sl).mono ?_
    rintro e w5 ⟨rfl, hb5⟩
    have hk5 := bstep hk4 hb5 hk4.size
    go_wp2
    go_ret
    exact ⟨by simp, HB.out.trans (hk5.mono HB.out.size)⟩
  obtain ⟨u, hu⟩ : ∃ u, nextV L 50 = u := ⟨_, rfl⟩
  obtain ⟨v, hv⟩ : ∃ v, nextV l1 50 = v := ⟨_, rfl⟩
  have hle : v ≤ u := by have := next_touch RO.out; rwa [R.out, hu, hv] at this
  have T1 := Lib.hid hu
  have T2 := Lib.hid hv
  clear hu hv
  go_wp2_with fail
  refine (impl_NE T1.out rfl hLL (O2.out w4 hj4).1).mono ?_
  rintro e w5 ⟨rfl, hb5⟩
  have hk5 := bstep hk4 hb5 hk4.size
  go_wp2_with fail
  refine (impl_NE T2.out rfl hl2 (SL.out _ hk5)).mono ?_
  rintro e w6 ⟨rfl, hb6⟩
  have hk6 := bstep hk5 hb6 hk5.size
  go_wp2
  go_ret
  exact ⟨by first | (simp; done) | (simp; omega), HB.out.trans (hk6.mono HB.out.size)⟩
end Go.Proofs.Ytpfmlenodgjebaa
