/- The walk of FnFreePortMap. -/
import Derived.Test.YtpfmlenodgjebaaMs
namespace Go.Proofs.Ytpfmlenodgjebaa
open Go.RowKit
set_option maxHeartbeats 4000000 in
theorem FnFreePortMap_walk (A : Option Addr) (c : Nat) (l : List Int) (w : World) (hi : CodeIn w A c l) :
    Calls Try.prog 3 #[.slice A l.length c] w (Ret w (.bool true)) := by
  have hc := hi.1
  have hlc := hi.2.1.1
  unfold maxLen at hc
  have HI := Lib.hid hi
  clear hi
  by_cases hbig : 1048576 < l.length
  · go_enter Try.func3, Try.ntmps3
    go_wp2
    go_ret
    exact ⟨rfl, Below.refl _ _⟩
  go_enter Try.func3, Try.ntmps3
  go_wp2_with fail
  refine (DrawFreePort_ _ _ _ _ HI.out).mono ?_
  rintro e w1 ⟨A1, c1, l1, p, rfl, hl1, ⟨hp0, hp1⟩, ho, hb⟩
  have SL1 := Lib.hid (fun W (h : Below w1.heap.size w1 W) => ho.sl.below h)
  have HB1 := Lib.hid hb
  have hl2 : l1.length ≤ 2000000 := by omega
  clear hb ho
  obtain ⟨v, hv⟩ : ∃ v, freeV l1 p = v := ⟨_, rfl⟩
  have HV := Lib.hid hv
  go_wp2_with fail
  refine (impl_FP HV.out rfl hl2 (SL1.out _ (Below.refl _ _))).mono ?_
  rintro e wb ⟨rfl, hbb⟩
  obtain ⟨w2, hw2⟩ : ∃ x, x = wb.alloc (.cells #[.int .i64 9, .int .i64 p] 28) := ⟨_, rfl⟩
  have hq : Below wb.heap.size wb w2 := by subst hw2; exact (Below.refl _ _).alloc (Nat.le_refl _) _
  have h12 := bstep hbb hq hbb.size
  have SL := Lib.hid (fun W (h : Below w2.heap.size w2 W) => SL1.out W (h12.trans (h.mono h12.size)))
  have EC := Lib.hid (fun W (h : Below w2.heap.size w2 W) => end_cells wb 9 p (W := W) (by subst hw2; exact h))
  have HB := Lib.hid (HB1.out.trans (h12.mono HB1.out.size))
  have hk : Below w2.heap.size w2 w2 := Below.refl _ _
  have WQ := Lib.hid hw2
  clear hw2 hq h12 hbb
  obtain ⟨x0, x1, xz⟩ := EC.out w2 hk
  go_wp2_with fail
  rw [← WQ.out]
  refine (spec_FP HV.out rfl hl2 (SL.out _ hk)).mono ?_
  rintro e w3 ⟨rfl, hb3⟩
  have hk3 := hb3
  clear x0 x1 xz
  obtain ⟨x0, x1, xz⟩ := EC.out w3 hk3
  by_cases h0 : v < 0
  · clear hv
    go_wp2_with fail
    refine (spec_FP HV.out rfl hl2 (SL.out _ hk3)).mono ?_
    rintro e w4 ⟨rfl, hb4⟩
    have hk4 := bstep hk3 hb4 hk3.size
    go_wp2
    go_ret
    exact ⟨by simp, HB.out.trans (hk4.mono HB.out.size)⟩
  obtain ⟨o, hov⟩ : ∃ o, outP l1 9 p = o := ⟨_, rfl⟩
  have HOV := Lib.hid hov
  by_cases ho0 : 0 ≤ o
  · clear hv hov
    go_wp2_with fail
    refine (impl_OP HOV.out rfl hl2 (SL.out _ hk3)).mono ?_
    rintro e w4 ⟨rfl, hb4⟩
    have hk4 := bstep hk3 hb4 hk3.size
    go_wp2_with fail
    refine (spec_FP HV.out rfl hl2 (SL.out _ hk4)).mono ?_
    rintro e w5 ⟨rfl, hb5⟩
    have hk5 := bstep hk4 hb5 hk4.size
    go_wp2
    go_ret
    exact ⟨by simp, HB.out.trans (hk5.mono HB.out.size)⟩
  have hm := map_here (l := l1) (q := p) (by omega) (by omega)
  rw [hv] at hm
  obtain ⟨L, hL⟩ : ∃ L, l1 ++ [(⟨9, p, v, 5⟩ : Mp)] = L := ⟨_, rfl⟩
  rw [hL] at hm
  have R := Lib.hid hm.1
  obtain ⟨u, hu⟩ : ∃ u, freeV L p = u := ⟨_, rfl⟩
  have hne : u ≠ v := by have := hm.2; rwa [hu] at this
  have HU := Lib.hid hu
  have hLL : L.length ≤ 2000000 := by rw [← hL]; simp; omega
  clear hm hv hov hu hL
  go_wp2_with fail
  refine (impl_OP HOV.out rfl hl2 (SL.out _ hk3)).mono ?_
  rintro e w4 ⟨rfl, hb4⟩
  have hk4 := bstep hk3 hb4 hk3.size
  clear x0 x1 xz
  obtain ⟨x0, x1, xz⟩ := EC.out w4 hk4
  go_wp2_with fail
  refine (impl_ME R.out rfl rfl hl2 (SL.out _ hk4)).mono ?_
  rintro e w5 ⟨A5, rfl, ho5, hb5⟩
  have O5 := Lib.hid ho5
  have hk5 := bstep hk4 hb5 hk4.size
  clear ho5
  go_wp2_with fail
  refine (impl_FP HU.out rfl hLL O5.out.1).mono ?_
  rintro e w6 ⟨rfl, hb6⟩
  have hk6 := bstep hk5 hb6 hk5.size
  go_wp2
  go_ret
  exact ⟨by simp [hne], HB.out.trans (hk6.mono HB.out.size)⟩
end Go.Proofs.Ytpfmlenodgjebaa
