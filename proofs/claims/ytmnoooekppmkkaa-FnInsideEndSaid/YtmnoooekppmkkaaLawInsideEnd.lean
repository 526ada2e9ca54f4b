/- The walk of FnInsideEnd. -/
import Derived.Test.YtmnoooekppmkkaaMk
namespace Go.Proofs.Ytmnoooekppmkkaa
open Go.RowKit
set_option maxHeartbeats 4000000 in
theorem FnInsideEnd_walk (A : Option Addr) (c : Nat) (l : List Int) (w : World) (hi : CodeIn w A c l) :
    Calls Try.prog 9 #[.slice A l.length c] w (Ret w (.bool true)) := by
  have hc := hi.1
  have hlc := hi.2.1.1
  unfold maxLen at hc
  have HI := Lib.hid hi
  clear hi
  by_cases hbig : 1048576 < l.length
  · go_enter Try.func9, Try.ntmps9
    go_wp2
    go_ret
    exact ⟨rfl, Below.refl _ _⟩
  go_enter Try.func9, Try.ntmps9
  go_wp2_with fail
  refine (DrawInsideEnd_ _ _ _ _ HI.out).mono ?_
  rintro e w2 ⟨A1, c1, l1, p, rfl, hl1, ho, hb⟩
  have SL := Lib.hid (fun W (h : Below w2.heap.size w2 W) => ho.sl.below h)
  have HB := Lib.hid hb
  have HO := Lib.hid ho
  have hk : Below w2.heap.size w2 w2 := Below.refl _ _
  have hl2 : l1.length ≤ 2000000 := by omega
  clear hb ho
  obtain ⟨o, ho⟩ : ∃ o, insO l1 p = o := ⟨_, rfl⟩
  obtain ⟨x, hx⟩ : ∃ x, insE l1 p = x := ⟨_, rfl⟩
  have HOO := Lib.hid ho
  have HX := Lib.hid hx
  clear ho hx
  have E := neqEnB x.a x.q x.a x.q (r := true) (by simp)
  have E2 := eqlEnB x.a x.q x.a x.q (r := true) (by simp)
  cases o
  · go_wp2_with fail
    refine (impl_IE HOO.out HX.out rfl hl2 (SL.out _ hk)).mono ?_
    rintro e w3 ⟨rfl, hb3⟩
    obtain ⟨wq, hwq⟩ : ∃ y, y = w3.alloc (.cells #[.int .i64 x.a, .int .i64 x.q] 25) := ⟨_, rfl⟩
    have hk3 := bstep hk hb3 hk.size
    have hkq : Below w2.heap.size w2 wq := by subst hwq; exact hk3.alloc hk3.size _
    have EC := Lib.hid (fun W (h : Below wq.heap.size wq W) => end_cells w3 x.a x.q (W := W) (by subst hwq; exact h))
    have WQ := Lib.hid hwq
    clear hwq
    go_wp2_with fail
    rw [← WQ.out]
    refine (spec_IE HOO.out HX.out rfl hl2 (SL.out _ hkq)).mono ?_
    rintro e w4 ⟨rfl, hb4⟩
    have hk4 := bstep hkq hb4 hkq.size
    obtain ⟨x0, x1, xz⟩ := EC.out _ hb4
    have hk5 : Below w2.heap.size w2 (w4.alloc (.cells #[.int .i64 x.a, .int .i64 x.q] 25)) := hk4.alloc hk4.size _
    go_wp2
    go_ret
    exact ⟨rfl, HB.out.trans (hk5.mono HB.out.size)⟩
  · obtain ⟨hv, hm, hp⟩ := ins_mem HOO.out
    rw [HX.out] at hm hp
    have HP := Lib.hid (show outP l1 x.a x.q = p by rw [outP_mem hv hm, hp])
    clear hv hm hp
    go_wp2_with fail
    refine (impl_IE HOO.out HX.out rfl hl2 (SL.out _ hk)).mono ?_
    rintro e w3 ⟨rfl, hb3⟩
    obtain ⟨wq, hwq⟩ : ∃ y, y = w3.alloc (.cells #[.int .i64 x.a, .int .i64 x.q] 25) := ⟨_, rfl⟩
    have hk3 := bstep hk hb3 hk.size
    have hkq : Below w2.heap.size w2 wq := by subst hwq; exact hk3.alloc hk3.size _
    have EC := Lib.hid (fun W (h : Below wq.heap.size wq W) => end_cells w3 x.a x.q (W := W) (by subst hwq; exact h))
    have WQ := Lib.hid hwq
    clear hwq
    go_wp2_with fail
    rw [← WQ.out]
    refine (spec_IE HOO.out HX.out rfl hl2 (SL.out _ hkq)).mono ?_
    rintro e w4 ⟨rfl, hb4⟩
    have hk4 := bstep hkq hb4 hkq.size
    obtain ⟨x0, x1, xz⟩ := EC.out _ hb4
    have hk5 : Below w2.heap.size w2 (w4.alloc (.cells #[.int .i64 x.a, .int .i64 x.q] 25)) := hk4.alloc hk4.size _
    go_wp2_with fail
    refine (impl_OP HP.out rfl hl2 (SL.out _ hk5)).mono ?_
    rintro e w5 ⟨rfl, hb5⟩
    have hk6 := bstep hk5 hb5 hk5.size
    go_wp2
    go_ret
    exact ⟨by simp, HB.out.trans (hk6.mono HB.out.size)⟩
end Go.Proofs.Ytmnoooekppmkkaa
