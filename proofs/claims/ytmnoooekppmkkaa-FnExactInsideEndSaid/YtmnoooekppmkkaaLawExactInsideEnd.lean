/- The walk of FnExactInsideEnd. -/
import Derived.Test.YtmnoooekppmkkaaMk
namespace Go.Proofs.Ytmnoooekppmkkaa
open Go.RowKit
set_option maxHeartbeats 8000000 in
theorem FnExactInsideEnd_walk (A : Option Addr) (c : Nat) (l : List Mp) (p : Int) (w : World) (hc : c ≤ maxLen) (hs : Sl encM 4 w A c l) :
    Calls Try.prog 3 #[.slice A l.length c, .int .i64 p] w (Ret w (.bool true)) := by
  have hlc := hs.1
  unfold maxLen at hc
  have SL := Lib.hid (fun W (h : Below w.heap.size w W) => hs.below h)
  clear hs
  by_cases hbig : (1048576 : Int) - (l.length : Int) < 0
  · go_enter Try.func3, Try.ntmps3
    go_wp2_with (first | (go_at_call 15; refine (laws_szMappingS _ _ _ _ _ (by omega) (by omega) (by omega)).mono ?_; rintro e w' ⟨rfl, rfl⟩; rw [if_pos hbig]))
    go_ret
    exact ⟨rfl, Below.refl _ _⟩
  have hl2 : l.length ≤ 2000000 := by omega
  have HNB := Lib.hid hbig
  have hpos : (0 : Int) ≤ 1048576 - (l.length : Int) := by omega
  have hk0 : Below w.heap.size w w := Below.refl _ _
  obtain ⟨o, ho⟩ : ∃ o, insO l p = o := ⟨_, rfl⟩
  obtain ⟨x, hx⟩ : ∃ x, insE l p = x := ⟨_, rfl⟩
  have HOO := Lib.hid ho
  have HX := Lib.hid hx
  clear ho hx
  clear hbig
  go_enter Try.func3, Try.ntmps3
  go_wp2_with (first | (go_at_call 15; refine (laws_szMappingS _ _ _ _ _ (by omega) (by omega) (by omega)).mono ?_; rintro e w' ⟨rfl, rfl⟩; rw [if_neg HNB.out]))
  refine (toMts rfl hl2 (SL.out _ hk0)).mono ?_
  rintro e w1 ⟨A1, c1, rfl, h1, hb1⟩
  have hk1 := bstep hk0 hb1 hk0.size
  go_wp2_with fail
  refine (spec_IE HOO.out HX.out rfl hl2 h1.sl).mono ?_
  rintro e w2 ⟨rfl, hb2⟩
  have hk2 := bstep hk1 hb2 hk1.size
  clear h1 hb1 hb2
  obtain ⟨wa, hwa⟩ : ∃ y, y = w2.alloc (.cells #[.int .i64 x.a, .int .i64 x.q] 25) := ⟨_, rfl⟩
  have hka : Below w.heap.size w wa := by subst hwa; exact hk2.alloc hk2.size _
  have EC := Lib.hid (fun W (h : Below wa.heap.size wa W) => end_cells w2 x.a x.q (W := W) (by subst hwa; exact h))
  have WA := Lib.hid hwa
  clear hwa
  cases o
  all_goals
    go_wp2_with fail
    rw [← WA.out]
    refine (toMts rfl hl2 (SL.out _ hka)).mono ?_
    rintro e w3 ⟨A3, c3, rfl, h3, hb3⟩
    have hk3 := bstep hka hb3 hka.size
    have X3 := Lib.hid h3
    go_wp2_with fail
    refine (impl_IE HOO.out HX.out rfl hl2 X3.out.sl).mono ?_
    rintro e w4 ⟨rfl, hb4⟩
    have hk4 := bstep hk3 hb4 hk3.size
    have X4 := Lib.hid (X3.out.below hb4)
    obtain ⟨x0, x1, xz⟩ := EC.out _ (bstep hb3 hb4 hb3.size)
    have hk5 : Below w.heap.size w (w4.alloc (.cells #[.int .i64 x.a, .int .i64 x.q] 25)) := hk4.alloc hk4.size _
    have X5 := Lib.hid (X4.out.alloc (.cells #[.int .i64 x.a, .int .i64 x.q] 25))
    clear hb3 hb4 h3
    go_wp2_with fail
    refine (laws_eqEnd _ _ _ _ _).mono ?_
    rintro e w5 ⟨rfl, hb5⟩
    rw [decide_eq_true (show x.a = x.a ∧ x.q = x.q from ⟨rfl, rfl⟩)]
    have hk6 := bstep hk5 hb5 hk5.size
    have X6 := Lib.hid (X5.out.below hb5)
    clear hb5 x0 x1 xz hk5
    go_wp2_with fail
    refine (toMts rfl hl2 (SL.out _ hk6)).mono ?_
    rintro e w6 ⟨A6, c6, rfl, h6, hb6⟩
    have hk7 := bstep hk6 hb6 hk6.size
    have X7 := Lib.hid (X6.out.below hb6)
    have Y6 := Lib.hid h6
    clear hb6 h6
    go_wp2_with fail
    refine (eqMts (l := l) (l' := l) (r := true) (decide_eq_true rfl) rfl rfl hl2 hl2 X7.out.sl Y6.out.sl).mono ?_
    rintro e w7 ⟨rfl, hb7⟩
    have hk8 := bstep hk7 hb7 hk7.size
    go_wp2
    go_ret
    exact ⟨rfl, hk8⟩
end Go.Proofs.Ytmnoooekppmkkaa
