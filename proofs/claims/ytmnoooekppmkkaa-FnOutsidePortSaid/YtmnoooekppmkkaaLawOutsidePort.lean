/- The walk of FnOutsidePort. -/
import Derived.Test.YtmnoooekppmkkaaMk
namespace Go.Proofs.Ytmnoooekppmkkaa
open Go.RowKit
set_option maxHeartbeats 4000000 in
theorem FnOutsidePort_walk (A : Option Addr) (c : Nat) (l : List Int) (w : World) (hi : CodeIn w A c l) :
    Calls Try.prog 11 #[.slice A l.length c] w (Ret w (.bool true)) := by
  have hc := hi.1
  have hlc := hi.2.1.1
  unfold maxLen at hc
  have HI := Lib.hid hi
  clear hi
  by_cases hbig : 1048576 < l.length
  · go_enter Try.func11, Try.ntmps11
    go_wp2
    go_ret
    exact ⟨rfl, Below.refl _ _⟩
  go_enter Try.func11, Try.ntmps11
  go_wp2_with fail
  refine (DrawOutsidePort_ _ _ _ _ HI.out).mono ?_
  rintro e w1 ⟨A1, c1, l1, a, q, rfl, hl1, ho, hb⟩
  obtain ⟨w2, hw2⟩ : ∃ x, x = w1.alloc (.cells #[.int .i64 a, .int .i64 q] 25) := ⟨_, rfl⟩
  have hq : Below w1.heap.size w1 w2 := by subst hw2; exact (Below.refl _ _).alloc (Nat.le_refl _) _
  have SL := Lib.hid (fun W (h : Below w2.heap.size w2 W) => ho.sl.below (hq.trans (h.mono hq.size)))
  have EC := Lib.hid (fun W (h : Below w2.heap.size w2 W) => end_cells w1 a q (W := W) (by subst hw2; exact h))
  have HB := Lib.hid (hb.trans (hq.mono hb.size))
  have hk : Below w2.heap.size w2 w2 := Below.refl _ _
  have hl2 : l1.length ≤ 2000000 := by omega
  have WQ := Lib.hid hw2
  clear hb ho hw2
  obtain ⟨x0, x1, xz⟩ := EC.out w2 hk
  obtain ⟨v, hv⟩ : ∃ v, outP l1 a q = v := ⟨_, rfl⟩
  have HP := Lib.hid hv
  by_cases h0 : v < 0
  · clear hv
    go_wp2_with fail
    rw [← WQ.out]
    refine (impl_OP HP.out rfl hl2 (SL.out _ hk)).mono ?_
    rintro e w3 ⟨rfl, hb3⟩
    have hk3 : Below w2.heap.size w2 w3 := bstep (by assumption) hb3 (Below.size (by assumption))
    obtain ⟨x0, x1, xz⟩ := EC.out w3 hk3
    go_wp2_with (first | (go_at_call 21; (with_reducible refine (spec_OP HP.out rfl hl2 (SL.out _ (by assumption))).mono ?_); rintro e w3 ⟨rfl, hb3⟩; have hk3 : Below w2.heap.size w2 w3 := bstep (by assumption) hb3 (Below.size (by assumption)); obtain ⟨x0, x1, xz⟩ := EC.out w3 hk3))
    go_ret
    exact ⟨by simp, HB.out.trans (Below.mono (by assumption) HB.out.size)⟩
  · have hin := outP_in (l := l1) (a := a) (q := q) (by rw [hv]; omega)
    rw [hv] at hin
    obtain ⟨h1, h2, h3, h4, h5⟩ := hin
    obtain ⟨x, hx⟩ : ∃ x, insE l1 v = x := ⟨_, rfl⟩
    rw [hx] at h2 h3
    have HX := Lib.hid hx
    have HOO := Lib.hid h1
    have E := eqlEnB x.a x.q a q (r := true) (by rw [h2, h3]; simp)
    clear h1 h2 h3 hx hv
    go_wp2_with fail
    rw [← WQ.out]
    refine (impl_OP HP.out rfl hl2 (SL.out _ hk)).mono ?_
    rintro e w3 ⟨rfl, hb3⟩
    have hk3 : Below w2.heap.size w2 w3 := bstep (by assumption) hb3 (Below.size (by assumption))
    obtain ⟨x0, x1, xz⟩ := EC.out w3 hk3
    go_wp2_with (first | (go_at_call 21; (with_reducible refine (spec_OP HP.out rfl hl2 (SL.out _ (by assumption))).mono ?_); rintro e w3 ⟨rfl, hb3⟩; have hk3 : Below w2.heap.size w2 w3 := bstep (by assumption) hb3 (Below.size (by assumption)); obtain ⟨x0, x1, xz⟩ := EC.out w3 hk3) | (go_at_call 18; (with_reducible refine (impl_IE HOO.out HX.out rfl hl2 (SL.out _ (by assumption))).mono ?_); rintro e w3 ⟨rfl, hb3⟩; have hk3 : Below w2.heap.size w2 w3 := bstep (by assumption) hb3 (Below.size (by assumption)); obtain ⟨x0, x1, xz⟩ := EC.out w3 hk3))
    go_ret
    exact ⟨by simp, HB.out.trans (((Below.alloc (by assumption) (Below.size (by assumption)) _)).mono HB.out.size)⟩
end Go.Proofs.Ytmnoooekppmkkaa
