/- The walks of FnLetsIn, FnLetsInNone, FnLetsInContact. -/
import Derived.Test.YtafmalklgecomaaCk
namespace Go.Proofs.Ytafmalklgecomaa
open Go.RowKit
set_option maxHeartbeats 4000000 in
theorem FnLetsIn_walk (A : Option Addr) (c : Nat) (l : List Int) (w : World) (hi : CodeIn w A c l) :
    Calls Try.prog 5 #[.slice A l.length c] w (Ret w (.bool true)) := by
  have hc := hi.1
  have hlc := hi.2.1.1
  unfold maxLen at hc
  have HI := Lib.hid hi
  clear hi
  by_cases hbig : 1048576 < l.length
  · go_enter Try.func5, Try.ntmps5
    go_wp2
    go_ret
    exact ⟨rfl, Below.refl _ _⟩
  go_enter Try.func5, Try.ntmps5
  go_wp2_with fail
  refine (DrawLetsIn_ _ _ _ _ HI.out).mono ?_
  rintro e w2 ⟨A1, c1, l1, k, p, a, q, rfl, hl1, ho, hb⟩
  obtain ⟨wq, hwq⟩ : ∃ x, x = w2.alloc (.cells #[.int .i64 a, .int .i64 q] 27) := ⟨_, rfl⟩
  have hq : Below w2.heap.size w2 wq := by subst hwq; exact (Below.refl _ _).alloc (Nat.le_refl _) _
  have SL := Lib.hid (fun W (h : Below wq.heap.size wq W) => ho.sl.below (hq.trans (h.mono hq.size)))
  have EC := Lib.hid (fun W (h : Below wq.heap.size wq W) => end_cells w2 a q (W := W) (by subst hwq; exact h))
  have HB := Lib.hid (hb.trans (hq.mono hb.size))
  have hk : Below wq.heap.size wq wq := Below.refl _ _
  have hl2 : l1.length ≤ 2000000 := by omega
  have WQ := Lib.hid hwq
  clear hb ho hwq
  obtain ⟨x0, x1, xz⟩ := EC.out wq hk
  obtain ⟨r, hr⟩ : ∃ r, letsIn k l1 p a q = r := ⟨_, rfl⟩
  obtain ⟨v, hv⟩ : ∃ r, vC l1 = r := ⟨_, rfl⟩
  obtain ⟨r1, hr1⟩ : ∃ r, letsIn 1 l1 p a q = r := ⟨_, rfl⟩
  obtain ⟨r2, hr2⟩ : ∃ r, letsIn 2 l1 p a q = r := ⟨_, rfl⟩
  have hr0 : v = true → letsIn 0 l1 p a q = true := fun h => letsIn_none _ _ _ _ (hv.trans h)
  have hr12 : r2 = true → r1 = true := fun h => by rw [← hr1]; exact letsIn_weak _ _ _ _ (hr2.trans h)
  have HR := Lib.hid hr
  have HV := Lib.hid hv
  have HR1 := Lib.hid hr1
  have HR2 := Lib.hid hr2
  clear hr hv hr1 hr2
  cases v
  · clear hr0 hr12
    cases r
    all_goals
      go_wp2_with fail
      rw [← WQ.out]
      refine (impl_LI HR.out rfl hl2 (SL.out _ hk)).mono ?_
      rintro e w3 ⟨rfl, hb3⟩
      have hk3 : Below wq.heap.size wq w3 := bstep (by assumption) hb3 (Below.size (by assumption))
      obtain ⟨x0, x1, xz⟩ := EC.out w3 hk3
      go_wp2_with (first | (go_at_call 21; refine (spec_LI HR.out rfl hl2 (SL.out _ (by assumption))).mono ?_; rintro e w3 ⟨rfl, hb3⟩; have hk3 : Below wq.heap.size wq w3 := bstep (by assumption) hb3 (Below.size (by assumption)); obtain ⟨x0, x1, xz⟩ := EC.out w3 hk3) | (go_at_call 18; refine (impl_VC HV.out rfl hl2 (SL.out _ (by assumption))).mono ?_; rintro e w3 ⟨rfl, hb3⟩; have hk3 : Below wq.heap.size wq w3 := bstep (by assumption) hb3 (Below.size (by assumption)); obtain ⟨x0, x1, xz⟩ := EC.out w3 hk3))
      go_ret
      exact ⟨rfl, HB.out.trans (Below.mono (by assumption) HB.out.size)⟩
  · have HR0 := Lib.hid (hr0 rfl)
    clear hr0
    cases r1
    · have h2 : r2 = false := by cases r2 <;> simp_all
      subst h2
      clear hr12
      cases r
      all_goals
        go_wp2_with fail
        rw [← WQ.out]
        refine (impl_LI HR.out rfl hl2 (SL.out _ hk)).mono ?_
        rintro e w3 ⟨rfl, hb3⟩
        have hk3 : Below wq.heap.size wq w3 := bstep (by assumption) hb3 (Below.size (by assumption))
        obtain ⟨x0, x1, xz⟩ := EC.out w3 hk3
        go_wp2_with (first | (go_at_call 21; refine (spec_LI HR.out rfl hl2 (SL.out _ (by assumption))).mono ?_; rintro e w3 ⟨rfl, hb3⟩; have hk3 : Below wq.heap.size wq w3 := bstep (by assumption) hb3 (Below.size (by assumption)); obtain ⟨x0, x1, xz⟩ := EC.out w3 hk3) | (go_at_call 18; refine (impl_VC HV.out rfl hl2 (SL.out _ (by assumption))).mono ?_; rintro e w3 ⟨rfl, hb3⟩; have hk3 : Below wq.heap.size wq w3 := bstep (by assumption) hb3 (Below.size (by assumption)); obtain ⟨x0, x1, xz⟩ := EC.out w3 hk3) | (go_at_call 24; (with_reducible refine (impl_LI (kind := 1) HR1.out rfl hl2 (SL.out _ (by assumption))).mono ?_); rintro e w3 ⟨rfl, hb3⟩; have hk3 : Below wq.heap.size wq w3 := bstep (by assumption) hb3 (Below.size (by assumption)); obtain ⟨x0, x1, xz⟩ := EC.out w3 hk3) | (go_at_call 24; (with_reducible refine (impl_LI (kind := 2) HR2.out rfl hl2 (SL.out _ (by assumption))).mono ?_); rintro e w3 ⟨rfl, hb3⟩; have hk3 : Below wq.heap.size wq w3 := bstep (by assumption) hb3 (Below.size (by assumption)); obtain ⟨x0, x1, xz⟩ := EC.out w3 hk3) | (go_at_call 24; (with_reducible refine (impl_LI (kind := 0) HR0.out rfl hl2 (SL.out _ (by assumption))).mono ?_); rintro e w3 ⟨rfl, hb3⟩; have hk3 : Below wq.heap.size wq w3 := bstep (by assumption) hb3 (Below.size (by assumption)); obtain ⟨x0, x1, xz⟩ := EC.out w3 hk3))
        go_ret
        exact ⟨rfl, HB.out.trans (Below.mono (by assumption) HB.out.size)⟩
    · clear hr12
      cases r2
      all_goals cases r
      all_goals
        go_wp2_with fail
        rw [← WQ.out]
        refine (impl_LI HR.out rfl hl2 (SL.out _ hk)).mono ?_
        rintro e w3 ⟨rfl, hb3⟩
        have hk3 : Below wq.heap.size wq w3 := bstep (by assumption) hb3 (Below.size (by assumption))
        obtain ⟨x0, x1, xz⟩ := EC.out w3 hk3
        go_wp2_with (first | (go_at_call 21; refine (spec_LI HR.out rfl hl2 (SL.out _ (by assumption))).mono ?_; rintro e w3 ⟨rfl, hb3⟩; have hk3 : Below wq.heap.size wq w3 := bstep (by assumption) hb3 (Below.size (by assumption)); obtain ⟨x0, x1, xz⟩ := EC.out w3 hk3) | (go_at_call 18; refine (impl_VC HV.out rfl hl2 (SL.out _ (by assumption))).mono ?_; rintro e w3 ⟨rfl, hb3⟩; have hk3 : Below wq.heap.size wq w3 := bstep (by assumption) hb3 (Below.size (by assumption)); obtain ⟨x0, x1, xz⟩ := EC.out w3 hk3) | (go_at_call 24; (with_reducible refine (impl_LI (kind := 1) HR1.out rfl hl2 (SL.out _ (by assumption))).mono ?_); rintro e w3 ⟨rfl, hb3⟩; have hk3 : Below wq.heap.size wq w3 := bstep (by assumption) hb3 (Below.size (by assumption)); obtain ⟨x0, x1, xz⟩ := EC.out w3 hk3) | (go_at_call 24; (with_reducible refine (impl_LI (kind := 2) HR2.out rfl hl2 (SL.out _ (by assumption))).mono ?_); rintro e w3 ⟨rfl, hb3⟩; have hk3 : Below wq.heap.size wq w3 := bstep (by assumption) hb3 (Below.size (by assumption)); obtain ⟨x0, x1, xz⟩ := EC.out w3 hk3) | (go_at_call 24; (with_reducible refine (impl_LI (kind := 0) HR0.out rfl hl2 (SL.out _ (by assumption))).mono ?_); rintro e w3 ⟨rfl, hb3⟩; have hk3 : Below wq.heap.size wq w3 := bstep (by assumption) hb3 (Below.size (by assumption)); obtain ⟨x0, x1, xz⟩ := EC.out w3 hk3))
        go_ret
        exact ⟨rfl, HB.out.trans (Below.mono (by assumption) HB.out.size)⟩
end Go.Proofs.Ytafmalklgecomaa
