/- The walk of FnLetsInNone. -/
import Derived.Test.YtafmalklgecomaaCk
namespace Go.Proofs.Ytafmalklgecomaa
open Go.RowKit
set_option maxHeartbeats 4000000 in
theorem FnLetsInNone_walk (A : Option Addr) (c : Nat) (l : List Int) (w : World) (hi : CodeIn w A c l) :
    Calls Try.prog 7 #[.slice A l.length c] w (Ret w (.bool true)) := by
  have hc := hi.1
  have hlc := hi.2.1.1
  unfold maxLen at hc
  have HI := Lib.hid hi
  clear hi
  by_cases hbig : 1048576 < l.length
  · go_enter Try.func7, Try.ntmps7
    go_wp2
    go_ret
    exact ⟨rfl, Below.refl _ _⟩
  go_enter Try.func7, Try.ntmps7
  go_wp2_with fail
  refine (DrawLetsIn_ _ _ _ _ HI.out).mono ?_
  rintro e w2 ⟨A1, c1, l1, k, p, a, q, rfl, hl1, ho, hb⟩
  obtain ⟨wq, hwq⟩ : ∃ x, x = w2.alloc (.cells #[.int .i64 a, .int .i64 q] 27) := ⟨_, rfl⟩
  have hq : Below w2.heap.size w2 wq := by subst hwq; exact (Below.refl _ _).alloc (Nat.le_refl _) _
  have SL := Lib.hid (fun W (h : Below wq.heap.size wq W) => ho.sl.below (hq.trans (h.mono hq.size)))
  have EC := Lib.hid (fun W (h : Below wq.heap.size wq W) => end_cells w2 a q (W := W) (by subst hwq; exact h))
  have HB := Lib.hid (hb.trans (hq.mono hb.size))
  have hk : Below wq.heap.size wq wq := Below.refl _ _
  have hl2 : l1.length ≤ 2000000 := by omega
  have WQ := Lib.hid hwq
  clear hb ho hwq
  obtain ⟨x0, x1, xz⟩ := EC.out wq hk
  obtain ⟨r, hr⟩ : ∃ r, letsIn k l1 p a q = r := ⟨_, rfl⟩
  have HR := Lib.hid hr
  clear hr
  have hn := letsIn_empty k p a q
  cases h0 : (k == 0)
  all_goals
    rw [h0] at hn
    have HN := Lib.hid hn
    clear hn
    cases r
  all_goals
    go_wp2_with fail
    rw [← WQ.out]
    refine (impl_LI HR.out rfl hl2 (SL.out _ hk)).mono ?_
    rintro e w3 ⟨rfl, hb3⟩
    have hk3 : Below wq.heap.size wq w3 := bstep (by assumption) hb3 (Below.size (by assumption))
    obtain ⟨x0, x1, xz⟩ := EC.out w3 hk3
    go_wp2_with (first | (go_at_call 21; (with_reducible refine (spec_LI HR.out rfl hl2 (SL.out _ (by assumption))).mono ?_); rintro e w3 ⟨rfl, hb3⟩; have hk3 : Below wq.heap.size wq w3 := bstep (by assumption) hb3 (Below.size (by assumption)); obtain ⟨x0, x1, xz⟩ := EC.out w3 hk3) | (go_at_call 24; (refine (impl_LI (l := []) HN.out rfl (by simp) Sl.nil).mono ?_); rintro e w3 ⟨rfl, hb3⟩; have hk3 : Below wq.heap.size wq w3 := bstep (by assumption) hb3 (Below.size (by assumption)); obtain ⟨x0, x1, xz⟩ := EC.out w3 hk3))
    go_ret
    exact ⟨rfl, HB.out.trans (Below.mono (by assumption) HB.out.size)⟩
end Go.Proofs.Ytafmalklgecomaa
