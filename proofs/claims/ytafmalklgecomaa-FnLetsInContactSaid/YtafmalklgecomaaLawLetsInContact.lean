/- The walk of FnLetsInContact. -/
import Derived.Test.YtafmalklgecomaaCk
namespace Go.Proofs.Ytafmalklgecomaa
open Go.RowKit
set_option maxHeartbeats 4000000 in
theorem FnLetsInContact_walk (A : Option Addr) (c : Nat) (l : List Int) (w : World) (hi : CodeIn w A c l) :
    Calls Try.prog 6 #[.slice A l.length c] w (Ret w (.bool true)) := by
  have hc := hi.1
  have hlc := hi.2.1.1
  unfold maxLen at hc
  have HI := Lib.hid hi
  clear hi
  by_cases hbig : 1048576 < l.length
  · go_enter Try.func6, Try.ntmps6
    go_wp2
    go_ret
    exact ⟨rfl, Below.refl _ _⟩
  go_enter Try.func6, Try.ntmps6
  go_wp2_with fail
  refine (DrawLetsIn_ _ _ _ _ HI.out).mono ?_
  rintro e w2 ⟨A1, c1, l1, k, p, a, q, rfl, hl1, ho, hb⟩
  obtain ⟨wq, hwq⟩ : ∃ x, x = w2.alloc (.cells #[.int .i64 a, .int .i64 q] 27) := ⟨_, rfl⟩
  have hq : Below w2.heap.size w2 wq := by subst hwq; exact (Below.refl _ _).alloc (Nat.le_refl _) _
  have SL := Lib.hid (fun W (h : Below wq.heap.size wq W) => ho.sl.below (hq.trans (h.mono hq.size)))
  have EC := Lib.hid (fun W (h : Below wq.heap.size wq W) => end_cells w2 a q (W := W) (by subst hwq; exact h))
  have HB := Lib.hid (hb.trans (hq.mono hb.size))
  have hk : Below wq.heap.size wq wq := Below.refl _ _
  have hl2 : l1.length ≤ 2000000 := by omega
  have WQ := Lib.hid hwq
  clear hb ho hwq
  obtain ⟨x0, x1, xz⟩ := EC.out wq hk
  obtain ⟨r, hr⟩ : ∃ r, letsIn k l1 p a q = r := ⟨_, rfl⟩
  have HR := Lib.hid hr
  clear hr
  cases hv : vC l1
  · have HV := Lib.hid hv
    clear hv
    cases r
    all_goals
      go_wp2_with fail
      rw [← WQ.out]
      refine (impl_LI HR.out rfl hl2 (SL.out _ hk)).mono ?_
      rintro e w3 ⟨rfl, hb3⟩
      have hk3 : Below wq.heap.size wq w3 := bstep (by assumption) hb3 (Below.size (by assumption))
      obtain ⟨x0, x1, xz⟩ := EC.out w3 hk3
      go_wp2_with (first | (go_at_call 21; (with_reducible refine (spec_LI HR.out rfl hl2 (SL.out _ (by assumption))).mono ?_); rintro e w3 ⟨rfl, hb3⟩; have hk3 : Below wq.heap.size wq w3 := bstep (by assumption) hb3 (Below.size (by assumption)); obtain ⟨x0, x1, xz⟩ := EC.out w3 hk3) | (go_at_call 18; (with_reducible refine (impl_VC HV.out rfl hl2 (SL.out _ (by assumption))).mono ?_); rintro e w3 ⟨rfl, hb3⟩; have hk3 : Below wq.heap.size wq w3 := bstep (by assumption) hb3 (Below.size (by assumption)); obtain ⟨x0, x1, xz⟩ := EC.out w3 hk3))
      go_ret
      exact ⟨rfl, HB.out.trans (Below.mono (by assumption) HB.out.size)⟩
  · have HV := Lib.hid hv
    clear hv
    cases r
    all_goals
      go_wp2_with fail
      rw [← WQ.out]
      refine (impl_LI HR.out rfl hl2 (SL.out _ hk)).mono ?_
      rintro e w3 ⟨rfl, hb3⟩
      have hk3 : Below wq.heap.size wq w3 := bstep (by assumption) hb3 (Below.size (by assumption))
      obtain ⟨x0, x1, xz⟩ := EC.out w3 hk3
      go_wp2_with (first | (go_at_call 21; (with_reducible refine (spec_LI HR.out rfl hl2 (SL.out _ (by assumption))).mono ?_); rintro e w3 ⟨rfl, hb3⟩; have hk3 : Below wq.heap.size wq w3 := bstep (by assumption) hb3 (Below.size (by assumption)); obtain ⟨x0, x1, xz⟩ := EC.out w3 hk3) | (go_at_call 18; (with_reducible refine (impl_VC HV.out rfl hl2 (SL.out _ (by assumption))).mono ?_); rintro e w3 ⟨rfl, hb3⟩; have hk3 : Below wq.heap.size wq w3 := bstep (by assumption) hb3 (Below.size (by assumption)); obtain ⟨x0, x1, xz⟩ := EC.out w3 hk3))
      have hkr : Below wq.heap.size wq w3 := by assumption
      go_loopw [8] (fun i wr => ∃ m : Nat, m ≤ l1.length ∧ i = .int .i64 m ∧ Below wq.heap.size wq wr) (fun i _ => l1.length - (intOf i).toNat)
      case atStart => exact ⟨0, Nat.zero_le _, rfl, hkr⟩
      case round =>
        obtain ⟨m, hm, rfl, hbr⟩ := hrel
        clear hk3 hb3 x0 x1 xz hk
        by_cases hlt : m < l1.length
        · obtain ⟨b, o, rfl, hbs, hcr⟩ := (SL.out wr hbr).base hlt
          obtain ⟨p', a', q', hx⟩ := ct_at hlt
          obtain ⟨d0, d1, d2⟩ := hcr.ct (Below.refl wr.heap.size wr) hbs hx
          have L2 := Lib.hid (letsIn_own HV.out (List.mem_of_getElem? hx))
          have L1 := Lib.hid (letsIn_addr HV.out (List.mem_of_getElem? hx) 7)
          clear hcr hx
          go_wp2_with fail
          refine (impl_LI (kind := 2) L2.out rfl hl2 ((SL.out wr hbr).below ((Below.refl _ _).alloc (Nat.le_refl _) _))).mono ?_
          rintro e w3 ⟨rfl, hb3⟩
          obtain ⟨y0, y1, y2, yz⟩ := ct_cells wr p' a' q' hb3
          have hk3 := bstep (B := wr.heap.size) ((Below.refl wr.heap.size wr).alloc (Nat.le_refl _) _) hb3 (by simp)
          go_wp2_with fail
          refine (impl_LI (kind := 1) L1.out rfl hl2 ((SL.out wr hbr).below hk3)).mono ?_
          rintro e w4 ⟨rfl, hb4⟩
          have hk4 := hbr.trans ((bstep hk3 hb4 hk3.size).mono hbr.size)
          go_wp2
          go_roundw
          case rel => exact ⟨m + 1, by omega, by go_num, hk4⟩
          case measure => simp [intOf]; omega
        · go_wp2
          go_ret
          exact ⟨rfl, HB.out.trans (hbr.mono HB.out.size)⟩
end Go.Proofs.Ytafmalklgecomaa
