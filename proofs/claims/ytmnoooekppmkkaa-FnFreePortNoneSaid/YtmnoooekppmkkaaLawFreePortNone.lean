/- The walk of FnFreePortNone. -/
import Derived.Test.YtmnoooekppmkkaaMk
namespace Go.Proofs.Ytmnoooekppmkkaa
open Go.RowKit
set_option maxHeartbeats 4000000 in
theorem FnFreePortNone_walk (A : Option Addr) (c : Nat) (l : List Int) (w : World) (hi : CodeIn w A c l) :
    Calls Try.prog 12 #[.slice A l.length c] w (Ret w (.bool true)) := by
  have hc := hi.1
  have hlc := hi.2.1.1
  unfold maxLen at hc
  have HI := Lib.hid hi
  clear hi
  by_cases hbig : 1048576 < l.length
  · go_enter Try.func12, Try.ntmps12
    go_wp2
    go_ret
    exact ⟨rfl, Below.refl _ _⟩
  go_enter Try.func12, Try.ntmps12
  go_wp2_with fail
  refine (DrawFreePort_ _ _ _ _ HI.out).mono ?_
  rintro e w2 ⟨A1, c1, l1, p, rfl, hl1, ⟨hp0, hp1⟩, ho, hb⟩
  have SL := Lib.hid (fun W (h : Below w2.heap.size w2 W) => ho.sl.below h)
  have HB := Lib.hid hb
  have HO := Lib.hid ho
  have hk : Below w2.heap.size w2 w2 := Below.refl _ _
  have hl2 : l1.length ≤ 2000000 := by omega
  clear hb ho
  obtain ⟨v, hv⟩ : ∃ v, freeV l1 p = v := ⟨_, rfl⟩
  have HP := Lib.hid hv
  cases hm : vM l1
  · have HV := Lib.hid hm
    clear hm hv
    go_wp2_with (first | (go_at_call 29; (with_reducible refine (impl_FP HP.out rfl hl2 (SL.out _ (by assumption))).mono ?_); rintro e w3 ⟨rfl, hb3⟩; have hk3 : Below w2.heap.size w2 w3 := bstep (by assumption) hb3 (Below.size (by assumption))) | (go_at_call 28; (with_reducible refine (spec_FP HP.out rfl hl2 (SL.out _ (by assumption))).mono ?_); rintro e w3 ⟨rfl, hb3⟩; have hk3 : Below w2.heap.size w2 w3 := bstep (by assumption) hb3 (Below.size (by assumption))) | (go_at_call 25; (with_reducible refine (impl_VT HV.out rfl hl2 (SL.out _ (by assumption))).mono ?_); rintro e w3 ⟨rfl, hb3⟩; have hk3 : Below w2.heap.size w2 w3 := bstep (by assumption) hb3 (Below.size (by assumption))))
    go_ret
    exact ⟨by simp, HB.out.trans (Below.mono (by assumption) HB.out.size)⟩
  cases hw : isW p
  · have HV := Lib.hid hm
    have HW := Lib.hid hw
    clear hm hv hw
    go_wp2_with (first | (go_at_call 29; (with_reducible refine (impl_FP HP.out rfl hl2 (SL.out _ (by assumption))).mono ?_); rintro e w3 ⟨rfl, hb3⟩; have hk3 : Below w2.heap.size w2 w3 := bstep (by assumption) hb3 (Below.size (by assumption))) | (go_at_call 28; (with_reducible refine (spec_FP HP.out rfl hl2 (SL.out _ (by assumption))).mono ?_); rintro e w3 ⟨rfl, hb3⟩; have hk3 : Below w2.heap.size w2 w3 := bstep (by assumption) hb3 (Below.size (by assumption))) | (go_at_call 25; (with_reducible refine (impl_VT HV.out rfl hl2 (SL.out _ (by assumption))).mono ?_); rintro e w3 ⟨rfl, hb3⟩; have hk3 : Below w2.heap.size w2 w3 := bstep (by assumption) hb3 (Below.size (by assumption))) | (go_at_call 32; refine (laws_isWord _ _).mono ?_; rintro e w' ⟨rfl, rfl⟩; rw [HW.out]))
    go_ret
    exact ⟨by simp, HB.out.trans (Below.mono (by assumption) HB.out.size)⟩
  · have hf : v = freeP l1 p := by rw [← hv]; unfold freeV; rw [hm, hw]; rfl
    have h8 := freeP_neg (want := p) hm
    rw [← hf] at h8
    have HV := Lib.hid hm
    have HW := Lib.hid hw
    clear hm hv hw hf
    by_cases h1 : v = -1
    · have h2 := h8.1 h1
      have e1 : (v == -1) = true := by rw [h1]; rfl
      have e2 : ((l1.length : Int) == 8) = true := by rw [h2]; rfl
      clear h1 h2 h8
      go_wp2_with (first | (go_at_call 29; (with_reducible refine (impl_FP HP.out rfl hl2 (SL.out _ (by assumption))).mono ?_); rintro e w3 ⟨rfl, hb3⟩; have hk3 : Below w2.heap.size w2 w3 := bstep (by assumption) hb3 (Below.size (by assumption))) | (go_at_call 28; (with_reducible refine (spec_FP HP.out rfl hl2 (SL.out _ (by assumption))).mono ?_); rintro e w3 ⟨rfl, hb3⟩; have hk3 : Below w2.heap.size w2 w3 := bstep (by assumption) hb3 (Below.size (by assumption))) | (go_at_call 25; (with_reducible refine (impl_VT HV.out rfl hl2 (SL.out _ (by assumption))).mono ?_); rintro e w3 ⟨rfl, hb3⟩; have hk3 : Below w2.heap.size w2 w3 := bstep (by assumption) hb3 (Below.size (by assumption))) | (go_at_call 32; refine (laws_isWord _ _).mono ?_; rintro e w' ⟨rfl, rfl⟩; rw [HW.out]))
      go_ret
      exact ⟨by simp [e1, e2], HB.out.trans (Below.mono (by assumption) HB.out.size)⟩
    · have h2 : l1.length ≠ 8 := fun h => h1 (h8.2 h)
      have e1 : (v == -1) = false := by simpa using h1
      have e2 : ((l1.length : Int) == 8) = false := by rw [beq_eq_false_iff_ne]; omega
      clear h1 h2 h8
      go_wp2_with (first | (go_at_call 29; (with_reducible refine (impl_FP HP.out rfl hl2 (SL.out _ (by assumption))).mono ?_); rintro e w3 ⟨rfl, hb3⟩; have hk3 : Below w2.heap.size w2 w3 := bstep (by assumption) hb3 (Below.size (by assumption))) | (go_at_call 28; (with_reducible refine (spec_FP HP.out rfl hl2 (SL.out _ (by assumption))).mono ?_); rintro e w3 ⟨rfl, hb3⟩; have hk3 : Below w2.heap.size w2 w3 := bstep (by assumption) hb3 (Below.size (by assumption))) | (go_at_call 25; (with_reducible refine (impl_VT HV.out rfl hl2 (SL.out _ (by assumption))).mono ?_); rintro e w3 ⟨rfl, hb3⟩; have hk3 : Below w2.heap.size w2 w3 := bstep (by assumption) hb3 (Below.size (by assumption))) | (go_at_call 32; refine (laws_isWord _ _).mono ?_; rintro e w' ⟨rfl, rfl⟩; rw [HW.out]))
      go_ret
      exact ⟨by simp [e1, e2], HB.out.trans (Below.mono (by assumption) HB.out.size)⟩
end Go.Proofs.Ytmnoooekppmkkaa
