/- The walk of FnFreePort. -/
import Derived.Test.YtmnoooekppmkkaaMk
namespace Go.Proofs.Ytmnoooekppmkkaa
open Go.RowKit
set_option maxHeartbeats 4000000 in
theorem FnFreePort_walk (A : Option Addr) (c : Nat) (l : List Int) (w : World) (hi : CodeIn w A c l) :
    Calls Try.prog 13 #[.slice A l.length c] w (Ret w (.bool true)) := by
  have hc := hi.1
  have hlc := hi.2.1.1
  unfold maxLen at hc
  have HI := Lib.hid hi
  clear hi
  by_cases hbig : 1048576 < l.length
  · go_enter Try.func13, Try.ntmps13
    go_wp2
    go_ret
    exact ⟨rfl, Below.refl _ _⟩
  go_enter Try.func13, Try.ntmps13
  go_wp2_with fail
  refine (DrawFreePort_ _ _ _ _ HI.out).mono ?_
  rintro e w2 ⟨A1, c1, l1, p, rfl, hl1, ⟨hp0, hp1⟩, ho, hb⟩
  have SL := Lib.hid (fun W (h : Below w2.heap.size w2 W) => ho.sl.below h)
  have HB := Lib.hid hb
  have HO := Lib.hid ho
  have hk : Below w2.heap.size w2 w2 := Below.refl _ _
  have hl2 : l1.length ≤ 2000000 := by omega
  clear hb ho
  obtain ⟨v, hv⟩ : ∃ v, freeV l1 p = v := ⟨_, rfl⟩
  have HP := Lib.hid hv
  by_cases h0 : v < 0
  · clear hv
    go_wp2_with (first | (go_at_call 29; (with_reducible refine (impl_FP HP.out rfl hl2 (SL.out _ (by assumption))).mono ?_); rintro e w3 ⟨rfl, hb3⟩; have hk3 : Below w2.heap.size w2 w3 := bstep (by assumption) hb3 (Below.size (by assumption))) | (go_at_call 28; (with_reducible refine (spec_FP HP.out rfl hl2 (SL.out _ (by assumption))).mono ?_); rintro e w3 ⟨rfl, hb3⟩; have hk3 : Below w2.heap.size w2 w3 := bstep (by assumption) hb3 (Below.size (by assumption))))
    go_ret
    exact ⟨by simp, HB.out.trans (Below.mono (by assumption) HB.out.size)⟩
  · have hvw : vM l1 = true ∧ isW p = true := by
      unfold freeV at hv
      cases hm : vM l1 <;> cases hw : isW p <;> rw [hm, hw] at hv <;> simp at hv <;> first | exact ⟨rfl, rfl⟩ | omega
    obtain ⟨hm, hw⟩ := hvw
    have hf : v = freeP l1 p := by rw [← hv]; unfold freeV; rw [hm, hw]; rfl
    have hpw : 0 ≤ p ∧ p ≤ 65535 := of_decide_eq_true hw
    obtain ⟨hpw0, hpw1⟩ := hpw
    have h1 := freeP_pos (l := l1) (want := p) (by rw [← hf]; omega)
    rw [← hf] at h1
    obtain ⟨h1a, h1b, h1c⟩ := h1
    have ho1 : insO l1 v = false := by rw [insO_used hm]; exact h1c
    obtain ⟨o2, ho2⟩ : ∃ o, insO l1 p = o := ⟨_, rfl⟩
    have hnear : inR p 1000 1007 = true → o2 = false → v = p := by
      intro g1 g2
      rw [hf]
      refine freeP_near g1 ?_
      rw [← insO_used hm, ho2, g2]
    obtain ⟨x1, hx1⟩ : ∃ x, insE l1 v = x := ⟨_, rfl⟩
    obtain ⟨x2, hx2⟩ : ∃ x, insE l1 p = x := ⟨_, rfl⟩
    have HO1 := Lib.hid ho1
    have HO2 := Lib.hid ho2
    have HX1 := Lib.hid hx1
    have HX2 := Lib.hid hx2
    clear hm hw hf ho1 ho2 hx1 hx2 hv h1c
    have fin : ∀ (b : Bool), b = true → (Ending.returned (.bool b)) = .returned (.bool true) := by rintro b rfl; rfl
    have FIN := Lib.hid fin
    have NR := Lib.hid hnear
    clear fin hnear
    go_wp2_with (first | (go_at_call 29; (with_reducible refine (impl_FP HP.out rfl hl2 (SL.out _ (by assumption))).mono ?_); rintro e w3 ⟨rfl, hb3⟩; have hk3 : Below w2.heap.size w2 w3 := bstep (by assumption) hb3 (Below.size (by assumption))) | (go_at_call 28; (with_reducible refine (spec_FP HP.out rfl hl2 (SL.out _ (by assumption))).mono ?_); rintro e w3 ⟨rfl, hb3⟩; have hk3 : Below w2.heap.size w2 w3 := bstep (by assumption) hb3 (Below.size (by assumption))))
    refine (impl_IE HO1.out HX1.out rfl hl2 (SL.out _ (by assumption))).mono ?_
    rintro e w4 ⟨rfl, hb4⟩
    have hk4 : Below w2.heap.size w2 w4 := bstep (by assumption) hb4 (Below.size (by assumption))
    have hk5 := hk4.alloc hk4.size (.cells #[.int .i64 x1.a, .int .i64 x1.q] 25)
    go_wp2_with fail
    refine (impl_IE HO2.out HX2.out rfl hl2 (SL.out _ hk5)).mono ?_
    rintro e w6 ⟨rfl, hb6⟩
    have hk6 := bstep hk5 hb6 hk5.size
    have hk7 := hk6.alloc hk6.size (.cells #[.int .i64 x2.a, .int .i64 x2.q] 25)
    have HK7 := Lib.hid hk7
    clear hk7 hb6 hb4
    by_cases g1 : 1000 ≤ p
    · by_cases g2 : p ≤ 1007
      · cases o2
        · have hvp : v = p := NR.out (decide_eq_true ⟨g1, g2⟩) rfl
          subst hvp
          go_wp2
          go_ret
          exact ⟨by simp, HB.out.trans (HK7.out.mono HB.out.size)⟩
        · go_wp2
          go_ret
          exact ⟨by simp, HB.out.trans (HK7.out.mono HB.out.size)⟩
      · go_wp2
        go_ret
        exact ⟨by simp, HB.out.trans (HK7.out.mono HB.out.size)⟩
    · go_wp2
      go_ret
      exact ⟨by simp, HB.out.trans (HK7.out.mono HB.out.size)⟩
end Go.Proofs.Ytmnoooekppmkkaa
