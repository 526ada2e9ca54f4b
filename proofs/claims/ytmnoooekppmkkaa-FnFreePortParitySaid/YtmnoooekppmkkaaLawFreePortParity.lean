/- The walk of FnFreePortParity. -/
import Derived.Test.YtmnoooekppmkkaaMk
namespace Go.Proofs.Ytmnoooekppmkkaa
open Go.RowKit
set_option maxHeartbeats 4000000 in
theorem FnFreePortParity_walk (A : Option Addr) (c : Nat) (l : List Int) (w : World) (hi : CodeIn w A c l) :
    Calls Try.prog 14 #[.slice A l.length c] w (Ret w (.bool true)) := by
  have hc := hi.1
  have hlc := hi.2.1.1
  unfold maxLen at hc
  have HI := Lib.hid hi
  clear hi
  by_cases hbig : 1048576 < l.length
  · go_enter Try.func14, Try.ntmps14
    go_wp2
    go_ret
    exact ⟨rfl, Below.refl _ _⟩
  go_enter Try.func14, Try.ntmps14
  go_wp2_with fail
  refine (DrawFreePort_ _ _ _ _ HI.out).mono ?_
  rintro e w2 ⟨A1, c1, l1, p, rfl, hl1, ⟨hp0, hp1⟩, ho, hb⟩
  have SL := Lib.hid (fun W (h : Below w2.heap.size w2 W) => ho.sl.below h)
  have HB := Lib.hid hb
  have HO := Lib.hid ho
  have hk : Below w2.heap.size w2 w2 := Below.refl _ _
  have hl2 : l1.length ≤ 2000000 := by omega
  clear hb ho
  obtain ⟨v, hv⟩ : ∃ v, freeV l1 p = v := ⟨_, rfl⟩
  have HP := Lib.hid hv
  by_cases h0 : v < 0
  · clear hv
    go_wp2_with (first | (go_at_call 29; (with_reducible refine (impl_FP HP.out rfl hl2 (SL.out _ (by assumption))).mono ?_); rintro e w3 ⟨rfl, hb3⟩; have hk3 : Below w2.heap.size w2 w3 := bstep (by assumption) hb3 (Below.size (by assumption))) | (go_at_call 28; (with_reducible refine (spec_FP HP.out rfl hl2 (SL.out _ (by assumption))).mono ?_); rintro e w3 ⟨rfl, hb3⟩; have hk3 : Below w2.heap.size w2 w3 := bstep (by assumption) hb3 (Below.size (by assumption))))
    go_ret
    exact ⟨by simp, HB.out.trans (Below.mono (by assumption) HB.out.size)⟩
  · have hvw : vM l1 = true ∧ isW p = true := by
      unfold freeV at hv
      cases hm : vM l1 <;> cases hw : isW p <;> rw [hm, hw] at hv <;> simp at hv <;> first | exact ⟨rfl, rfl⟩ | omega
    obtain ⟨hm, hw⟩ := hvw
    have hf : v = freeP l1 p := by rw [← hv]; unfold freeV; rw [hm, hw]; rfl
    have hpw : 0 ≤ p ∧ p ≤ 65535 := of_decide_eq_true hw
    obtain ⟨hpw0, hpw1⟩ := hpw
    have h1 := freeP_pos (l := l1) (want := p) (by rw [← hf]; omega)
    rw [← hf] at h1
    obtain ⟨h1a, h1b, h1c⟩ := h1
    have HE := Lib.hid (fun (k : Int) (hk : k ∈ ports) (hp : par p k = true) (hu : insO l1 k = false) => (show par p v = true by rw [hf]; exact freeP_even hk hp (by rw [← insO_used hm]; exact hu)))
    clear hm hw hf hv h1c
    go_wp2_with (first | (go_at_call 29; (with_reducible refine (impl_FP HP.out rfl hl2 (SL.out _ (by assumption))).mono ?_); rintro e w3 ⟨rfl, hb3⟩; have hk3 : Below w2.heap.size w2 w3 := bstep (by assumption) hb3 (Below.size (by assumption))) | (go_at_call 28; (with_reducible refine (spec_FP HP.out rfl hl2 (SL.out _ (by assumption))).mono ?_); rintro e w3 ⟨rfl, hb3⟩; have hk3 : Below w2.heap.size w2 w3 := bstep (by assumption) hb3 (Below.size (by assumption))))
    have hkr : Below w2.heap.size w2 w3 := by assumption
    clear hk3 hb3 hk
    go_loopw [6] (fun i wr => ∃ m : Nat, m ≤ 8 ∧ i = .int .i64 (1000 + (m : Int)) ∧ Below w2.heap.size w2 wr) (fun i _ => (1008 - intOf i).toNat)
    case atStart => exact ⟨0, by omega, rfl, hkr⟩
    case round =>
      obtain ⟨m, hm, rfl, hbr⟩ := hrel
      clear hkr
      by_cases hlt : m < 8
      · obtain ⟨o, ho⟩ : ∃ o, insO l1 (1000 + (m : Int)) = o := ⟨_, rfl⟩
        obtain ⟨x, hx⟩ : ∃ x, insE l1 (1000 + (m : Int)) = x := ⟨_, rfl⟩
        have HO1 := Lib.hid ho
        have HX1 := Lib.hid hx
        have hmp : 1000 + (m : Int) ∈ ports := mem_ports.2 (by omega)
        have HPar := Lib.hid (fun (hp : par p (1000 + (m : Int)) = true) (ho : o = false) => HE.out _ hmp hp (by rw [HO1.out]; exact ho))
        clear ho hx hmp
        cases o
        · cases hp : ((1000 + (m : Int)) % 2 == p % 2)
          · go_wp2_with fail
            refine (impl_IE HO1.out HX1.out rfl hl2 (SL.out _ hbr)).mono ?_
            rintro e w4 ⟨rfl, hb4⟩
            have hk4 := bstep hbr hb4 hbr.size
            have hk5 := hk4.alloc hk4.size (.cells #[.int .i64 x.a, .int .i64 x.q] 25)
            go_wp2
            go_roundw
            case rel => exact ⟨m + 1, by omega, by first | rfl | (congr 1; push_cast; omega), hk5⟩
            case measure => simp [intOf]; omega
          · have hpv : (v % 2 == p % 2) = true := HPar.out hp rfl
            go_wp2_with fail
            refine (impl_IE HO1.out HX1.out rfl hl2 (SL.out _ hbr)).mono ?_
            rintro e w4 ⟨rfl, hb4⟩
            have hk4 := bstep hbr hb4 hbr.size
            have hk5 := hk4.alloc hk4.size (.cells #[.int .i64 x.a, .int .i64 x.q] 25)
            go_wp2
            go_ret
            exact ⟨by simp [hpv], HB.out.trans (hk5.mono HB.out.size)⟩
        · go_wp2_with fail
          refine (impl_IE HO1.out HX1.out rfl hl2 (SL.out _ hbr)).mono ?_
          rintro e w4 ⟨rfl, hb4⟩
          have hk4 := bstep hbr hb4 hbr.size
          have hk5 := hk4.alloc hk4.size (.cells #[.int .i64 x.a, .int .i64 x.q] 25)
          go_wp2
          go_roundw
          case rel => exact ⟨m + 1, by omega, by first | rfl | (congr 1; push_cast; omega), hk5⟩
          case measure => simp [intOf]; omega
      · go_wp2
        go_ret
        exact ⟨rfl, HB.out.trans (hbr.mono HB.out.size)⟩
end Go.Proofs.Ytmnoooekppmkkaa
