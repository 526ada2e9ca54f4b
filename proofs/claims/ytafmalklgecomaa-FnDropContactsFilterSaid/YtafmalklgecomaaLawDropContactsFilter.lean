/- The walk of FnDropContactsFilter. -/
import Derived.Test.YtafmalklgecomaaCk
namespace Go.Proofs.Ytafmalklgecomaa
open Go.RowKit
set_option maxHeartbeats 4000000 in
theorem FnDropContactsFilter_walk (A : Option Addr) (c : Nat) (l : List Int) (w : World) (hi : CodeIn w A c l) :
    Calls Try.prog 15 #[.slice A l.length c] w (Ret w (.bool true)) := by
  have hc := hi.1
  have hlc := hi.2.1.1
  unfold maxLen at hc
  have HI := Lib.hid hi
  clear hi
  by_cases hbig : 1048576 < l.length
  · go_enter Try.func15, Try.ntmps15
    go_wp2
    go_ret
    exact ⟨rfl, Below.refl _ _⟩
  go_enter Try.func15, Try.ntmps15
  go_wp2_with fail
  refine (DrawDropContacts_ _ _ _ _ HI.out).mono ?_
  rintro e wq ⟨A1, c1, l1, p, rfl, hl1, ho, hb⟩
  have SL := Lib.hid (fun W (h : Below wq.heap.size wq W) => ho.sl.below h)
  have HB := Lib.hid hb
  have hk : Below wq.heap.size wq wq := Below.refl _ _
  have hl2 : l1.length ≤ 2000000 := by omega
  clear hb ho
  obtain ⟨D, hD⟩ : ∃ D, dropV l1 p = D := ⟨_, rfl⟩
  obtain ⟨n, hn⟩ : ∃ n, D.length = n := ⟨_, rfl⟩
  have hle : n ≤ l1.length := by
    rw [← hn, ← hD]; unfold dropV; split
    · exact (dropC_sub l1 p).length_le
    · simp
  have HD := Lib.hid hD
  have HN := Lib.hid hn
  have hD2 : D.length ≤ 2000000 := by omega
  clear hD hn
  go_wp2_with fail
  refine (Drop HD.out HN.out rfl hl2 (SL.out _ hk)).mono ?_
  rintro e w3 ⟨A3, rfl, hout, hb3⟩
  have hk3 : Below wq.heap.size wq w3 := bstep hk hb3 hk.size
  have HO3 := Lib.hid hout
  clear hout
  go_wp2_with fail
  refine (spec_Drop HD.out HN.out rfl hl2 (SL.out _ hk3)).mono ?_
  rintro e w4 ⟨A4, c4, rfl, hown, hb4⟩
  have hk4 : Below wq.heap.size wq w4 := bstep hk3 hb4 hk3.size
  have HO4 := Lib.hid (HO3.out.below hb4)
  have HW4 := Lib.hid hown
  clear hown
  go_wp2_with fail
  refine (eqCts (l := D) (l' := D) (r := true) (decide_eq_true rfl) HN.out.symm HN.out.symm hD2 hD2 HO4.out.1 HW4.out.sl).mono ?_
  rintro e w5 ⟨rfl, hb5⟩
  have hk5 : Below wq.heap.size wq w5 := bstep hk4 hb5 hk4.size
  have HO := Lib.hid (HO4.out.below hb5)
  have SL5 := Lib.hid (fun W (h : Below w5.heap.size w5 W) => SL.out W (hk5.trans (h.mono hk5.size)))
  have OL5 := Lib.hid (fun W (h : Below w5.heap.size w5 W) => HO.out.1.below h)
  have HB5 := Lib.hid (HB.out.trans (hk5.mono HB.out.size))
  clear hb3 hb4 hb5 hk hk3 hk4 hk5 HO4 HO3 HW4 SL
  have hk : Below w5.heap.size w5 w5 := Below.refl _ _
  go_wp2
  go_loopw [6] (fun i wr => ∃ m : Nat, m ≤ l1.length ∧ i = .int .i64 m ∧ Below w5.heap.size w5 wr) (fun i _ => l1.length - (intOf i).toNat)
  case atStart => exact ⟨0, Nat.zero_le _, rfl, hk⟩
  case round =>
    obtain ⟨m, hm, rfl, hbr⟩ := hrel
    by_cases hlt : m < l1.length
    · obtain ⟨b, o, rfl, hbs, hcr⟩ := (SL5.out wr hbr).base hlt
      obtain ⟨p', a', q', hx⟩ := ct_at hlt
      obtain ⟨d0, d1, d2⟩ := hcr.ct (Below.refl wr.heap.size wr) hbs hx
      have L1 := Lib.hid (show letsIn 1 D p a' q' = false by rw [← HD.out]; exact dropV_closed _ _ _ _)
      clear hcr hx
      go_wp2_with fail
      refine (impl_LI L1.out HN.out.symm hD2 (OL5.out _ hbr)).mono ?_
      rintro e w6 ⟨rfl, hb6⟩
      have hb7 := bstep hbr hb6 hbr.size
      go_wp2
      go_roundw
      case rel => exact ⟨m + 1, by omega, by go_num, hb7⟩
      case measure => simp [intOf]; omega
    · go_wp2
      go_ret
      exact ⟨rfl, HB5.out.trans (hbr.mono HB5.out.size)⟩
end Go.Proofs.Ytafmalklgecomaa
