/- TouchPort: the program's, walked. -/
import Derived.Test.YtpfmlenodgjebaaMn
namespace Go.Proofs.Ytpfmlenodgjebaa
open Go.RowKit
set_option maxHeartbeats 2000000 in
theorem impl_TouchPort (A : Option Addr) (c n : Nat) (l : List Mp) (port now : Int) (w : World) (hn : n = l.length) (hl : l.length ≤ 2000000) (hs : Sl encM 4 w A c l) :
    Calls Try.prog 32 #[.slice A n c, .int .i64 port, .int .i64 now] w (fun e w' => ∃ A', e = .returned (.tuple #[.slice A' (touchV l port now).length (touchV l port now).length, .bool (touchO l port now)]) ∧ Out encM 4 w.heap.size w' A' (touchV l port now).length (touchV l port now) ∧ Below w.heap.size w w') := by
  subst hn
  have SL := Lib.hid (fun W (h : Below w.heap.size w W) => hs.below h)
  have hk : Below w.heap.size w w := Below.refl _ _
  have NIL := Lib.hid (fun W => (⟨Sl.nil, Fr.nil⟩ : Out encM 4 w.heap.size W none 0 ([] : List Mp)))
  clear hs
  obtain ⟨e, he⟩ : ∃ e, byP l port = e := ⟨_, rfl⟩
  have HE := Lib.hid he
  cases hv : vM l
  · have ho : touchO l port now = false := by unfold touchO; rw [hv]; rfl
    have hr : touchV l port now = [] := by unfold touchV; rw [ho]; rfl
    rw [ho, hr]
    have HV := Lib.hid hv
    clear hv hr ho he
    go_enter Try.func32, Try.ntmps32
    go_wp2_with fail
    refine (impl_byPort _ _ _ _ _ _ rfl hl (SL.out _ hk)).mono ?_
    rintro e w2 ⟨rfl, hb2⟩
    rw [HE.out]
    go_wp2_with fail
    refine (impl_ValidTable _ _ _ _ _ rfl hl (SL.out _ hb2)).mono ?_
    rintro e w3 ⟨rfl, hb3⟩
    rw [HV.out]
    have hk3 := bstep hb2 hb3 hb2.size
    go_wp2
    go_ret2
    exact ⟨none, rfl, NIL.out _, hk3⟩
  cases h2 : inR now 0 10000
  · have ho : touchO l port now = false := by unfold touchO; rw [hv, h2]; rfl
    have hr : touchV l port now = [] := by unfold touchV; rw [ho]; rfl
    rw [ho, hr]
    have HV := Lib.hid hv
    have H2 := Lib.hid h2
    clear hv hr ho he h2
    go_enter Try.func32, Try.ntmps32
    go_wp2_with fail
    refine (impl_byPort _ _ _ _ _ _ rfl hl (SL.out _ hk)).mono ?_
    rintro e w2 ⟨rfl, hb2⟩
    rw [HE.out]
    go_wp2_with fail
    refine (impl_ValidTable _ _ _ _ _ rfl hl (SL.out _ hb2)).mono ?_
    rintro e w3 ⟨rfl, hb3⟩
    rw [HV.out]
    have hk3 := bstep hb2 hb3 hb2.size
    go_wp2_with (first | (go_at_call 65; refine (impl_isTime _ _).mono ?_; rintro e w' ⟨rfl, rfl⟩; rw [H2.out]))
    go_ret2
    exact ⟨none, rfl, NIL.out _, hk3⟩
  by_cases h0 : 0 ≤ e
  · obtain ⟨k, x, hkx, hx, hp, hnn⟩ := idx_pos (p := sameP port) (l := l) (by unfold byP at he; omega)
    have hu : used l port = true := List.any_eq_true.2 ⟨x, List.mem_of_getElem? hx, hp⟩
    have ho : touchO l port now = true := by unfold touchO; rw [hv, h2, hu]; rfl
    have hr : touchV l port now = touchR l port now := by unfold touchV; rw [ho]; rfl
    rw [ho, hr, touch_found hx hp hnn]
    have hek : e = (k : Int) := by unfold byP at he; omega
    subst hek
    obtain ⟨a, q, p, t⟩ := x
    have hkl := lt_of_get hx
    have X := Lib.hid hx
    have hl1 : l ≠ [] := by rintro rfl; simp at hx
    have HV := Lib.hid hv
    have H2 := Lib.hid h2
    clear he hkx hx hp hnn hu ho hr hv h2
    rcases Int.lt_trichotomy t now with hmx | hmx | hmx
    · have MX := Lib.hid (show max t now = now from by omega)
      go_enter Try.func32, Try.ntmps32
      go_wp2_with fail
      refine (impl_byPort _ _ _ _ _ _ rfl hl (SL.out _ hk)).mono ?_
      rintro e w2 ⟨rfl, hb2⟩
      rw [HE.out]
      go_wp2_with fail
      refine (impl_ValidTable _ _ _ _ _ rfl hl (SL.out _ hb2)).mono ?_
      rintro e w3 ⟨rfl, hb3⟩
      rw [HV.out]
      have hk3 := bstep hb2 hb3 hb2.size
      go_wp2_with (first | (go_at_call 65; refine (impl_isTime _ _).mono ?_; rintro e w' ⟨rfl, rfl⟩; rw [H2.out]))
      refine (clone_mt _ _ _ _ _ rfl hl (SL.out _ hk3)).mono ?_
      rintro e w5 ⟨A5, c5, rfl, how5, hb5⟩
      have hk5 := bstep hk3 hb5 hk3.size
      have HB6 := Lib.hid hk5
      have H6 := Lib.hid (how5.base hk3.size)
      clear how5 hb5 hk hb2 hb3 hk3 hk5
      obtain ⟨g3, rfl, hgB, hlc3, hcm3, hbl3⟩ := H6.out.resolve_left (by rintro ⟨_, _, h⟩; exact hl1 h)
      obtain ⟨⟨d0, d1, d2, d3⟩, f0, f1, f2, f3⟩ := hbl3.mtAt X.out
      have BL3 := Lib.hid hbl3
      clear hbl3 hcm3 hlc3
      go_wp2
      go_ret2
      have hst := BL3.out.store (x := ⟨a, q, p, t⟩) (x' := ⟨a, q, p, max t now⟩) (u := .int .i64 (max t now)) (i := k) (j := 3) (fun _ => rfl) X.out (by decide) rfl
      rw [MX.out] at hst ⊢
      have ho := hst.outB hgB
      refine ⟨some ⟨g3, 0, none⟩, by rw [List.length_set]; rfl, ho, ?_⟩
      exact HB6.out.setCell (show w.heap.size ≤ g3 by omega) _
    · obtain rfl : now = t := hmx.symm
      have MX := Lib.hid (show max now now = now from by omega)
      go_enter Try.func32, Try.ntmps32
      go_wp2_with fail
      refine (impl_byPort _ _ _ _ _ _ rfl hl (SL.out _ hk)).mono ?_
      rintro e w2 ⟨rfl, hb2⟩
      rw [HE.out]
      go_wp2_with fail
      refine (impl_ValidTable _ _ _ _ _ rfl hl (SL.out _ hb2)).mono ?_
      rintro e w3 ⟨rfl, hb3⟩
      rw [HV.out]
      have hk3 := bstep hb2 hb3 hb2.size
      go_wp2_with (first | (go_at_call 65; refine (impl_isTime _ _).mono ?_; rintro e w' ⟨rfl, rfl⟩; rw [H2.out]))
      refine (clone_mt _ _ _ _ _ rfl hl (SL.out _ hk3)).mono ?_
      rintro e w5 ⟨A5, c5, rfl, how5, hb5⟩
      have hk5 := bstep hk3 hb5 hk3.size
      have HB6 := Lib.hid hk5
      have H6 := Lib.hid (how5.base hk3.size)
      clear how5 hb5 hk hb2 hb3 hk3 hk5
      obtain ⟨g3, rfl, hgB, hlc3, hcm3, hbl3⟩ := H6.out.resolve_left (by rintro ⟨_, _, h⟩; exact hl1 h)
      obtain ⟨⟨d0, d1, d2, d3⟩, f0, f1, f2, f3⟩ := hbl3.mtAt X.out
      have BL3 := Lib.hid hbl3
      clear hbl3 hcm3 hlc3
      go_wp2
      go_ret2
      have hst := BL3.out.store (x := ⟨a, q, p, now⟩) (x' := ⟨a, q, p, max now now⟩) (u := .int .i64 (max now now)) (i := k) (j := 3) (fun _ => rfl) X.out (by decide) rfl
      rw [MX.out] at hst ⊢
      have ho := hst.outB hgB
      refine ⟨some ⟨g3, 0, none⟩, by rw [List.length_set]; rfl, ho, ?_⟩
      exact HB6.out.setCell (show w.heap.size ≤ g3 by omega) _
    · have MX := Lib.hid (show max t now = t from by omega)
      go_enter Try.func32, Try.ntmps32
      go_wp2_with fail
      refine (impl_byPort _ _ _ _ _ _ rfl hl (SL.out _ hk)).mono ?_
      rintro e w2 ⟨rfl, hb2⟩
      rw [HE.out]
      go_wp2_with fail
      refine (impl_ValidTable _ _ _ _ _ rfl hl (SL.out _ hb2)).mono ?_
      rintro e w3 ⟨rfl, hb3⟩
      rw [HV.out]
      have hk3 := bstep hb2 hb3 hb2.size
      go_wp2_with (first | (go_at_call 65; refine (impl_isTime _ _).mono ?_; rintro e w' ⟨rfl, rfl⟩; rw [H2.out]))
      refine (clone_mt _ _ _ _ _ rfl hl (SL.out _ hk3)).mono ?_
      rintro e w5 ⟨A5, c5, rfl, how5, hb5⟩
      have hk5 := bstep hk3 hb5 hk3.size
      have HB6 := Lib.hid hk5
      have H6 := Lib.hid (how5.base hk3.size)
      clear how5 hb5 hk hb2 hb3 hk3 hk5
      obtain ⟨g3, rfl, hgB, hlc3, hcm3, hbl3⟩ := H6.out.resolve_left (by rintro ⟨_, _, h⟩; exact hl1 h)
      obtain ⟨⟨d0, d1, d2, d3⟩, f0, f1, f2, f3⟩ := hbl3.mtAt X.out
      have BL3 := Lib.hid hbl3
      clear hbl3 hcm3 hlc3
      go_wp2
      go_ret2
      have hst := BL3.out.store (x := ⟨a, q, p, t⟩) (x' := ⟨a, q, p, max t now⟩) (u := .int .i64 (max t now)) (i := k) (j := 3) (fun _ => rfl) X.out (by decide) rfl
      rw [MX.out] at hst ⊢
      have ho := hst.outB hgB
      refine ⟨some ⟨g3, 0, none⟩, by rw [List.length_set]; rfl, ho, ?_⟩
      exact HB6.out.setCell (show w.heap.size ≤ g3 by omega) _
  · have hu : used l port = false := by rw [← byP_used, he]; exact decide_eq_false h0
    have ho : touchO l port now = false := by unfold touchO; rw [hv, h2, hu]; rfl
    have hr : touchV l port now = [] := by unfold touchV; rw [ho]; rfl
    rw [ho, hr]
    have HV := Lib.hid hv
    have H2 := Lib.hid h2
    clear hv hr ho he h2 hu
    go_enter Try.func32, Try.ntmps32
    go_wp2_with fail
    refine (impl_byPort _ _ _ _ _ _ rfl hl (SL.out _ hk)).mono ?_
    rintro e w2 ⟨rfl, hb2⟩
    rw [HE.out]
    go_wp2_with fail
    refine (impl_ValidTable _ _ _ _ _ rfl hl (SL.out _ hb2)).mono ?_
    rintro e w3 ⟨rfl, hb3⟩
    rw [HV.out]
    have hk3 := bstep hb2 hb3 hb2.size
    go_wp2_with (first | (go_at_call 65; refine (impl_isTime _ _).mono ?_; rintro e w' ⟨rfl, rfl⟩; rw [H2.out]))
    go_ret2
    exact ⟨none, rfl, NIL.out _, hk3⟩
end Go.Proofs.Ytpfmlenodgjebaa
