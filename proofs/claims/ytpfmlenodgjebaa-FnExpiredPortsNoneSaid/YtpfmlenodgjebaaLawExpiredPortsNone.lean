/- The walk of FnExpiredPortsNone. -/
import Derived.Test.YtpfmlenodgjebaaTc
namespace Go.Proofs.Ytpfmlenodgjebaa
open Go.RowKit
set_option maxHeartbeats 4000000 in
theorem FnExpiredPortsNone_walk (A : Option Addr) (c : Nat) (l : List Int) (w : World) (hi : CodeIn w A c l) :
    Calls Try.prog 21 #[.slice A l.length c] w (Ret w (.bool true)) := by
  have hc := hi.1
  have hlc := hi.2.1.1
  unfold maxLen at hc
  have HI := Lib.hid hi
  clear hi
  by_cases hbig : 1048576 < l.length
  · go_enter Try.func21, Try.ntmps21
    go_wp2
    go_ret
    exact ⟨rfl, Below.refl _ _⟩
  go_enter Try.func21, Try.ntmps21
  go_wp2_with fail
  refine (DrawExpiredPorts_ _ _ _ _ HI.out).mono ?_
  rintro e w1 ⟨A1, c1, l1, n, h, rfl, hl1, ⟨hn0, hn1⟩, ⟨hh0, hh1⟩, ho, hb⟩
  have SL := Lib.hid (fun W (g : Below w1.heap.size w1 W) => ho.sl.below g)
  have HB := Lib.hid hb
  have hk : Below w1.heap.size w1 w1 := Below.refl _ _
  have hl2 : l1.length ≤ 2000000 := by omega
  clear hb ho
  obtain ⟨L, hL⟩ : ∃ L, goneV l1 n h = L := ⟨_, rfl⟩
  have hLl : L.length ≤ l1.length := by have := goneV_len l1 n h; rwa [hL] at this
  have hLL : L.length ≤ 2000000 := by omega
  have R := Lib.hid hL
  clear hL
  go_wp2_with fail
  refine (impl_EP R.out rfl rfl hl2 (SL.out _ hk)).mono ?_
  rintro e w2 ⟨A2, rfl, ho2, hb2⟩
  have O2 := Lib.hid (fun W (g : Below w2.heap.size w2 W) => ho2.below g)
  have hk2 := hb2
  clear ho2 hb2
  go_wp2_with fail
  refine (spec_EP R.out rfl rfl hl2 (SL.out _ hk2)).mono ?_
  rintro e w3 ⟨A3, c3, rfl, ho3, hb3⟩
  have O3 := Lib.hid (fun W (g : Below w3.heap.size w3 W) => ho3.below g)
  have hk3 := bstep hk2 hb3 hk2.size
  have hj3 := hb3
  clear ho3 hb3
  go_wp2_with fail
  refine (eqIn (l := L) (l' := L) (decide_eq_true rfl) rfl rfl hLL hLL (O2.out w3 hj3).1 (O3.out w3 (Below.refl _ _)).sl).mono ?_
  rintro e w4 ⟨rfl, hb4⟩
  have hk4 := bstep hk3 hb4 hk3.size
  have hj4 := bstep hj3 hb4 hj3.size
  clear hb4
  by_cases h0 : L.length = 0
  · have hz : ((L.length : Int) == 0) = true := by rw [h0]; rfl
    clear h0
    go_wp2_with fail
    refine (spec_EP R.out rfl rfl hl2 (SL.out _ hk4)).mono ?_
    rintro e wa ⟨Aa, ca, rfl, hoa, hba⟩
    have hka := bstep hk4 hba hk4.size
    have hja := bstep hj4 hba hj4.size
    have OA := Lib.hid hoa
    clear hoa
    go_wp2_with fail
    refine (eqIn (l := L) (l' := L) (decide_eq_true rfl) rfl rfl hLL hLL (O2.out wa hja).1 OA.out.sl).mono ?_
    rintro e wb ⟨rfl, hbb⟩
    have hkb := bstep hka hbb hka.size
    go_wp2
    go_ret
    exact ⟨by simp, HB.out.trans (hkb.mono HB.out.size)⟩
  have hz : ((L.length : Int) == 0) = false := by rw [beq_eq_false_iff_ne]; omega
  obtain ⟨p, I, hLI⟩ : ∃ p I, L = p :: I := List.exists_cons_of_ne_nil (by rintro rfl; exact h0 rfl)
  have hgt := gone_touch (l := l1) (now := n) (hold := h) (p := p) (R := I) (by rw [R.out, hLI])
  obtain ⟨L2, hL2⟩ : ∃ L2, touchV l1 p n = L2 := ⟨_, rfl⟩
  rw [hL2] at hgt
  have hL2l : L2.length ≤ l1.length := by have := touchV_len l1 p n; rwa [hL2] at this
  have hLL2 : L2.length ≤ 2000000 := by omega
  have T1 := Lib.hid hgt.1
  have T2 := Lib.hid hgt.2
  have T3 := Lib.hid hL2
  have LI := Lib.hid hLI
  have hx0 : L[0]? = some p := by rw [hLI]; rfl
  have hdr : L.drop 1 = I := by rw [hLI]; rfl
  have DR := Lib.hid hdr
  have hIl : I.length + 1 = L.length := by rw [hLI]; rfl
  have HIL := Lib.hid hIl
  have hII : I.length ≤ 2000000 := by omega
  obtain ⟨b, o, hA2, hbs, hc⟩ := (O2.out w4 hj4).1.base (i := 0) (by omega)
  subst hA2
  have d0 := hc.inn (Below.refl _ _) hbs hx0
  simp only [Nat.add_zero] at d0
  have hL1 : 1 ≤ L.length := by omega
  clear hgt hL2 hLI hx0 hdr hIl hc h0
  go_wp2_with fail
  refine (impl_TP T3.out T1.out rfl rfl hl2 (SL.out _ hk4)).mono ?_
  rintro e w5 ⟨A5, rfl, ho5, hb5⟩
  have O5 := Lib.hid (fun W (g : Below w5.heap.size w5 W) => ho5.below g)
  have hk5 := bstep hk4 hb5 hk4.size
  have hj5 := bstep hj4 hb5 hj4.size
  clear ho5 hb5 d0
  have TS := Lib.hid (fun W (g : Below w5.heap.size w5 W) => (show Sl encI 1 W (if L.length = 1 then some ⟨b, o, none⟩ else (some ⟨b, o, none⟩ : Option Addr).map (·.add (1 * 1))) (L.length - 1) I by have := (O2.out W (bstep hj5 g hj5.size)).1.drop 1 hL1; rwa [DR.out] at this))
  obtain ⟨n1, hn1l⟩ : ∃ n1, I.length = n1 := ⟨_, rfl⟩
  have hL1n : L.length = n1 + 1 := by have := HIL.out; omega
  have TS2 := Lib.hid (fun W (g : Below w5.heap.size w5 W) => (show Sl encI 1 W (if n1 + 1 = 1 then some ⟨b, o, none⟩ else some ⟨b, o + 1, none⟩) n1 I by have := TS.out W g; rw [hL1n] at this; simpa [Addr.add] using this))
  have HN1 := Lib.hid hn1l.symm
  have HII := Lib.hid hII
  rcases Nat.eq_zero_or_pos n1 with hz1 | hz1
  · subst hz1
    have TS3 := Lib.hid (fun W (g : Below w5.heap.size w5 W) => (show Sl encI 1 W (some ⟨b, o, none⟩) 0 I by have := TS2.out W g; simpa using this))
    go_wp2
    go_region_held3 (fun W => Below w5.heap.size w5 W) (first | exact (Below.refl _ _).drew | assumption) (first | (go_at_call 44; refine (impl_EP T2.out HN1.out.symm rfl hLL2 (O5.out _ (by assumption)).1).mono ?_; rintro e w6 ⟨A6, rfl, ho6, hb6⟩; have hk6 := bstep (B := w5.heap.size) (a := w5) (by assumption) hb6 (Below.size (by assumption))) | (go_at_call 53; refine (eqIn (l := I) (l' := I) (decide_eq_true rfl) HN1.out HN1.out HII.out HII.out ho6.1 (TS3.out _ hk6)).mono ?_; rintro e w7 ⟨rfl, hb7⟩; have hk7 := bstep hk6 hb7 hk6.size))
    all_goals
      go_wp2
      go_ret
      exact ⟨by simp, HB.out.trans ((bstep hk5 hk7 hk5.size).mono HB.out.size)⟩
  · have TS3 := Lib.hid (fun W (g : Below w5.heap.size w5 W) => (show Sl encI 1 W (some ⟨b, o + 1, none⟩) n1 I by have := TS2.out W g; rwa [if_neg (by omega)] at this))
    have q1 : 1 ≤ n1 + 1 := by omega
    have q2 : (1 : Int) ≤ (n1 : Int) + 1 := by omega
    have q3 : ¬ n1 + 1 = 1 := by omega
    have q4 : ¬ n1 = 0 := by omega
    go_wp2
    go_region_held3 (fun W => Below w5.heap.size w5 W) (first | exact (Below.refl _ _).drew | assumption) (first | (go_at_call 44; refine (impl_EP T2.out HN1.out.symm rfl hLL2 (O5.out _ (by assumption)).1).mono ?_; rintro e w6 ⟨A6, rfl, ho6, hb6⟩; have hk6 := bstep (B := w5.heap.size) (a := w5) (by assumption) hb6 (Below.size (by assumption))) | (go_at_call 53; refine (eqIn (l := I) (l' := I) (decide_eq_true rfl) HN1.out HN1.out HII.out HII.out ho6.1 (TS3.out _ hk6)).mono ?_; rintro e w7 ⟨rfl, hb7⟩; have hk7 := bstep hk6 hb7 hk6.size))
    all_goals
      go_wp2
      go_ret
      exact ⟨by simp, HB.out.trans ((bstep hk5 hk7 hk5.size).mono HB.out.size)⟩
end Go.Proofs.Ytpfmlenodgjebaa
