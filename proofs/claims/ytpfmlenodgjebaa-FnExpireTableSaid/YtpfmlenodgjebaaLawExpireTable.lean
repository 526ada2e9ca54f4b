/- The walk of FnExpireTable. -/
import Derived.Test.YtpfmlenodgjebaaTc
namespace Go.Proofs.Ytpfmlenodgjebaa
open Go.RowKit
set_option maxHeartbeats 4000000 in
theorem FnExpireTable_walk (A : Option Addr) (c : Nat) (l : List Int) (w : World) (hi : CodeIn w A c l) :
    Calls Try.prog 18 #[.slice A l.length c] w (Ret w (.bool true)) := by
  have hc := hi.1
  have hlc := hi.2.1.1
  unfold maxLen at hc
  have HI := Lib.hid hi
  clear hi
  by_cases hbig : 1048576 < l.length
  · go_enter Try.func18, Try.ntmps18
    go_wp2
    go_ret
    exact ⟨rfl, Below.refl _ _⟩
  go_enter Try.func18, Try.ntmps18
  go_wp2_with fail
  refine (DrawExpireTable_ _ _ _ _ HI.out).mono ?_
  rintro e w1 ⟨A1, c1, l1, n, h, rfl, hl1, ⟨hn0, hn1⟩, ⟨hh0, hh1⟩, ho, hb⟩
  have SL := Lib.hid (fun W (g : Below w1.heap.size w1 W) => ho.sl.below g)
  have HB := Lib.hid hb
  have hk : Below w1.heap.size w1 w1 := Below.refl _ _
  have hl2 : l1.length ≤ 2000000 := by omega
  clear hb ho
  obtain ⟨L, hL⟩ : ∃ L, expV l1 n h = L := ⟨_, rfl⟩
  have hLl : L.length ≤ l1.length := by have := exp_len l1 n h; rwa [hL] at this
  have hLL : L.length ≤ 2000000 := by omega
  have R := Lib.hid hL
  clear hL
  go_wp2_with fail
  refine (impl_ET R.out rfl rfl hl2 (SL.out _ hk)).mono ?_
  rintro e w2 ⟨A2, rfl, ho2, hb2⟩
  have O2 := Lib.hid (fun W (g : Below w2.heap.size w2 W) => ho2.below g)
  have hk2 := hb2
  clear ho2 hb2
  go_wp2_with fail
  refine (spec_ET R.out rfl rfl hl2 (SL.out _ hk2)).mono ?_
  rintro e w3 ⟨A3, c3, rfl, ho3, hb3⟩
  have O3 := Lib.hid (fun W (g : Below w3.heap.size w3 W) => ho3.below g)
  have hk3 := bstep hk2 hb3 hk2.size
  have hj3 := hb3
  clear ho3 hb3
  go_wp2_with fail
  refine (eqTbs (l := L) (l' := L) (decide_eq_true rfl) rfl rfl hLL hLL (O2.out w3 hj3).1 (O3.out w3 (Below.refl _ _)).sl).mono ?_
  rintro e w4 ⟨rfl, hb4⟩
  have hk4 := bstep hk3 hb4 hk3.size
  have hj4 := bstep hj3 hb4 hj3.size
  clear hb4
  cases hv : vM l1
  · have HV := Lib.hid hv
    clear hv
    go_wp2_with fail
    refine (impl_VT HV.out rfl hl2 (SL.out _ hk4)).mono ?_
    rintro e w5 ⟨rfl, hb5⟩
    have hk5 := bstep hk4 hb5 hk4.size
    have hj5 := bstep hj4 hb5 hj4.size
    clear hb5
    go_wp2_with fail
    refine (spec_ET R.out rfl rfl hl2 (SL.out _ hk5)).mono ?_
    rintro e wa ⟨Aa, ca, rfl, hoa, hba⟩
    have hka := bstep hk5 hba hk5.size
    have hja := bstep hj5 hba hj5.size
    have OA := Lib.hid hoa
    clear hoa
    go_wp2_with fail
    refine (eqTbs (l := L) (l' := L) (decide_eq_true rfl) rfl rfl hLL hLL (O2.out wa hja).1 OA.out.sl).mono ?_
    rintro e wb ⟨rfl, hbb⟩
    have hkb := bstep hka hbb hka.size
    go_wp2
    go_ret
    exact ⟨by simp, HB.out.trans (hkb.mono HB.out.size)⟩
  have HV := Lib.hid hv
  clear hv
  by_cases g : n < 0
  · go_wp2_with fail
    refine (impl_VT HV.out rfl hl2 (SL.out _ hk4)).mono ?_
    rintro e w5 ⟨rfl, hb5⟩
    have hk5 := bstep hk4 hb5 hk4.size
    have hj5 := bstep hj4 hb5 hj4.size
    clear hb5
    go_wp2_with fail
    refine (spec_ET R.out rfl rfl hl2 (SL.out _ hk5)).mono ?_
    rintro e wa ⟨Aa, ca, rfl, hoa, hba⟩
    have hka := bstep hk5 hba hk5.size
    have hja := bstep hj5 hba hj5.size
    have OA := Lib.hid hoa
    clear hoa
    go_wp2_with fail
    refine (eqTbs (l := L) (l' := L) (decide_eq_true rfl) rfl rfl hLL hLL (O2.out wa hja).1 OA.out.sl).mono ?_
    rintro e wb ⟨rfl, hbb⟩
    have hkb := bstep hka hbb hka.size
    go_wp2
    go_ret
    exact ⟨by simp, HB.out.trans (hkb.mono HB.out.size)⟩
  have ga := g
  clear g
  by_cases g : 10000 < n
  · go_wp2_with fail
    refine (impl_VT HV.out rfl hl2 (SL.out _ hk4)).mono ?_
    rintro e w5 ⟨rfl, hb5⟩
    have hk5 := bstep hk4 hb5 hk4.size
    have hj5 := bstep hj4 hb5 hj4.size
    clear hb5
    go_wp2_with fail
    refine (spec_ET R.out rfl rfl hl2 (SL.out _ hk5)).mono ?_
    rintro e wa ⟨Aa, ca, rfl, hoa, hba⟩
    have hka := bstep hk5 hba hk5.size
    have hja := bstep hj5 hba hj5.size
    have OA := Lib.hid hoa
    clear hoa
    go_wp2_with fail
    refine (eqTbs (l := L) (l' := L) (decide_eq_true rfl) rfl rfl hLL hLL (O2.out wa hja).1 OA.out.sl).mono ?_
    rintro e wb ⟨rfl, hbb⟩
    have hkb := bstep hka hbb hka.size
    go_wp2
    go_ret
    exact ⟨by simp, HB.out.trans (hkb.mono HB.out.size)⟩
  have gb := g
  clear g
  by_cases g : h < 1
  · go_wp2_with fail
    refine (impl_VT HV.out rfl hl2 (SL.out _ hk4)).mono ?_
    rintro e w5 ⟨rfl, hb5⟩
    have hk5 := bstep hk4 hb5 hk4.size
    have hj5 := bstep hj4 hb5 hj4.size
    clear hb5
    go_wp2_with fail
    refine (spec_ET R.out rfl rfl hl2 (SL.out _ hk5)).mono ?_
    rintro e wa ⟨Aa, ca, rfl, hoa, hba⟩
    have hka := bstep hk5 hba hk5.size
    have hja := bstep hj5 hba hj5.size
    have OA := Lib.hid hoa
    clear hoa
    go_wp2_with fail
    refine (eqTbs (l := L) (l' := L) (decide_eq_true rfl) rfl rfl hLL hLL (O2.out wa hja).1 OA.out.sl).mono ?_
    rintro e wb ⟨rfl, hbb⟩
    have hkb := bstep hka hbb hka.size
    go_wp2
    go_ret
    exact ⟨by simp, HB.out.trans (hkb.mono HB.out.size)⟩
  have gc := g
  clear g
  by_cases g : 500 < h
  · go_wp2_with fail
    refine (impl_VT HV.out rfl hl2 (SL.out _ hk4)).mono ?_
    rintro e w5 ⟨rfl, hb5⟩
    have hk5 := bstep hk4 hb5 hk4.size
    have hj5 := bstep hj4 hb5 hj4.size
    clear hb5
    go_wp2_with fail
    refine (spec_ET R.out rfl rfl hl2 (SL.out _ hk5)).mono ?_
    rintro e wa ⟨Aa, ca, rfl, hoa, hba⟩
    have hka := bstep hk5 hba hk5.size
    have hja := bstep hj5 hba hj5.size
    have OA := Lib.hid hoa
    clear hoa
    go_wp2_with fail
    refine (eqTbs (l := L) (l' := L) (decide_eq_true rfl) rfl rfl hLL hLL (O2.out wa hja).1 OA.out.sl).mono ?_
    rintro e wb ⟨rfl, hbb⟩
    have hkb := bstep hka hbb hka.size
    go_wp2
    go_ret
    exact ⟨by simp, HB.out.trans (hkb.mono HB.out.size)⟩
  have gd := g
  clear g
  have ht : tim l1 n h = true := tim_iff.2 ⟨HV.out, by omega, by omega⟩
  have KL := Lib.hid (show keep (exq n h) l1 = L by rw [← exp_eq ht]; exact R.out)
  have HVL := Lib.hid (show vM L = true by rw [← R.out]; exact exp_vM ht)
  have HLL := Lib.hid (fun x hx => last_in HV.out (x := x) hx)
  clear ht
  go_wp2_with fail
  refine (impl_VT HV.out rfl hl2 (SL.out _ hk4)).mono ?_
  rintro e w5 ⟨rfl, hb5⟩
  have hk5 := bstep hk4 hb5 hk4.size
  have hj5 := bstep hj4 hb5 hj4.size
  clear hb5
  go_wp2
  go_loopw [7, 8] (fun kk i wr => ∃ (m k : Nat), m ≤ l1.length ∧ i = .int .i64 m ∧ kk = .int .i64 k ∧ k = (keep (exq n h) (l1.take m)).length ∧ Below w5.heap.size w5 wr) (fun _ i _ => l1.length - (intOf i).toNat)
  case atStart => exact ⟨0, 0, Nat.zero_le _, rfl, rfl, rfl, Below.refl _ _⟩
  case round =>
    obtain ⟨m, k, hm, rfl, rfl, hkk, hbr⟩ := hrel
    have HKK := Lib.hid hkk
    have hkm : k ≤ m := by
      rw [hkk]
      have : (keep (exq n h) (l1.take m)).length ≤ (l1.take m).length := List.length_filter_le _ _
      rw [List.length_take, Nat.min_eq_left hm] at this
      exact this
    clear hkk
    have hkr := bstep hk5 hbr hk5.size
    have hjr := bstep hj5 hbr hj5.size
    by_cases hlt : m < l1.length
    · obtain ⟨b, o, hA1, hbs, hc⟩ := (SL.out wr hkr).base hlt
      subst hA1
      obtain ⟨a, q, p, t, hx⟩ := mt_at hlt
      obtain ⟨d0, d1, d2, d3⟩ := hc.mt (Below.refl _ _) hbs hx
      obtain ⟨t0, t1⟩ := HLL.out _ (List.mem_of_getElem? hx)
      simp only at t0 t1
      have hF := keep_snoc (f := exq n h) hx
      have KF := Lib.hid hF
      by_cases he : h ≤ n - t
      · have hv : exq n h ⟨a, q, p, t⟩ = true := decide_eq_true he
        rw [hv, if_pos rfl, List.append_nil] at hF
        have KF2 := Lib.hid hF
        clear hc hx hF hv
        go_wp2
        go_roundw
        case rel => exact ⟨m + 1, k, by omega, by go_num, rfl, by rw [KF2.out]; exact HKK.out, hbr⟩
        case measure => simp [intOf]; omega
      · have hv : exq n h ⟨a, q, p, t⟩ = false := decide_eq_false he
        have hg := keep_get hx hv
        rw [KL.out, ← HKK.out] at hg
        rw [hv] at hF
        simp only [Bool.false_eq_true, if_false] at hF
        have KF2 := Lib.hid hF
        have hkL := lt_of_get hg
        obtain ⟨b', o', hA2, hbs', hc'⟩ := (O2.out wr hjr).1.base hkL
        subst hA2
        obtain ⟨e0, e1, e2, e3⟩ := hc'.mt (Below.refl _ _) hbs' hg
        have hg1 : decide ((L.length : Int) ≤ (k : Int)) = false := decide_eq_false (by omega)
        have hg2 : decide (L.length ≤ k) = false := decide_eq_false (by omega)
        have E2 := neqMp a q p t a q p t (decide_eq_true rfl)
        clear hc hx hF hv hc' hg
        go_wp2
        go_quiet (fail)
        go_wp2
        go_roundw
        case rel => exact ⟨m + 1, k + 1, by omega, by go_num, by go_num, by rw [KF2.out, List.length_append, ← HKK.out]; rfl, bdrewN hbr _⟩
        case measure => simp [intOf]; omega
    · have hkL : k = L.length := by rw [HKK.out, List.take_of_length_le (by omega), KL.out]
      have heq : ((k : Int) == (L.length : Int)) = true := by rw [hkL]; exact beq_self_eq_true _
      clear hkL
      go_wp2_with fail
      refine (impl_VT HVL.out rfl hLL (O2.out wr hjr).1).mono ?_
      rintro e w6 ⟨rfl, hb6⟩
      have hk6 := bstep hkr hb6 hkr.size
      go_wp2
      go_ret
      exact ⟨by simp, HB.out.trans (hk6.mono HB.out.size)⟩
end Go.Proofs.Ytpfmlenodgjebaa
