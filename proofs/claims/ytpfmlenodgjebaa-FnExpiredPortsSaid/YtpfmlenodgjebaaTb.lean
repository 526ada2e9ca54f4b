/- ExpiredPorts, NextExpiry, TouchPort: the program's and the reference's, walked. -/
import Derived.Test.YtpfmlenodgjebaaTa
namespace Go.Proofs.Ytpfmlenodgjebaa
open Go.RowKit
theorem elI : ElT Try.prog 49 3 encI 1 8 0 where
  ht := Try.underlying49
  hi := by
    obtain ⟨i, h1, h2, h3, h4⟩ := info_parts (P := Try.prog) (e := 3) (z := .int .i64 0) (size := 1) (bytes := 8) (by kernel_rfl)
    exact ⟨i, _, h1, h2, rfl, h3, h4⟩
  hk := fun _ => rfl
  h1 := fun x u hu => by simp [encI] at hu; subst hu; rfl
  k0 := by decide
theorem blI (w : World) (x : Int) : Bl encI 1 3 (w.alloc (.cells #[.int .i64 x] 3)) w.heap.size 1 [x] := Bl.one (enc := encI) (k := 1) (fun _ => rfl) w _ rfl
theorem Clip_in (A : Option Addr) (c n : Nat) (w : World) (hn : n ≤ c) (hc : c ≤ maxLen) :
    Calls Try.prog 82 #[.slice A n c] w (Same w (.slice A n n)) := by
  unfold maxLen at hc
  go_enter Try.func82, Try.ntmps82
  go_wp2
  go_ret
  exact ⟨rfl, rfl⟩
set_option maxHeartbeats 2000000 in
theorem spec_ExpiredPorts (A : Option Addr) (c n : Nat) (l : List Mp) (now hold : Int) (w : World) (hn : n = l.length) (hl : l.length ≤ 2000000) (hs : Sl encM 4 w A c l) :
    Calls Try.prog 43 #[.slice A n c, .int .i64 now, .int .i64 hold] w (fun e w' => ∃ A' c', e = .returned (.slice A' (goneV l now hold).length c') ∧ Ow encI 1 3 w.heap.size w' A' c' (goneV l now hold) ∧ Below w.heap.size w w') := by
  subst hn
  obtain ⟨wa, hwq⟩ : ∃ x, x = w.alloc (.cells #[] 3) := ⟨_, rfl⟩
  have hq : Below w.heap.size w wa := by subst hwq; exact (Below.refl _ _).alloc (Nat.le_refl _) _
  have hwo : Ow encI 1 3 w.heap.size wa (some ⟨w.heap.size, 0, none⟩) 0 ([] : List Int) := by subst hwq; exact Ow.empty w (Nat.le_refl _)
  have HWO := Lib.hid hwo
  have SL := Lib.hid (fun W (h : Below w.heap.size w W) => hs.below h)
  have hk := hq
  have WQ := Lib.hid hwq
  clear hs hwo hwq
  cases h1 : vM l
  · have hr : goneV l now hold = [] := by unfold goneV tim; rw [h1]; rfl
    rw [hr]
    have H1 := Lib.hid h1
    clear h1 hr
    go_enter Try.func43, Try.ntmps43
    go_wp2_with fail
    rw [← WQ.out]
    refine (spec_validTable _ _ _ _ _ rfl hl (SL.out _ hk)).mono ?_
    rintro e w2 ⟨rfl, hb2⟩
    rw [H1.out]
    go_wp2
    go_ret
    exact ⟨none, 0, rfl, Ow.nil, bstep hq hb2 hq.size⟩
  cases h2 : (inR now 0 10000 && inR hold 1 500)
  · have hr : goneV l now hold = [] := by unfold goneV tim; rw [h1, h2]; rfl
    rw [hr]
    have H1 := Lib.hid h1
    have H2 := Lib.hid h2
    clear h1 h2 hr
    go_enter Try.func43, Try.ntmps43
    go_wp2_with fail
    rw [← WQ.out]
    refine (spec_validTable _ _ _ _ _ rfl hl (SL.out _ hk)).mono ?_
    rintro e w2 ⟨rfl, hb2⟩
    rw [H1.out]
    go_wp2_with (first | (go_at_call 79; refine (spec_validTimer _ _ _).mono ?_; rintro e w' ⟨rfl, rfl⟩; rw [H2.out]))
    go_ret
    exact ⟨none, 0, rfl, Ow.nil, bstep hq hb2 hq.size⟩
  have ht : tim l now hold = true := by unfold tim; rw [h1, h2]; rfl
  have hr : goneV l now hold = goneOf now hold l := by unfold goneV; rw [ht]; rfl
  rw [hr]
  obtain ⟨hv, ⟨hn0, hn1⟩, _⟩ := tim_iff.1 ht
  have HLL := Lib.hid (fun x hx => last_in hv (x := x) hx)
  have H1 := Lib.hid h1
  have H2 := Lib.hid h2
  clear h1 h2 hr hv ht
  go_enter Try.func43, Try.ntmps43
  go_wp2_with fail
  rw [← WQ.out]
  refine (spec_validTable _ _ _ _ _ rfl hl (SL.out _ hk)).mono ?_
  rintro e w2 ⟨rfl, hb2⟩
  rw [H1.out]
  have hwo2 := HWO.out.below (hb2.mono (Nat.le_refl _))
  have HW2 := Lib.hid hwo2
  have hB2 := bstep hq hb2 hq.size
  clear hwo2
  go_wp2_with (first | (go_at_call 79; refine (spec_validTimer _ _ _).mono ?_; rintro e w' ⟨rfl, rfl⟩; rw [H2.out]))
  go_loopw [7, 8] (fun out i wr => ∃ (n : Nat) (A' : Option Addr) (c' : Nat), n ≤ l.length ∧ i = .int .i64 n ∧ out = .slice A' (goneOf now hold (l.take n)).length c' ∧ Ow encI 1 3 w.heap.size wr A' c' (goneOf now hold (l.take n)) ∧ Below w.heap.size w wr) (fun _ i _ => l.length - (intOf i).toNat)
  case atStart => exact ⟨0, _, _, Nat.zero_le _, rfl, rfl, HW2.out, hB2⟩
  case round =>
    obtain ⟨n, A1, c1, hn, rfl, rfl, hown, hb⟩ := hrel
    have HO := Lib.hid hown
    clear hB2 hb2 hown
    by_cases hlt : n < l.length
    · obtain ⟨b, o, hAe, hbs, hc⟩ := (SL.out wr hb).base hlt
      subst hAe
      obtain ⟨a, q, p, t, hx⟩ := mt_at hlt
      obtain ⟨t0, t1⟩ := HLL.out _ (List.mem_of_getElem? hx)
      simp only at t0 t1
      obtain ⟨d0, d1, d2, d3⟩ := hc.mt (Below.refl _ _) hbs hx
      have hF := goneOf_snoc (now := now) (hold := hold) hx
      have hFl : (goneOf now hold (l.take n)).length ≤ (l.take n).length := goneOf_len _ _ _
      rw [List.length_take, Nat.min_eq_left hn] at hFl
      have KF := Lib.hid hF
      have X := Lib.hid hx
      have HC := Lib.hid hc
      clear hc hx hF
      cases hv : exq now hold ⟨a, q, p, t⟩
      · have HV := Lib.hid hv
        clear hv
        go_wp2_with (first | (go_at_call 80; refine (spec_expired _ _ _ _ _ _ _ hn0 hn1 t0 t1).mono ?_; rintro e w2 ⟨rfl, hb2⟩; rw [HV.out]))
        go_roundw
        case rel =>
          have hF := KF.out
          rw [HV.out] at hF
          simp only [Bool.false_eq_true, if_false, List.append_nil] at hF
          exact ⟨n + 1, A1, c1, by omega, by go_num, by rw [hF], by rw [hF]; exact HO.out.below hb2, bstep hb hb2 hb.size⟩
        case measure => simp [intOf]; omega
      · have HV := Lib.hid hv
        clear hv
        go_wp2_with (first | (go_at_call 80; refine (spec_expired _ _ _ _ _ _ _ hn0 hn1 t0 t1).mono ?_; rintro e w2 ⟨rfl, hb2⟩; rw [HV.out]; have hb3 := bstep hb hb2 hb.size; obtain ⟨e0, e1, e2, e3⟩ := HC.out.mt (hb2.mono (Nat.le_refl _)) hbs X.out; have hwb : Below w2.heap.size w2 (w2.alloc (.cells #[.int .i64 p] 3)) := (Below.refl _ _).alloc (Nat.le_refl _) _) | (with_reducible refine wpList_app elI rfl (.tmp 32) (.tmp 38) rfl w.heap.size _ _ _ (goneOf now hold (l.take n)) rfl rfl ((HO.out.below hb2).alloc _) _ _ _ [p] rfl rfl (blI w2 p).sl ?c1 (by decide) (Nat.le_trans hb3.size hwb.size) ?_))
        case c1 => first | omega | (simp; omega)
        intro A7 c7 w7 hown7 hg7 _
        have hb7 : Below w.heap.size w w7 := below_app (hb3.alloc hb3.size _) hg7 (Nat.le_trans hb3.size hwb.size) (fun g hg => (HO.out.blk g hg).1)
        go_wp2
        go_roundw
        case rel =>
          have hF := KF.out
          rw [HV.out] at hF
          simp only [if_true] at hF
          exact ⟨n + 1, A7, c7, by omega, by go_num, by rw [hF, List.length_append]; rfl, by rw [hF]; exact hown7, hb7⟩
        case measure => simp [intOf]; omega
    · have hnl : n = l.length := by omega
      have HN := Lib.hid hnl
      clear hnl
      go_wp2
      go_ret
      have h := HO.out
      rw [HN.out, List.take_length] at h
      exact ⟨A1, c1, by rw [HN.out, List.take_length]; rfl, h, hb⟩
set_option maxHeartbeats 2000000 in
theorem impl_ExpiredPorts (A : Option Addr) (c n : Nat) (l : List Mp) (now hold : Int) (w : World) (hn : n = l.length) (hl : l.length ≤ 2000000) (hs : Sl encM 4 w A c l) :
    Calls Try.prog 44 #[.slice A n c, .int .i64 now, .int .i64 hold] w (fun e w' => ∃ A', e = .returned (.slice A' (goneV l now hold).length (goneV l now hold).length) ∧ Out encI 1 w.heap.size w' A' (goneV l now hold).length (goneV l now hold) ∧ Below w.heap.size w w') := by
  subst hn
  have SL := Lib.hid (fun W (h : Below w.heap.size w W) => hs.below h)
  have hk : Below w.heap.size w w := Below.refl _ _
  clear hs
  cases ht : tim l now hold
  · have hr : goneV l now hold = [] := by unfold goneV; rw [ht]; rfl
    rw [hr]
    have HT := Lib.hid ht
    clear ht hr
    go_enter Try.func44, Try.ntmps44
    go_wp2_with (first | (go_at_call 76; refine (impl_timed _ _ _ _ _ _ _ rfl hl (SL.out _ hk)).mono ?_; rintro e w2 ⟨rfl, hb2⟩; rw [HT.out]))
    go_ret
    exact ⟨none, rfl, ⟨Sl.nil, Fr.nil⟩, hb2⟩
  have hr : goneV l now hold = goneOf now hold l := by unfold goneV; rw [ht]; rfl
  rw [hr]
  obtain ⟨hv, ⟨hn0, hn1⟩, _⟩ := tim_iff.1 ht
  have HLL := Lib.hid (fun x hx => last_in hv (x := x) hx)
  have HT := Lib.hid ht
  clear ht hr hv
  go_enter Try.func44, Try.ntmps44
  go_wp2_with (first | (go_at_call 76; refine (impl_timed _ _ _ _ _ _ _ rfl hl (SL.out _ hk)).mono ?_; rintro e w2 ⟨rfl, hb2⟩; rw [HT.out]))
  go_loopw [7, 17] (fun out i wr => ∃ (n : Nat) (A' : Option Addr) (c' : Nat), n ≤ l.length ∧ i = .int .i64 n ∧ out = .slice A' (goneOf now hold (l.take n)).length c' ∧ Ow encI 1 3 w.heap.size wr A' c' (goneOf now hold (l.take n)) ∧ Below w.heap.size w wr) (fun _ i _ => l.length - (intOf i).toNat)
  case atStart => exact ⟨0, _, _, Nat.zero_le _, rfl, rfl, Ow.nil, hb2⟩
  case round =>
    obtain ⟨n, A1, c1, hn, rfl, rfl, hown, hb⟩ := hrel
    have HO := Lib.hid hown
    clear hb2 hown hk
    have hFl : (goneOf now hold (l.take n)).length ≤ (l.take n).length := goneOf_len _ _ _
    rw [List.length_take, Nat.min_eq_left hn] at hFl
    by_cases hlt : n < l.length
    · obtain ⟨b, o, hAe, hbs, hc⟩ := (SL.out wr hb).base hlt
      subst hAe
      obtain ⟨a, q, p, t, hx⟩ := mt_at hlt
      obtain ⟨t0, t1⟩ := HLL.out _ (List.mem_of_getElem? hx)
      simp only at t0 t1
      obtain ⟨d0, d1, d2, d3⟩ := hc.mt (Below.refl _ _) hbs hx
      have hF := goneOf_snoc (now := now) (hold := hold) hx
      have hwx := wexq_eq (x := ⟨a, q, p, t⟩) (hold := hold) hn0 hn1 t0 t1
      have hwb : Below wr.heap.size wr (wr.alloc (.cells #[.int .i64 a, .int .i64 q, .int .i64 p, .int .i64 t] 37)) := (Below.refl _ _).alloc (Nat.le_refl _) _
      have HWB := Lib.hid hwb
      have KF := Lib.hid hF
      clear hc hx hF hwb
      cases hv : exq now hold ⟨a, q, p, t⟩
      · rw [hv] at hwx
        have HV := Lib.hid hv
        have HW := Lib.hid hwx
        clear hv hwx
        go_wp2_with (first | (go_at_call 81; refine (impl_expired _ _ _ _ _ _ _).mono ?_; rintro e w2 ⟨rfl, hb2⟩; rw [HW.out]))
        go_roundw
        case rel =>
          have hF := KF.out
          rw [HV.out] at hF
          simp only [Bool.false_eq_true, if_false, List.append_nil] at hF
          have hbb := hb.trans ((bstep HWB.out hb2 HWB.out.size).mono hb.size)
          exact ⟨n + 1, A1, c1, by omega, by go_num, by rw [hF], by rw [hF]; exact (HO.out.alloc _).below hb2, hbb⟩
        case measure => simp [intOf]; omega
      · rw [hv] at hwx
        have HV := Lib.hid hv
        have HW := Lib.hid hwx
        clear hv hwx
        go_wp2_with (first | (go_at_call 81; refine (impl_expired _ _ _ _ _ _ _).mono ?_; rintro e w2 ⟨rfl, hb2⟩; rw [HW.out]; have hb3 := hb.trans ((bstep HWB.out hb2 HWB.out.size).mono hb.size); obtain ⟨⟨e0, e1, e2, e3⟩, hz2⟩ := one_belowM hb2; have hwb : Below w2.heap.size w2 (w2.alloc (.cells #[.int .i64 p] 3)) := (Below.refl _ _).alloc (Nat.le_refl _) _) | (with_reducible refine wpList_app elI rfl (.tmp 25) (.tmp 28) rfl w.heap.size _ _ _ (goneOf now hold (l.take n)) rfl rfl (((HO.out.alloc _).below hb2).alloc _) _ _ _ [p] rfl rfl (blI w2 p).sl ?c1 (by decide) (Nat.le_trans hb3.size hwb.size) ?_))
        case c1 => first | omega | (simp; omega)
        intro A7 c7 w7 hown7 hg7 _
        have hb7 : Below w.heap.size w w7 := below_app (hb3.alloc hb3.size _) hg7 (Nat.le_trans hb3.size hwb.size) (fun g hg => (HO.out.blk g hg).1)
        go_wp2
        go_roundw
        case rel =>
          have hF := KF.out
          rw [HV.out] at hF
          simp only [if_true] at hF
          exact ⟨n + 1, A7, c7, by omega, by go_num, by rw [hF, List.length_append]; rfl, by rw [hF]; exact hown7, hb7⟩
        case measure => simp [intOf]; omega
    · have hnl : n = l.length := by omega
      subst hnl
      rw [List.take_length] at *
      have h := HO.out
      have hm := h.capm
      have hle := h.le
      have H := Lib.hid h
      clear h
      go_wp2_with (first | (go_at_call 82; refine (Clip_in _ _ _ _ hle hm).mono ?_; rintro e w' ⟨rfl, rfl⟩))
      go_ret
      exact ⟨A1, rfl, ⟨H.out.sl.cap, H.out.fr⟩, hb⟩
theorem mn_first (x : Mp) (r : List Mp) : mn x.l (x :: r) = mn x.l r := by rw [mn_cons]; congr 1; omega
theorem nextOf_at {l : List Mp} {x : Mp} (h : l[0]? = some x) (hold : Int) : nextOf l hold = mn x.l l + hold := by
  match l, h with
  | y :: r, h =>
    simp at h
    subst h
    rw [mn_first]
    rfl
theorem mn_take {l : List Mp} {x y : Mp} {k : Nat} (hy : l[k]? = some y) : mn x.l (l.take (k + 1)) = min (mn x.l (l.take k)) y.l := by rw [take_succ hy, mn_snoc]
theorem mn_in {l : List Mp} (hv : vM l = true) {x : Mp} (h : l[0]? = some x) (k : Nat) : 0 ≤ mn x.l (l.take k) ∧ mn x.l (l.take k) ≤ 10000 := by
  obtain ⟨_, _, h3⟩ := mn_le x.l (l.take k)
  rcases h3 with h3 | ⟨y, hy, h3⟩
  · rw [h3]; exact last_in hv (List.mem_of_getElem? h)
  · rw [h3]; exact last_in hv (List.mem_of_mem_take hy)
set_option maxHeartbeats 2000000 in
theorem impl_NextExpiry (A : Option Addr) (c n : Nat) (l : List Mp) (hold : Int) (w : World) (hn : n = l.length) (hl : l.length ≤ 2000000) (hs : Sl encM 4 w A c l) :
    Calls Try.prog 40 #[.slice A n c, .int .i64 hold] w (Ret w (.int .i64 (nextV l hold))) := by
  subst hn
  have SL := Lib.hid (fun W (h : Below w.heap.size w W) => hs.below h)
  have hk : Below w.heap.size w w := Below.refl _ _
  clear hs
  cases ht : tim l 0 hold
  · have hr : nextV l hold = -1 := by
      unfold tim at ht
      unfold nextV
      rw [show inR 0 0 10000 = true from rfl, Bool.true_and] at ht
      rw [ht]
      rfl
    rw [hr]
    have HT := Lib.hid ht
    clear ht hr
    go_enter Try.func40, Try.ntmps40
    go_wp2_with (first | (go_at_call 76; refine (impl_timed _ _ _ _ _ _ _ rfl hl (SL.out _ hk)).mono ?_; rintro e w2 ⟨rfl, hb2⟩; rw [HT.out]))
    go_ret
    exact ⟨rfl, hb2⟩
  obtain ⟨hv, _, hh0, hh1⟩ := tim_iff.1 ht
  have hr : nextV l hold = nextOf l hold := by
    unfold nextV
    rw [hv, inR_iff.2 ⟨hh0, hh1⟩]
    rfl
  rw [hr]
  by_cases h0 : l.length = 0
  · have hz : ((l.length : Int) == 0) = true := by rw [h0]; rfl
    obtain rfl := List.eq_nil_of_length_eq_zero h0
    have HT := Lib.hid ht
    clear ht hr hv h0
    go_enter Try.func40, Try.ntmps40
    go_wp2_with (first | (go_at_call 76; refine (impl_timed _ _ _ _ _ _ _ rfl hl (SL.out _ hk)).mono ?_; rintro e w2 ⟨rfl, hb2⟩; rw [HT.out]))
    go_ret
    exact ⟨rfl, hb2⟩
  have hz : ((l.length : Int) == 0) = false := by rw [beq_eq_false_iff_ne]; omega
  obtain ⟨a0, q0, p0, x0, hx0⟩ := mt_at (l := l) (i := 0) (by omega)
  rw [nextOf_at hx0]
  have HI := Lib.hid (fun k => mn_in hv hx0 k)
  have HX := Lib.hid hx0
  have HT := Lib.hid ht
  have HV := Lib.hid hv
  obtain ⟨b, o, hAe, hbs, hc⟩ := (SL.out w hk).base (i := 0) (by omega)
  subst hAe
  have HC := Lib.hid hc
  clear ht hr hv hx0 hc
  go_enter Try.func40, Try.ntmps40
  go_wp2_with (first | (go_at_call 76; refine (impl_timed _ _ _ _ _ _ _ rfl hl (SL.out _ hk)).mono ?_; rintro e w2 ⟨rfl, hb2⟩; rw [HT.out]; have e3 := (HC.out.mt hb2 hbs HX.out).2.2.2; simp only [Nat.zero_mul, Nat.add_zero] at e3))
  clear e3
  go_loopw [5, 23] (fun nx i wr => ∃ (k : Nat) (M : Int), k ≤ l.length ∧ i = .int .i64 k ∧ nx = .int .i64 M ∧ M = mn x0 (l.take k) ∧ Below w.heap.size w wr) (fun _ i _ => l.length - (intOf i).toNat)
  case atStart => exact ⟨0, x0, Nat.zero_le _, rfl, rfl, rfl, hb2⟩
  case round =>
    obtain ⟨k, M, hkl, rfl, rfl, hM, hb⟩ := hrel
    have HM := Lib.hid hM
    have hMi : 0 ≤ M ∧ M ≤ 10000 := by rw [hM]; exact HI.out k
    obtain ⟨hM0, hM1⟩ := hMi
    clear hM hb2 hk
    by_cases hlt : k < l.length
    · obtain ⟨a, q, p, t, hx⟩ := mt_at hlt
      obtain ⟨d0, d1, d2, d3⟩ := HC.out.mt hb hbs hx
      have hmt := mn_take (x := ⟨a0, q0, p0, x0⟩) hx
      simp only at hmt
      rw [← HM.out] at hmt
      have MT := Lib.hid hmt
      clear hx hmt
      rcases Int.lt_trichotomy M t with hmx | hmx | hmx
      · go_wp2
        go_roundw
        case rel => exact ⟨k + 1, M, by omega, by go_num, rfl, by rw [MT.out]; omega, hb.alloc hb.size _⟩
        case measure => simp [intOf]; omega
      · subst hmx
        go_wp2
        go_roundw
        case rel => exact ⟨k + 1, M, by omega, by go_num, rfl, by rw [MT.out]; omega, hb.alloc hb.size _⟩
        case measure => simp [intOf]; omega
      · go_wp2
        go_roundw
        case rel => exact ⟨k + 1, t, by omega, by go_num, rfl, by rw [MT.out]; omega, hb.alloc hb.size _⟩
        case measure => simp [intOf]; omega
    · go_wp2
      go_ret
      have hM := HM.out
      rw [List.take_of_length_le (by omega)] at hM
      exact ⟨by rw [hM]; rfl, hb⟩
set_option maxHeartbeats 2000000 in
theorem spec_NextExpiry (A : Option Addr) (c n : Nat) (l : List Mp) (hold : Int) (w : World) (hn : n = l.length) (hl : l.length ≤ 2000000) (hs : Sl encM 4 w A c l) :
    Calls Try.prog 39 #[.slice A n c, .int .i64 hold] w (Ret w (.int .i64 (nextV l hold))) := by
  subst hn
  have SL := Lib.hid (fun W (h : Below w.heap.size w W) => hs.below h)
  have hk : Below w.heap.size w w := Below.refl _ _
  clear hs
  cases h1 : vM l
  · have hr : nextV l hold = -1 := by unfold nextV; rw [h1]; rfl
    rw [hr]
    have H1 := Lib.hid h1
    clear h1 hr
    go_enter Try.func39, Try.ntmps39
    go_wp2_with (first | (go_at_call 60; refine (spec_validTable _ _ _ _ _ rfl hl (SL.out _ hk)).mono ?_; rintro e w2 ⟨rfl, hb2⟩; rw [H1.out]))
    go_ret
    exact ⟨rfl, hb2⟩
  cases h2 : inR hold 1 500
  · have hr : nextV l hold = -1 := by unfold nextV; rw [h1, h2]; rfl
    rw [hr]
    have H1 := Lib.hid h1
    have H2 := Lib.hid h2
    clear h1 h2 hr
    go_enter Try.func39, Try.ntmps39
    go_wp2_with (first | (go_at_call 60; refine (spec_validTable _ _ _ _ _ rfl hl (SL.out _ hk)).mono ?_; rintro e w2 ⟨rfl, hb2⟩; rw [H1.out]) | (go_at_call 61; refine (spec_inRange _ _ _ _).mono ?_; rintro e w' ⟨rfl, rfl⟩; rw [H2.out]))
    go_ret
    exact ⟨rfl, hb2⟩
  have hr : nextV l hold = nextOf l hold := by unfold nextV; rw [h1, h2]; rfl
  rw [hr]
  obtain ⟨hh0, hh1⟩ := inR_iff.1 h2
  have HI := Lib.hid (fun x0 (hx0 : l[0]? = some x0) k => mn_in h1 hx0 k)
  have HLL := Lib.hid (fun x hx => last_in h1 (x := x) hx)
  have H1 := Lib.hid h1
  have H2 := Lib.hid h2
  clear h1 h2 hr
  go_enter Try.func39, Try.ntmps39
  go_wp2_with (first | (go_at_call 60; refine (spec_validTable _ _ _ _ _ rfl hl (SL.out _ hk)).mono ?_; rintro e w2 ⟨rfl, hb2⟩; rw [H1.out]) | (go_at_call 61; refine (spec_inRange _ _ _ _).mono ?_; rintro e w' ⟨rfl, rfl⟩; rw [H2.out]))
  go_loopw [5, 6] (fun nx i wr => ∃ (k : Nat) (v : Int), k ≤ l.length ∧ i = .int .i64 k ∧ nx = .int .i64 v ∧ ((k = 0 ∧ v = -1) ∨ (0 < k ∧ ∃ x0, l[0]? = some x0 ∧ v = mn x0.l (l.take k) + hold)) ∧ Below w.heap.size w wr) (fun _ i _ => l.length - (intOf i).toNat)
  case atStart => exact ⟨0, -1, Nat.zero_le _, rfl, rfl, .inl ⟨rfl, rfl⟩, hb2⟩
  case round =>
    obtain ⟨k, v, hkl, rfl, rfl, hv, hb⟩ := hrel
    clear hb2 hk
    by_cases hlt : k < l.length
    · obtain ⟨b, o, hAe, hbs, hc⟩ := (SL.out wr hb).base hlt
      subst hAe
      obtain ⟨a, q, p, t, hx⟩ := mt_at hlt
      obtain ⟨d0, d1, d2, d3⟩ := hc.mt (Below.refl _ _) hbs hx
      obtain ⟨t0, t1⟩ := HLL.out _ (List.mem_of_getElem? hx)
      simp only at t0 t1
      rcases hv with ⟨hk0, hv⟩ | ⟨hk0, x0, hx0, hv⟩
      · subst hk0
        subst hv
        have X := Lib.hid hx
        clear hx hc
        go_wp2
        go_roundw
        case rel => exact ⟨1, t + hold, by omega, by go_num, rfl, .inr ⟨by omega, _, X.out, by rw [take_succ X.out]; show t + hold = min t t + hold; omega⟩, hb⟩
        case measure => simp [intOf]; omega
      · have hmt := mn_take (x := x0) hx
        have hMi := HI.out _ hx0 k
        obtain ⟨M, hMM⟩ : ∃ M, mn x0.l (l.take k) = M := ⟨_, rfl⟩
        rw [hMM] at hMi hv hmt
        obtain ⟨hM0, hM1⟩ := hMi
        simp only at hmt
        subst hv
        have MT := Lib.hid hmt
        have X0 := Lib.hid hx0
        clear hx hc hmt hMM hx0
        by_cases hc : t + hold < M + hold
        · go_wp2
          go_roundw
          case rel => exact ⟨k + 1, t + hold, by omega, by go_num, rfl, .inr ⟨by omega, _, X0.out, by rw [MT.out]; omega⟩, hb⟩
          case measure => simp [intOf]; omega
        · go_wp2
          go_roundw
          case rel => exact ⟨k + 1, M + hold, by omega, by go_num, rfl, .inr ⟨by omega, _, X0.out, by rw [MT.out]; omega⟩, hb⟩
          case measure => simp [intOf]; omega
    · have hkn : k = l.length := by omega
      have HK := Lib.hid hkn
      have HVV := Lib.hid hv
      clear hkn hv
      go_wp2
      go_ret
      refine ⟨?_, hb⟩
      rcases HVV.out with ⟨hk0, hv⟩ | ⟨hk0, x0, hx0, hv⟩
      · have h0 : l = [] := List.eq_nil_of_length_eq_zero (by rw [← HK.out, hk0])
        rw [hv, h0]
        rfl
      · rw [hv, HK.out, List.take_length, nextOf_at hx0]
        rfl
set_option maxHeartbeats 2000000 in
theorem spec_TouchPort (A : Option Addr) (c n : Nat) (l : List Mp) (port now : Int) (w : World) (hn : n = l.length) (hl : l.length ≤ 2000000) (hs : Sl encM 4 w A c l) :
    Calls Try.prog 42 #[.slice A n c, .int .i64 port, .int .i64 now] w (fun e w' => ∃ A' c', e = .returned (.tuple #[.slice A' (touchV l port now).length c', .bool (touchO l port now)]) ∧ Ow encM 4 37 w.heap.size w' A' c' (touchV l port now) ∧ Below w.heap.size w w') := by
  subst hn
  have SL := Lib.hid (fun W (h : Below w.heap.size w W) => hs.below h)
  have hk : Below w.heap.size w w := Below.refl _ _
  clear hs
  obtain ⟨e, he⟩ : ∃ e, byP l port = e := ⟨_, rfl⟩
  have HE := Lib.hid he
  cases hv : vM l
  · have ho : touchO l port now = false := by unfold touchO; rw [hv]; rfl
    have hr : touchV l port now = [] := by unfold touchV; rw [ho]; rfl
    rw [ho, hr]
    have HV := Lib.hid hv
    clear hv hr ho he
    go_enter Try.func42, Try.ntmps42
    go_wp2_with fail
    refine (spec_validTable _ _ _ _ _ rfl hl (SL.out _ hk)).mono ?_
    rintro e w2 ⟨rfl, hb2⟩
    rw [HV.out]
    go_wp2
    go_ret2
    exact ⟨none, 0, rfl, Ow.nil, hb2⟩
  cases h2 : inR now 0 10000
  · have ho : touchO l port now = false := by unfold touchO; rw [hv, h2]; rfl
    have hr : touchV l port now = [] := by unfold touchV; rw [ho]; rfl
    rw [ho, hr]
    have HV := Lib.hid hv
    have H2 := Lib.hid h2
    clear hv hr ho he h2
    go_enter Try.func42, Try.ntmps42
    go_wp2_with fail
    refine (spec_validTable _ _ _ _ _ rfl hl (SL.out _ hk)).mono ?_
    rintro e w2 ⟨rfl, hb2⟩
    rw [HV.out]
    go_wp2_with (first | (go_at_call 61; refine (spec_inRange _ _ _ _).mono ?_; rintro e w' ⟨rfl, rfl⟩; rw [H2.out]))
    go_ret2
    exact ⟨none, 0, rfl, Ow.nil, hb2⟩
  by_cases h0 : 0 ≤ e
  · obtain ⟨k, x, hkx, hx, hp, hnn⟩ := idx_pos (p := sameP port) (l := l) (by unfold byP at he; omega)
    have hu : used l port = true := List.any_eq_true.2 ⟨x, List.mem_of_getElem? hx, hp⟩
    have ho : touchO l port now = true := by unfold touchO; rw [hv, h2, hu]; rfl
    have hr : touchV l port now = touchR l port now := by unfold touchV; rw [ho]; rfl
    rw [ho, hr, touch_found hx hp hnn]
    have hek : e = (k : Int) := by unfold byP at he; omega
    subst hek
    obtain ⟨a, q, p, t⟩ := x
    have hkl := lt_of_get hx
    have X := Lib.hid hx
    have hl1 : l ≠ [] := by rintro rfl; simp at hx
    have HV := Lib.hid hv
    have H2 := Lib.hid h2
    clear he hkx hx hp hnn hu ho hr hv h2
    rcases Int.lt_trichotomy t now with hmx | hmx | hmx
    · have MX := Lib.hid (show max t now = now from by omega)
      go_enter Try.func42, Try.ntmps42
      go_wp2_with fail
      refine (spec_validTable _ _ _ _ _ rfl hl (SL.out _ hk)).mono ?_
      rintro e w2 ⟨rfl, hb2⟩
      rw [HV.out]
      go_wp2_with (first | (go_at_call 61; refine (spec_inRange _ _ _ _).mono ?_; rintro e w' ⟨rfl, rfl⟩; rw [H2.out]) | (go_at_call 78; refine (spec_byPort _ _ _ _ _ _ rfl hl (SL.out _ (by assumption))).mono ?_; rintro e w' ⟨rfl, rfl⟩; rw [HE.out]) | (with_reducible refine wpList_app elM rfl (.tmp 24) (.tmp 25) rfl w2.heap.size _ _ _ [] rfl rfl (Ow.empty w2 (Nat.le_refl _)) _ _ _ l rfl rfl (SL.out _ (hb2.alloc hb2.size _)) ?c1 (by decide) (by simp) ?_))
      case c1 => first | omega | (simp; omega)
      intro A5 c5 w5 how5 hg5 _
      have hb5 : Below w2.heap.size w2 w5 := below_app ((Below.refl _ _).alloc (Nat.le_refl _) _) hg5 (by simp) (fun g h => (by simp [blk] at h; omega))
      have hk5 := bstep hb2 hb5 hb2.size
      try simp only [List.nil_append] at how5
      try simp only [List.nil_append]
      have HB6 := Lib.hid hk5
      have H6 := Lib.hid (how5.base hb2.size)
      clear how5 hb5 hk hg5
      obtain ⟨g3, rfl, hgB, hlc3, hcm3, hbl3⟩ := H6.out.resolve_left (by rintro ⟨_, _, h⟩; exact hl1 h)
      obtain ⟨⟨d0, d1, d2, d3⟩, f0, f1, f2, f3⟩ := hbl3.mtAt X.out
      have BL3 := Lib.hid hbl3
      have HCM := Lib.hid hcm3
      clear hbl3 hcm3
      go_wp2_with (first | (go_at_call 78; refine (spec_byPort _ _ _ _ _ _ rfl hl (SL.out _ hk5)).mono ?_; rintro e w' ⟨rfl, rfl⟩; rw [HE.out]))
      go_ret2
      have hst := BL3.out.store (x := ⟨a, q, p, t⟩) (x' := ⟨a, q, p, max t now⟩) (u := .int .i64 (max t now)) (i := k) (j := 3) (fun _ => rfl) X.out (by decide) rfl
      rw [MX.out] at hst ⊢
      refine ⟨some ⟨g3, 0, none⟩, c5, by rw [List.length_set]; rfl, .inr ⟨g3, rfl, hgB, by rw [List.length_set]; exact hlc3, HCM.out, hst⟩, ?_⟩
      exact HB6.out.setCell (show w.heap.size ≤ g3 by omega) _
    · obtain rfl : now = t := hmx.symm
      have MX := Lib.hid (show max now now = now from by omega)
      go_enter Try.func42, Try.ntmps42
      go_wp2_with fail
      refine (spec_validTable _ _ _ _ _ rfl hl (SL.out _ hk)).mono ?_
      rintro e w2 ⟨rfl, hb2⟩
      rw [HV.out]
      go_wp2_with (first | (go_at_call 61; refine (spec_inRange _ _ _ _).mono ?_; rintro e w' ⟨rfl, rfl⟩; rw [H2.out]) | (go_at_call 78; refine (spec_byPort _ _ _ _ _ _ rfl hl (SL.out _ (by assumption))).mono ?_; rintro e w' ⟨rfl, rfl⟩; rw [HE.out]) | (with_reducible refine wpList_app elM rfl (.tmp 24) (.tmp 25) rfl w2.heap.size _ _ _ [] rfl rfl (Ow.empty w2 (Nat.le_refl _)) _ _ _ l rfl rfl (SL.out _ (hb2.alloc hb2.size _)) ?c1 (by decide) (by simp) ?_))
      case c1 => first | omega | (simp; omega)
      intro A5 c5 w5 how5 hg5 _
      have hb5 : Below w2.heap.size w2 w5 := below_app ((Below.refl _ _).alloc (Nat.le_refl _) _) hg5 (by simp) (fun g h => (by simp [blk] at h; omega))
      have hk5 := bstep hb2 hb5 hb2.size
      try simp only [List.nil_append] at how5
      try simp only [List.nil_append]
      have HB6 := Lib.hid hk5
      have H6 := Lib.hid (how5.base hb2.size)
      clear how5 hb5 hk hg5
      obtain ⟨g3, rfl, hgB, hlc3, hcm3, hbl3⟩ := H6.out.resolve_left (by rintro ⟨_, _, h⟩; exact hl1 h)
      obtain ⟨⟨d0, d1, d2, d3⟩, f0, f1, f2, f3⟩ := hbl3.mtAt X.out
      have BL3 := Lib.hid hbl3
      have HCM := Lib.hid hcm3
      clear hbl3 hcm3
      go_wp2_with (first | (go_at_call 78; refine (spec_byPort _ _ _ _ _ _ rfl hl (SL.out _ hk5)).mono ?_; rintro e w' ⟨rfl, rfl⟩; rw [HE.out]))
      go_ret2
      have hst := BL3.out.store (x := ⟨a, q, p, now⟩) (x' := ⟨a, q, p, max now now⟩) (u := .int .i64 (max now now)) (i := k) (j := 3) (fun _ => rfl) X.out (by decide) rfl
      rw [MX.out] at hst ⊢
      refine ⟨some ⟨g3, 0, none⟩, c5, by rw [List.length_set]; rfl, .inr ⟨g3, rfl, hgB, by rw [List.length_set]; exact hlc3, HCM.out, hst⟩, ?_⟩
      exact HB6.out.setCell (show w.heap.size ≤ g3 by omega) _
    · have MX := Lib.hid (show max t now = t from by omega)
      go_enter Try.func42, Try.ntmps42
      go_wp2_with fail
      refine (spec_validTable _ _ _ _ _ rfl hl (SL.out _ hk)).mono ?_
      rintro e w2 ⟨rfl, hb2⟩
      rw [HV.out]
      go_wp2_with (first | (go_at_call 61; refine (spec_inRange _ _ _ _).mono ?_; rintro e w' ⟨rfl, rfl⟩; rw [H2.out]) | (go_at_call 78; refine (spec_byPort _ _ _ _ _ _ rfl hl (SL.out _ (by assumption))).mono ?_; rintro e w' ⟨rfl, rfl⟩; rw [HE.out]) | (with_reducible refine wpList_app elM rfl (.tmp 24) (.tmp 25) rfl w2.heap.size _ _ _ [] rfl rfl (Ow.empty w2 (Nat.le_refl _)) _ _ _ l rfl rfl (SL.out _ (hb2.alloc hb2.size _)) ?c1 (by decide) (by simp) ?_))
      case c1 => first | omega | (simp; omega)
      intro A5 c5 w5 how5 hg5 _
      have hb5 : Below w2.heap.size w2 w5 := below_app ((Below.refl _ _).alloc (Nat.le_refl _) _) hg5 (by simp) (fun g h => (by simp [blk] at h; omega))
      have hk5 := bstep hb2 hb5 hb2.size
      try simp only [List.nil_append] at how5
      try simp only [List.nil_append]
      have HB6 := Lib.hid hk5
      have H6 := Lib.hid (how5.base hb2.size)
      clear how5 hb5 hk hg5
      obtain ⟨g3, rfl, hgB, hlc3, hcm3, hbl3⟩ := H6.out.resolve_left (by rintro ⟨_, _, h⟩; exact hl1 h)
      obtain ⟨⟨d0, d1, d2, d3⟩, f0, f1, f2, f3⟩ := hbl3.mtAt X.out
      have BL3 := Lib.hid hbl3
      have HCM := Lib.hid hcm3
      clear hbl3 hcm3
      go_wp2_with (first | (go_at_call 78; refine (spec_byPort _ _ _ _ _ _ rfl hl (SL.out _ hk5)).mono ?_; rintro e w' ⟨rfl, rfl⟩; rw [HE.out]))
      go_ret2
      have hst := BL3.out.store (x := ⟨a, q, p, t⟩) (x' := ⟨a, q, p, max t now⟩) (u := .int .i64 (max t now)) (i := k) (j := 3) (fun _ => rfl) X.out (by decide) rfl
      rw [MX.out] at hst ⊢
      refine ⟨some ⟨g3, 0, none⟩, c5, by rw [List.length_set]; rfl, .inr ⟨g3, rfl, hgB, by rw [List.length_set]; exact hlc3, HCM.out, hst⟩, ?_⟩
      exact HB6.out.setCell (show w.heap.size ≤ g3 by omega) _
  · have hu : used l port = false := by rw [← byP_used, he]; exact decide_eq_false h0
    have ho : touchO l port now = false := by unfold touchO; rw [hv, h2, hu]; rfl
    have hr : touchV l port now = [] := by unfold touchV; rw [ho]; rfl
    rw [ho, hr]
    have HV := Lib.hid hv
    have H2 := Lib.hid h2
    clear hv hr ho he h2 hu
    go_enter Try.func42, Try.ntmps42
    go_wp2_with fail
    refine (spec_validTable _ _ _ _ _ rfl hl (SL.out _ hk)).mono ?_
    rintro e w2 ⟨rfl, hb2⟩
    rw [HV.out]
    go_wp2_with (first | (go_at_call 61; refine (spec_inRange _ _ _ _).mono ?_; rintro e w' ⟨rfl, rfl⟩; rw [H2.out]) | (go_at_call 78; refine (spec_byPort _ _ _ _ _ _ rfl hl (SL.out _ hb2)).mono ?_; rintro e w' ⟨rfl, rfl⟩; rw [HE.out]))
    go_ret2
    exact ⟨none, 0, rfl, Ow.nil, hb2⟩
end Go.Proofs.Ytpfmlenodgjebaa
