/- The generators of tables, walked: what they return is some data that reads well. -/
import Derived.Test.YtpfmlenodgjebaaMm
namespace Go.Proofs.Ytpfmlenodgjebaa
open Go.RowKit
theorem mapV_len (l : List Mp) (a q now : Int) : (mapV l a q now).1.length ≤ 9 := by
  unfold mapV
  split
  · next h =>
    simp only [Bool.and_eq_true] at h
    have h8 := ((vM_iff l).1 h.1).1
    unfold mapR
    split
    · rw [List.length_set]; omega
    · split
      · simp
      · rw [List.length_append]; simp; omega
  · simp
theorem ow_keep {α : Type} {enc : α → List Value} {k : Nat} {e : TypeId} {B c g : Nat} {w w' : World} {A : Option Addr} {l : List α} (h : Ow enc k e B w A c l) (hg : w.grownBy w' (some g)) (hlt : g < B) : Ow enc k e B w' A c l := ow_away h hg hlt
set_option maxHeartbeats 4000000 in
theorem someTable_ (g N : Nat) (w : World) (hN : N ≤ 900000) (hr : Rd w g N) :
    Calls Try.prog 87 #[.pointer (some ⟨g, 0, none⟩)] w (fun e w' => ∃ (A : Option Addr) (c : Nat) (l : List Mp), e = .returned (.slice A l.length c) ∧ l.length ≤ 9 ∧ Ow encM 4 37 w.heap.size w' A c l ∧ Rd w' g (N + 50) ∧ w.grownBy w' (some g)) := by
  have hlt := hr.lt
  have hwo : Ow encM 4 37 w.heap.size (w.alloc (.cells #[] 37)) (some ⟨w.heap.size, 0, none⟩) 0 ([] : List Mp) := Ow.empty w (Nat.le_refl _)
  have HR := Lib.hid hr
  have HWO := Lib.hid hwo
  have HG0 := Lib.hid (grown_alloc (World.grownBy.refl w (some g)) (.cells #[] 37))
  clear hr hwo
  go_enter Try.func87, Try.ntmps87
  go_wp2_with fail
  refine (pick_ g N 50 _ (by omega) (by omega) (by omega) (HR.out.alloc _)).mono ?_
  rintro e w1 ⟨now, rfl, hn0, hn1, _, hrd, hgr⟩
  have hn1 := hn1 (by omega)
  have HO1 := Lib.hid (ow_away HWO.out hgr hlt)
  have HR1 := Lib.hid hrd
  have HG1 := Lib.hid (grown_trans HG0.out hgr (.inl rfl))
  clear hrd hgr
  go_wp2_with fail
  refine (one_lit g _ [3, 4, 5, 2, 1, 0, 12] rfl (by simp) rfl (by simp) (by simp) (by omega) HR1.out).mono ?_
  rintro e w2 ⟨x, rfl, hx, hrd, hgr⟩
  have hx2 : 0 ≤ x ∧ x ≤ 12 := by simp at hx; omega
  obtain ⟨hx0, hx1⟩ := hx2
  have HO := Lib.hid (ow_away HO1.out hgr hlt)
  have HRD := Lib.hid hrd
  have HG := Lib.hid (grown_trans HG1.out hgr (.inl rfl))
  clear hx hrd hgr
  obtain ⟨m0, rfl⟩ : ∃ k : Nat, x = (k : Int) := ⟨x.toNat, by omega⟩
  go_wp2
  go_loopw [3, 4, 5] (fun out t n wr => ∃ (m : Nat) (A : Option Addr) (c : Nat) (l : List Mp) (now : Int), m ≤ 12 ∧ n = .int .i64 m ∧ out = .slice A l.length c ∧ l.length ≤ 9 ∧ t = .int .i64 now ∧ 0 ≤ now ∧ now ≤ 50 + 20 * (12 - (m : Int)) ∧ Ow encM 4 37 w.heap.size wr A c l ∧ Rd wr g (N + 2 + 3 * (12 - m)) ∧ w.grownBy wr (some g)) (fun _ _ n _ => (intOf n).toNat)
  case atStart => exact ⟨m0, _, _, [], now, by omega, rfl, rfl, by simp, rfl, hn0, by omega, HO.out, HRD.out.mono (by omega), HG.out⟩
  case round =>
    obtain ⟨m, A, c, l, t, hm, rfl, rfl, hl, rfl, ht0, ht1, ho, hrd, hgr⟩ := hrel
    have HOW := Lib.hid ho
    have HRR := Lib.hid hrd
    have HGR := Lib.hid hgr
    clear ho hrd hgr
    by_cases hm0 : 0 < m
    · go_wp2_with fail
      refine (pick_ g _ 3 _ (by omega) (by omega) (by omega) HRR.out).mono ?_
      rintro e w3 ⟨x, rfl, hy0, hy1, _, hr3, hg3⟩
      have hy1 := hy1 (by omega)
      have HR3 := Lib.hid hr3
      have HG3 := Lib.hid hg3
      clear hr3 hg3
      go_wp2_with fail
      refine (one_lit g _ [1000, 1001, 80, 5000, 1003, 81] rfl (by simp) rfl (by simp) (by simp) (by omega) HR3.out).mono ?_
      rintro e w4 ⟨q, rfl, _, hr4, hg4⟩
      have hg34 := grown_trans HG3.out hg4 (.inl rfl)
      have HR4 := Lib.hid hr4
      have HG4 := Lib.hid (grown_trans HGR.out hg34 (.inl rfl))
      have HO4 := Lib.hid (ow_away HOW.out hg34 hlt)
      clear hr4 hg4 hg34
      obtain ⟨R, hR⟩ : ∃ R, mapV l (2560 + x) q t = R := ⟨_, rfl⟩
      have hRl : R.1.length ≤ 9 := by rw [← hR]; exact mapV_len _ _ _ _
      have HRV := Lib.hid hR
      clear hR
      go_wp2_with fail
      refine (spec_MapEnd _ _ _ _ _ _ _ _ rfl (by omega) HO4.out.sl).mono ?_
      rintro e w5 ⟨A5, c5, rfl, ho5, hb5⟩
      rw [HRV.out] at ho5 ⊢
      obtain ⟨R1, R2, R3⟩ := R
      have hz4 : w.heap.size ≤ w4.heap.size := HG4.out.size
      have HO5 := Lib.hid (ho5.base hz4)
      have HO5' := Lib.hid (HO4.out.below hb5)
      have HR5 := Lib.hid (HR4.out.below_ hb5)
      have HG5 := Lib.hid (grown_below HG4.out hb5)
      have hRl1 : R1.length ≤ 9 := hRl
      simp only [mapRes]
      clear ho5 hb5 hRl
      cases R3
      · go_wp2_with fail
        refine (pick_ g _ 20 _ (by omega) (by omega) (by omega) HR5.out).mono ?_
        rintro e w6 ⟨y, rfl, hz0, hz1, _, hr6, hg6⟩
        have hz1 := hz1 (by omega)
        have HR6 := Lib.hid hr6
        have HG6 := Lib.hid hg6
        clear hr6 hg6
        go_wp2
        go_roundw
        case rel => exact ⟨m - 1, A, c, l, t + y, by omega, by go_num, rfl, hl, rfl, by omega, by omega, ow_away HO5'.out HG6.out hlt, HR6.out.mono (by omega), grown_trans HG5.out HG6.out (.inl rfl)⟩
        case measure => simp [intOf]; omega
      · go_wp2_with fail
        refine (pick_ g _ 20 _ (by omega) (by omega) (by omega) HR5.out).mono ?_
        rintro e w6 ⟨y, rfl, hz0, hz1, _, hr6, hg6⟩
        have hz1 := hz1 (by omega)
        have HR6 := Lib.hid hr6
        have HG6 := Lib.hid hg6
        clear hr6 hg6
        go_wp2
        go_roundw
        case rel => exact ⟨m - 1, A5, c5, R1, t + y, by omega, by go_num, rfl, hRl1, rfl, by omega, by omega, ow_away HO5.out HG6.out hlt, HR6.out.mono (by omega), grown_trans HG5.out HG6.out (.inl rfl)⟩
        case measure => simp [intOf]; omega
    · go_wp2
      go_ret
      exact ⟨A, c, l, rfl, hl, HOW.out, HRR.out.mono (by omega), HGR.out⟩
set_option maxHeartbeats 4000000 in
theorem anyTable_ (g N : Nat) (w : World) (hN : N ≤ 800000) (hr : Rd w g N) :
    Calls Try.prog 56 #[.pointer (some ⟨g, 0, none⟩)] w (fun e w' => ∃ (A : Option Addr) (c : Nat) (l : List Mp), e = .returned (.slice A l.length c) ∧ l.length ≤ 10 ∧ Ow encM 4 37 w.heap.size w' A c l ∧ Rd w' g (N + 60) ∧ w.grownBy w' (some g)) := by
  have hlt := hr.lt
  have HR := Lib.hid hr
  clear hr
  go_enter Try.func56, Try.ntmps56
  go_wp2_with fail
  refine (someTable_ g N _ (by omega) HR.out).mono ?_
  rintro e w1 ⟨A, c, l, rfl, hl, ho, hr1, hg1⟩
  have HO1 := Lib.hid ho
  have HR1 := Lib.hid hr1
  have HG1 := Lib.hid hg1
  clear ho hr1 hg1
  go_wp2_with fail
  refine (pick_ g _ 14 _ (by omega) (by omega) (by omega) HR1.out).mono ?_
  rintro e w2 ⟨x, rfl, hx0, hx1, _, hr2, hg2⟩
  have HO2 := Lib.hid (ow_away HO1.out hg2 hlt)
  have HR2 := Lib.hid hr2
  have HG2 := Lib.hid (grown_trans HG1.out hg2 (.inl rfl))
  clear hr2 hg2
  cases hx : (x == 0)
  · go_wp2
    go_ret
    exact ⟨A, c, l, rfl, by omega, HO2.out, HR2.out.mono (by omega), HG2.out⟩
  · go_wp2_with fail
    refine (one_lit g _ [2560, 65536, 9] rfl (by simp) rfl (by simp) (by simp) (by omega) HR2.out).mono ?_
    rintro e w3 ⟨a, rfl, _, hr3, hg3⟩
    have HR3 := Lib.hid hr3
    have HG3 := Lib.hid hg3
    clear hr3 hg3
    go_wp2_with fail
    refine (one_lit g _ [1000, 7] rfl (by simp) rfl (by simp) (by simp) (by omega) HR3.out).mono ?_
    rintro e w4 ⟨q, rfl, _, hr4, hg4⟩
    have HR4 := Lib.hid hr4
    have HG4 := Lib.hid (grown_trans HG3.out hg4 (.inl rfl))
    clear hr4 hg4
    go_wp2_with fail
    refine (one_lit g _ [1000, 1008, 1007, 999] rfl (by simp) rfl (by simp) (by simp) (by omega) HR4.out).mono ?_
    rintro e w5 ⟨p, rfl, _, hr5, hg5⟩
    have HR5 := Lib.hid hr5
    have HG5 := Lib.hid (grown_trans HG4.out hg5 (.inl rfl))
    clear hr5 hg5
    go_wp2_with fail
    refine (one_lit g _ [0, 10001] rfl (by simp) rfl (by simp) (by simp) (by omega) HR5.out).mono ?_
    rintro e w6 ⟨t, rfl, _, hr6, hg6⟩
    have hg26 := grown_trans HG5.out hg6 (.inl rfl)
    have HR6 := Lib.hid hr6
    have HO6 := Lib.hid (ow_away HO2.out hg26 hlt)
    have HG6 := Lib.hid (grown_trans HG2.out hg26 (.inl rfl))
    clear hr6 hg6 hg26
    have B1 := Lib.hid (blM w6 a q p t)
    go_wp2_with (with_reducible refine wpList_app elM rfl (.tmp 9) (.tmp 24) rfl w.heap.size _ _ _ l rfl ?c0 (HO6.out.alloc _) _ _ _ [⟨a, q, p, t⟩] rfl ?c1 B1.out.sl ?c2 (by decide) ?c3 ?_)
    case c0 => rfl
    case c1 => rfl
    case c2 => first | omega | (simp; omega)
    case c3 => have := HG6.out.size; simp; omega
    intro A7 c7 w7 hown7 hg7 _
    have hr7 : Rd w7 g (N + 60) := ((HR6.out.alloc _).grown hg7 (by
      intro r hr
      have := (HO6.out.blk r hr).1
      omega)).mono (by omega)
    have hg7' : w.grownBy w7 (some g) := grown_trans (grown_alloc HG6.out _) hg7 (.inr (fun r hr => (HO6.out.blk r hr).1))
    go_wp2
    go_ret
    exact ⟨A7, c7, l ++ [⟨a, q, p, t⟩], ret_slice (by simp), by simp; omega, hown7, hr7, hg7'⟩
set_option maxHeartbeats 2000000 in
theorem someWord_ (g N : Nat) (w : World) (hN : N ≤ 900000) (hr : Rd w g N) :
    Calls Try.prog 98 #[.pointer (some ⟨g, 0, none⟩)] w (fun e w' => ∃ x : Int, e = .returned (.int .i64 x) ∧ 0 ≤ x ∧ x ≤ 65535 ∧ Rd w' g (N + 5) ∧ w.grownBy w' (some g)) := by
  have HR := Lib.hid hr
  clear hr
  go_enter Try.func98, Try.ntmps98
  go_wp2_with fail
  refine (pick_ g _ 250 _ (by omega) (by omega) (by omega) HR.out).mono ?_
  rintro e w1 ⟨x, rfl, hx0, hx1, _, hr1, hg1⟩
  have hx1 := hx1 (by omega)
  have HR1 := Lib.hid hr1
  have HG1 := Lib.hid hg1
  clear hr1 hg1
  go_wp2_with fail
  refine (pick_ g _ 250 _ (by omega) (by omega) (by omega) HR1.out).mono ?_
  rintro e w2 ⟨y, rfl, hy0, hy1, _, hr2, hg2⟩
  have hy1 := hy1 (by omega)
  have HR2 := Lib.hid hr2
  have HG2 := Lib.hid (grown_trans HG1.out hg2 (.inl rfl))
  clear hr2 hg2
  go_wp2_with fail
  refine (pick_ g _ 250 _ (by omega) (by omega) (by omega) HR2.out).mono ?_
  rintro e w3 ⟨z, rfl, hz0, hz1, _, hr3, hg3⟩
  have hz1 := hz1 (by omega)
  have HR3 := Lib.hid hr3
  have HG3 := Lib.hid (grown_trans HG2.out hg3 (.inl rfl))
  clear hr3 hg3
  go_wp2_with fail
  refine (pick_ g _ 250 _ (by omega) (by omega) (by omega) HR3.out).mono ?_
  rintro e w4 ⟨u, rfl, hu0, hu1, _, hr4, hg4⟩
  have hu1 := hu1 (by omega)
  have HR4 := Lib.hid hr4
  have HG4 := Lib.hid (grown_trans HG3.out hg4 (.inl rfl))
  clear hr4 hg4
  go_wp2_with fail
  refine (one_lit g _ [0, 1, 65535, 65534, 32768, x, 250 * y + z, 262 * u] rfl (by simp) rfl (by simp) (by simp) (by omega) HR4.out).mono ?_
  rintro e w5 ⟨r, rfl, hr, hr5, hg5⟩
  have hrr : 0 ≤ r ∧ r ≤ 65535 := by simp at hr; omega
  have HR5 := Lib.hid hr5
  have HG5 := Lib.hid (grown_trans HG4.out hg5 (.inl rfl))
  clear hr5 hg5 hr
  go_wp2
  go_ret
  exact ⟨r, rfl, hrr.1, hrr.2, HR5.out, HG5.out⟩
set_option maxHeartbeats 2000000 in
theorem someEnd_ (g N : Nat) (w : World) (hN : N ≤ 800000) (hr : Rd w g N) :
    Calls Try.prog 93 #[.pointer (some ⟨g, 0, none⟩)] w (fun e w' => ∃ a q : Int, e = .returned (.agg #[.int .i64 a, .int .i64 q]) ∧ 0 ≤ a ∧ a ≤ 65535 ∧ 0 ≤ q ∧ q ≤ 65535 ∧ Rd w' g (N + 12) ∧ w.grownBy w' (some g)) := by
  have hlt := hr.lt
  have HR := Lib.hid (hr.alloc (.cells #[.int .i64 0, .int .i64 0] 28))
  have E0 := Lib.hid (Bl.lit2 w 0 0 28)
  have HG0 := Lib.hid (grown_alloc (World.grownBy.refl w (some g)) (.cells #[.int .i64 0, .int .i64 0] 28))
  clear hr
  go_enter Try.func93, Try.ntmps93
  go_wp2_with fail
  refine (someWord_ g _ _ (by omega) HR.out).mono ?_
  rintro e w1 ⟨x, rfl, hx0, hx1, hr1, hg1⟩
  have HR1 := Lib.hid hr1
  have HG1 := Lib.hid hg1
  clear hr1 hg1
  go_wp2_with fail
  refine (one_lit g _ [2560, 2561, 2562, 2815, 5000, 7000, 51457, x] rfl (by simp) rfl (by simp) (by simp) (by omega) HR1.out).mono ?_
  rintro e w2 ⟨a, rfl, ha, hr2, hg2⟩
  have haa : 0 ≤ a ∧ a ≤ 65535 := by simp at ha; omega
  obtain ⟨ha0, ha1⟩ := haa
  have HR2 := Lib.hid hr2
  have HG2 := Lib.hid (grown_trans HG1.out hg2 (.inl rfl))
  clear hr2 hg2 ha
  go_wp2_with fail
  refine (someWord_ g _ _ (by omega) HR2.out).mono ?_
  rintro e w3 ⟨y, rfl, hy0, hy1, hr3, hg3⟩
  have HR3 := Lib.hid hr3
  have HG3 := Lib.hid (grown_trans HG2.out hg3 (.inl rfl))
  clear hr3 hg3
  go_wp2_with fail
  refine (one_lit g _ [1000, 1001, 80, 1003, 5000, 1007, y] rfl (by simp) rfl (by simp) (by simp) (by omega) HR3.out).mono ?_
  rintro e w4 ⟨q, rfl, hq, hr4, hg4⟩
  have hqq : 0 ≤ q ∧ q ≤ 65535 := by simp at hq; omega
  obtain ⟨hq0, hq1⟩ := hqq
  have hg04 := grown_trans HG3.out hg4 (.inl rfl)
  have hbl := E0.out.grown hg04 (by simp; omega)
  obtain ⟨⟨x0, x1⟩, f0, f1⟩ := hbl.two
  have HR4 := Lib.hid hr4
  have HG4 := Lib.hid (grown_trans HG0.out hg04 (.inl rfl))
  have hz4 : w.heap.size < w4.heap.size := by have := hg04.size; simp at this; omega
  clear hr4 hg4 hq hg04 hbl
  go_wp2
  refine bodyPost_ret (v := .agg #[.int .i64 a, .int .i64 q]) (by simp [results, Try.results93, go_sem, x0, x1]) rfl ⟨a, q, rfl, ha0, ha1, hq0, hq1, ?_, ?_⟩
  · exact ((HR4.out.setCell (by simpa using hlt) _).setCell (by simpa using hlt) _).mono (by omega)
  · exact grown_setCell (grown_setCell HG4.out (.inr (by simp)) _) (.inr (by simp)) _
end Go.Proofs.Ytpfmlenodgjebaa
