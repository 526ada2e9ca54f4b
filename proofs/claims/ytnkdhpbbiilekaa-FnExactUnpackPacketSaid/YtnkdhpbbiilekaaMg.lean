/- The generators of tables, walked: what they return is some data that reads well. -/
import Derived.Test.YtnkdhpbbiilekaaMm
namespace Go.Proofs.Ytnkdhpbbiilekaa
open Go.RowKit
theorem mapV_len (l : List Mp) (a q now : Int) : (mapV l a q now).1.length ≤ 9 := by
  unfold mapV
  split
  · next h =>
    simp only [Bool.and_eq_true] at h
    have h8 := ((vM_iff l).1 h.1).1
    unfold mapR
    split
    · rw [List.length_set]; omega
    · split
      · simp
      · rw [List.length_append]; simp; omega
  · simp
theorem ow_keep {α : Type} {enc : α → List Value} {k : Nat} {e : TypeId} {B c g : Nat} {w w' : World} {A : Option Addr} {l : List α} (h : Ow enc k e B w A c l) (hg : w.grownBy w' (some g)) (hlt : g < B) : Ow enc k e B w' A c l := ow_away h hg hlt
set_option maxHeartbeats 2000000 in
theorem someWord_ (g N : Nat) (w : World) (hN : N ≤ 900000) (hr : Rd w g N) :
    Calls Try.prog 59 #[.pointer (some ⟨g, 0, none⟩)] w (fun e w' => ∃ x : Int, e = .returned (.int .i64 x) ∧ 0 ≤ x ∧ x ≤ 65535 ∧ Rd w' g (N + 5) ∧ w.grownBy w' (some g)) := by
  have HR := Lib.hid hr
  clear hr
  go_enter Try.func59, Try.ntmps59
  go_wp2_with fail
  refine (pick_ g _ 250 _ (by omega) (by omega) (by omega) HR.out).mono ?_
  rintro e w1 ⟨x, rfl, hx0, hx1, _, hr1, hg1⟩
  have hx1 := hx1 (by omega)
  have HR1 := Lib.hid hr1
  have HG1 := Lib.hid hg1
  clear hr1 hg1
  go_wp2_with fail
  refine (pick_ g _ 250 _ (by omega) (by omega) (by omega) HR1.out).mono ?_
  rintro e w2 ⟨y, rfl, hy0, hy1, _, hr2, hg2⟩
  have hy1 := hy1 (by omega)
  have HR2 := Lib.hid hr2
  have HG2 := Lib.hid (grown_trans HG1.out hg2 (.inl rfl))
  clear hr2 hg2
  go_wp2_with fail
  refine (pick_ g _ 250 _ (by omega) (by omega) (by omega) HR2.out).mono ?_
  rintro e w3 ⟨z, rfl, hz0, hz1, _, hr3, hg3⟩
  have hz1 := hz1 (by omega)
  have HR3 := Lib.hid hr3
  have HG3 := Lib.hid (grown_trans HG2.out hg3 (.inl rfl))
  clear hr3 hg3
  go_wp2_with fail
  refine (pick_ g _ 250 _ (by omega) (by omega) (by omega) HR3.out).mono ?_
  rintro e w4 ⟨u, rfl, hu0, hu1, _, hr4, hg4⟩
  have hu1 := hu1 (by omega)
  have HR4 := Lib.hid hr4
  have HG4 := Lib.hid (grown_trans HG3.out hg4 (.inl rfl))
  clear hr4 hg4
  go_wp2_with fail
  refine (one_lit g _ [0, 1, 65535, 65534, 32768, x, 250 * y + z, 262 * u] rfl (by simp) rfl (by simp) (by simp) (by omega) HR4.out).mono ?_
  rintro e w5 ⟨r, rfl, hr, hr5, hg5⟩
  have hrr : 0 ≤ r ∧ r ≤ 65535 := by simp at hr; omega
  have HR5 := Lib.hid hr5
  have HG5 := Lib.hid (grown_trans HG4.out hg5 (.inl rfl))
  clear hr5 hg5 hr
  go_wp2
  go_ret
  exact ⟨r, rfl, hrr.1, hrr.2, HR5.out, HG5.out⟩
set_option maxHeartbeats 2000000 in
theorem someEnd_ (g N : Nat) (w : World) (hN : N ≤ 800000) (hr : Rd w g N) :
    Calls Try.prog 73 #[.pointer (some ⟨g, 0, none⟩)] w (fun e w' => ∃ a q : Int, e = .returned (.agg #[.int .i64 a, .int .i64 q]) ∧ 0 ≤ a ∧ a ≤ 65535 ∧ 0 ≤ q ∧ q ≤ 65535 ∧ Rd w' g (N + 12) ∧ w.grownBy w' (some g)) := by
  have hlt := hr.lt
  have HR := Lib.hid (hr.alloc (.cells #[.int .i64 0, .int .i64 0] 24))
  have E0 := Lib.hid (Bl.lit2 w 0 0 24)
  have HG0 := Lib.hid (grown_alloc (World.grownBy.refl w (some g)) (.cells #[.int .i64 0, .int .i64 0] 24))
  clear hr
  go_enter Try.func73, Try.ntmps73
  go_wp2_with fail
  refine (someWord_ g _ _ (by omega) HR.out).mono ?_
  rintro e w1 ⟨x, rfl, hx0, hx1, hr1, hg1⟩
  have HR1 := Lib.hid hr1
  have HG1 := Lib.hid hg1
  clear hr1 hg1
  go_wp2_with fail
  refine (one_lit g _ [2560, 2561, 2562, 2815, 5000, 7000, 51457, x] rfl (by simp) rfl (by simp) (by simp) (by omega) HR1.out).mono ?_
  rintro e w2 ⟨a, rfl, ha, hr2, hg2⟩
  have haa : 0 ≤ a ∧ a ≤ 65535 := by simp at ha; omega
  obtain ⟨ha0, ha1⟩ := haa
  have HR2 := Lib.hid hr2
  have HG2 := Lib.hid (grown_trans HG1.out hg2 (.inl rfl))
  clear hr2 hg2 ha
  go_wp2_with fail
  refine (someWord_ g _ _ (by omega) HR2.out).mono ?_
  rintro e w3 ⟨y, rfl, hy0, hy1, hr3, hg3⟩
  have HR3 := Lib.hid hr3
  have HG3 := Lib.hid (grown_trans HG2.out hg3 (.inl rfl))
  clear hr3 hg3
  go_wp2_with fail
  refine (one_lit g _ [1000, 1001, 80, 1003, 5000, 1007, y] rfl (by simp) rfl (by simp) (by simp) (by omega) HR3.out).mono ?_
  rintro e w4 ⟨q, rfl, hq, hr4, hg4⟩
  have hqq : 0 ≤ q ∧ q ≤ 65535 := by simp at hq; omega
  obtain ⟨hq0, hq1⟩ := hqq
  have hg04 := grown_trans HG3.out hg4 (.inl rfl)
  have hbl := E0.out.grown hg04 (by simp; omega)
  obtain ⟨⟨x0, x1⟩, f0, f1⟩ := hbl.two
  have HR4 := Lib.hid hr4
  have HG4 := Lib.hid (grown_trans HG0.out hg04 (.inl rfl))
  have hz4 : w.heap.size < w4.heap.size := by have := hg04.size; simp at this; omega
  clear hr4 hg4 hq hg04 hbl
  go_wp2
  refine bodyPost_ret (v := .agg #[.int .i64 a, .int .i64 q]) (by simp [results, Try.results73, go_sem, x0, x1]) rfl ⟨a, q, rfl, ha0, ha1, hq0, hq1, ?_, ?_⟩
  · exact ((HR4.out.setCell (by simpa using hlt) _).setCell (by simpa using hlt) _).mono (by omega)
  · exact grown_setCell (grown_setCell HG4.out (.inr (by simp)) _) (.inr (by simp)) _
end Go.Proofs.Ytnkdhpbbiilekaa
