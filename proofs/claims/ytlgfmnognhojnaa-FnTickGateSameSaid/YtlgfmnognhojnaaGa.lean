/- Nets: how many addresses, which ones, when a net is right. -/
import Derived.Test.YtlgfmnognhojnaaGd
import Derived.Test.YtlgfmnognhojnaaTz
import Derived.Test.YtlgfmnognhojnaaKd
import Derived.IntWalk
import Derived.BigQuiet
namespace Go.Proofs.Ytlgfmnognhojnaa
open Go.RowKit
theorem bits_cases {n : Int} (h0 : 0 ≤ n) (h1 : n ≤ 16) : n = 0 ∨ n = 1 ∨ n = 2 ∨ n = 3 ∨ n = 4 ∨ n = 5 ∨ n = 6 ∨ n = 7 ∨ n = 8 ∨ n = 9 ∨ n = 10 ∨ n = 11 ∨ n = 12 ∨ n = 13 ∨ n = 14 ∨ n = 15 ∨ n = 16 := by omega
set_option maxHeartbeats 2000000 in
theorem impl_size (b n : Int) (w : World) (h0 : 0 ≤ n) (h1 : n ≤ 16) :
    Calls Try.prog 83 #[.agg #[.int .i64 b, .int .i64 n]] w (Ret w (.int .i64 (pw n))) := by
  rcases bits_cases h0 h1 with rfl | rfl | rfl | rfl | rfl | rfl | rfl | rfl | rfl | rfl | rfl | rfl | rfl | rfl | rfl | rfl | rfl
  all_goals
    go_enter Try.func83, Try.ntmps83
    go_wp2
    go_ret
    exact ⟨rfl, (Below.refl _ _).alloc (Nat.le_refl _) _⟩
theorem two_pow_le {k : Nat} (h : k ≤ 16) : (1 : Int) ≤ 2 ^ k ∧ (2 : Int) ^ k ≤ 65536 := by
  have h1 : (1 : Nat) ≤ 2 ^ k := Nat.one_le_two_pow
  have h2 : (2 : Nat) ^ k ≤ 2 ^ 16 := Nat.pow_le_pow_right (by omega) h
  have e : ((2 ^ k : Nat) : Int) = (2 : Int) ^ k := by simp
  rw [← e]
  omega
set_option maxHeartbeats 2000000 in
theorem spec_size (b n : Int) (w : World) (h0 : 0 ≤ n) (h1 : n ≤ 16) :
    Calls Try.prog 96 #[.agg #[.int .i64 b, .int .i64 n]] w (Ret w (.int .i64 (pw n))) := by
  go_enter Try.func96, Try.ntmps96
  go_wp2
  go_loopw [3, 4] (fun s i wr => ∃ k : Nat, n + (k : Int) ≤ 16 ∧ i = .int .i64 (n + k) ∧ s = .int .i64 (2 ^ k) ∧ Below w.heap.size w wr) (fun _ i _ => (16 - intOf i).toNat)
  case atStart => exact ⟨0, by omega, by simp, by simp, (Below.refl _ _).alloc (Nat.le_refl _) _⟩
  case round =>
    obtain ⟨k, hk, rfl, rfl, hb⟩ := hrel
    by_cases hlt : n + (k : Int) < 16
    · obtain ⟨P, hP⟩ : ∃ P : Int, (2 : Int) ^ k = P := ⟨_, rfl⟩
      have hPr : 1 ≤ P ∧ P ≤ 65536 := by rw [← hP]; exact two_pow_le (by omega)
      obtain ⟨hP1, hP2⟩ := hPr
      rw [hP]
      have HP := Lib.hid hP
      clear hP
      go_wp2
      go_roundw
      case rel =>
        refine ⟨k + 1, by omega, by go_num, ?_, hb⟩
        rw [Int.pow_succ, HP.out]
        go_num
      case measure => simp [intOf]; omega
    · have hkn : n + (k : Int) = 16 := by omega
      have HK := Lib.hid (show (2 : Int) ^ k = pw n by unfold pw; congr 1; omega)
      clear hkn
      go_wp2
      go_ret
      exact ⟨by show Ending.returned (Value.int .i64 (2 ^ k)) = _; rw [HK.out], hb⟩
set_option maxHeartbeats 2000000 in
theorem impl_has (b n a : Int) (w : World) (h0 : 0 ≤ n) (h1 : n ≤ 16) (hb0 : 0 ≤ b) (hb1 : b ≤ 65535) :
    Calls Try.prog 42 #[.agg #[.int .i64 b, .int .i64 n], .int .i64 a] w (Ret w (.bool (hasN b n a))) := by
  obtain ⟨wq, hwq⟩ : ∃ y, y = w.alloc (.cells #[.int .i64 b, .int .i64 n] 24) := ⟨_, rfl⟩
  have hq : Below w.heap.size w wq := by subst hwq; exact (Below.refl _ _).alloc (Nat.le_refl _) _
  have z0 : w.heap.size < wq.heap.size := by subst hwq; simp
  have c0 : ∀ y : BW wq.heap.size wq, y.w.cell? ⟨w.heap.size, 0, none⟩ = some (.int .i64 b) := bwCell z0 (by subst hwq; exact cell_of_row _ _ _ _ _ _ (heap_alloc_new _ _))
  have c1 : ∀ y : BW wq.heap.size wq, y.w.cell? ⟨w.heap.size, 1, none⟩ = some (.int .i64 n) := bwCell z0 (by subst hwq; exact cell_of_row _ _ _ _ _ _ (heap_alloc_new _ _))
  have WQ := Lib.hid hwq
  clear hwq
  obtain ⟨P, hP⟩ : ∃ P, pw n = P := ⟨_, rfl⟩
  have hPr : 1 ≤ P ∧ P ≤ 65536 := by rw [← hP]; exact pw_range h0 h1
  obtain ⟨hP1, hP2⟩ := hPr
  have C1 := Lib.hid (fun W => hP ▸ impl_size b n W h0 h1)
  have hv : hasN b n a = inR a b (b + P - 1) := by unfold hasN; rw [hP]
  have HV := Lib.hid hv
  have C2 := Lib.hid (fun (W : World) => impl_in a b (b + P - 1) W)
  have hw1 : IntKind.i64.wrap (b + P) = b + P := IntWalk.i64_in _ (by omega)
  have hw2 : IntKind.i64.wrap (b + P - 1) = b + P - 1 := IntWalk.i64_in _ (by omega)
  rw [hv]
  clear hP hv
  go_enter Try.func42, Try.ntmps42
  go_wp2_with fail
  rw [← WQ.out]
  refine wp_region_bw wq.heap.size wq (Below.refl _ _) (by kernel_rfl) (by kernel_rfl) ?_
  repeat (go_big_quiet_step (first | (go_at_call 83; exact bwCall (Nat.le_refl _) (C1.out _)) | (go_at_call 26; exact bwSame (C2.out _))))
  refine wpQuiet_nil ?_
  rintro _ ⟨⟨w3, h3⟩, rfl⟩
  clear hw1 hw2
  go_wp2
  go_ret
  exact ⟨rfl, hq.trans (h3.mono hq.size)⟩
set_option maxHeartbeats 2000000 in
theorem spec_inNet (b n a : Int) (w : World) (h0 : 0 ≤ n) (h1 : n ≤ 16) (hb0 : 0 ≤ b) (hb1 : b ≤ 65535) :
    Calls Try.prog 73 #[.agg #[.int .i64 b, .int .i64 n], .int .i64 a] w (Ret w (.bool (hasN b n a))) := by
  obtain ⟨wq, hwq⟩ : ∃ y, y = w.alloc (.cells #[.int .i64 b, .int .i64 n] 24) := ⟨_, rfl⟩
  have hq : Below w.heap.size w wq := by subst hwq; exact (Below.refl _ _).alloc (Nat.le_refl _) _
  have z0 : w.heap.size < wq.heap.size := by subst hwq; simp
  have c0 : ∀ y : BW wq.heap.size wq, y.w.cell? ⟨w.heap.size, 0, none⟩ = some (.int .i64 b) := bwCell z0 (by subst hwq; exact cell_of_row _ _ _ _ _ _ (heap_alloc_new _ _))
  have c1 : ∀ y : BW wq.heap.size wq, y.w.cell? ⟨w.heap.size, 1, none⟩ = some (.int .i64 n) := bwCell z0 (by subst hwq; exact cell_of_row _ _ _ _ _ _ (heap_alloc_new _ _))
  have WQ := Lib.hid hwq
  clear hwq
  obtain ⟨P, hP⟩ : ∃ P, pw n = P := ⟨_, rfl⟩
  have hPr : 1 ≤ P ∧ P ≤ 65536 := by rw [← hP]; exact pw_range h0 h1
  obtain ⟨hP1, hP2⟩ := hPr
  have C1 := Lib.hid (fun W => hP ▸ spec_size b n W h0 h1)
  have hv : hasN b n a = inR a b (b + P - 1) := by unfold hasN; rw [hP]
  have HV := Lib.hid hv
  have C2 := Lib.hid (fun (W : World) => spec_inRange a b (b + P - 1) W)
  have hw1 : IntKind.i64.wrap (b + P) = b + P := IntWalk.i64_in _ (by omega)
  have hw2 : IntKind.i64.wrap (b + P - 1) = b + P - 1 := IntWalk.i64_in _ (by omega)
  rw [hv]
  clear hP hv
  go_enter Try.func73, Try.ntmps73
  go_wp2_with fail
  rw [← WQ.out]
  refine wp_region_bw wq.heap.size wq (Below.refl _ _) (by kernel_rfl) (by kernel_rfl) ?_
  repeat (go_big_quiet_step (first | (go_at_call 96; exact bwCall (Nat.le_refl _) (C1.out _)) | (go_at_call 31; exact bwSame (C2.out _))))
  refine wpQuiet_nil ?_
  rintro _ ⟨⟨w3, h3⟩, rfl⟩
  clear hw1 hw2
  go_wp2
  go_ret
  exact ⟨rfl, hq.trans (h3.mono hq.size)⟩
set_option maxHeartbeats 2000000 in
theorem impl_ValidNet (b n : Int) (w : World) :
    Calls Try.prog 40 #[.agg #[.int .i64 b, .int .i64 n]] w (Ret w (.bool (okN b n))) := by
  obtain ⟨wq, hwq⟩ : ∃ y, y = w.alloc (.cells #[.int .i64 b, .int .i64 n] 24) := ⟨_, rfl⟩
  have hq : Below w.heap.size w wq := by subst hwq; exact (Below.refl _ _).alloc (Nat.le_refl _) _
  have z0 : w.heap.size < wq.heap.size := by subst hwq; simp
  have c0 : ∀ y : BW wq.heap.size wq, y.w.cell? ⟨w.heap.size, 0, none⟩ = some (.int .i64 b) := bwCell z0 (by subst hwq; exact cell_of_row _ _ _ _ _ _ (heap_alloc_new _ _))
  have c1 : ∀ y : BW wq.heap.size wq, y.w.cell? ⟨w.heap.size, 1, none⟩ = some (.int .i64 n) := bwCell z0 (by subst hwq; exact cell_of_row _ _ _ _ _ _ (heap_alloc_new _ _))
  have WQ := Lib.hid hwq
  clear hwq
  obtain ⟨r, hr⟩ : ∃ r, inR n 0 16 = r := ⟨_, rfl⟩
  obtain ⟨s, hs⟩ : ∃ s, isW b = s := ⟨_, rfl⟩
  have C1 := Lib.hid (fun (W : World) => hr ▸ impl_in n 0 16 W)
  have C2 := Lib.hid (fun (W : World) => hs ▸ impl_isWord b W)
  have hv : okN b n = (r && (s && decide (b % pw n = 0))) := by unfold okN; rw [hr, hs]
  rw [hv]
  have HR := Lib.hid hr
  have HS := Lib.hid hs
  clear hr hs hv
  cases r
  · have C3 := True.intro
    go_enter Try.func40, Try.ntmps40
    go_wp2_with fail
    rw [← WQ.out]
    refine wp_region_bw wq.heap.size wq (Below.refl _ _) (by kernel_rfl) (by kernel_rfl) ?_
    repeat (go_big_quiet_step (first | (go_at_call 26; exact bwSame (C1.out _))))
    refine wpQuiet_nil ?_
    rintro _ ⟨⟨w3, h3⟩, rfl⟩
    go_wp2
    go_ret
    exact ⟨rfl, hq.trans (h3.mono hq.size)⟩
  cases s
  · go_enter Try.func40, Try.ntmps40
    go_wp2_with fail
    rw [← WQ.out]
    refine wp_region_bw wq.heap.size wq (Below.refl _ _) (by kernel_rfl) (by kernel_rfl) ?_
    repeat (go_big_quiet_step (first | (go_at_call 26; exact bwSame (C1.out _)) | (go_at_call 41; exact bwSame (C2.out _))))
    refine wpQuiet_nil ?_
    rintro _ ⟨⟨w3, h3⟩, rfl⟩
    go_wp2
    go_ret
    exact ⟨rfl, hq.trans (h3.mono hq.size)⟩
  obtain ⟨h0, h1⟩ := inR_iff.1 HR.out
  obtain ⟨hb0, hb1⟩ := isW_iff.1 HS.out
  obtain ⟨P, hP⟩ : ∃ P, pw n = P := ⟨_, rfl⟩
  have hPr : 1 ≤ P ∧ P ≤ 65536 := by rw [← hP]; exact pw_range h0 h1
  obtain ⟨hP1, hP2⟩ := hPr
  have C3 := Lib.hid (fun W => hP ▸ impl_size b n W h0 h1)
  rw [hP]
  have hPz : P ≠ 0 := by omega
  have hm : b.tmod P = b % P := Int.tmod_eq_emod_of_nonneg hb0
  have hw1 : IntKind.i64.wrap (b % P) = b % P := IntWalk.i64_in _ (by have := Int.emod_nonneg b hPz; have := Int.emod_lt_of_pos b (show 0 < P by omega); omega)
  clear hP
  go_enter Try.func40, Try.ntmps40
  go_wp2_with fail
  rw [← WQ.out]
  refine wp_region_bw wq.heap.size wq (Below.refl _ _) (by kernel_rfl) (by kernel_rfl) ?_
  repeat (go_big_quiet_step (first | (go_at_call 26; exact bwSame (C1.out _)) | (go_at_call 41; exact bwSame (C2.out _)) | (go_at_call 83; exact bwCall (Nat.le_refl _) (C3.out _))))
  refine wpQuiet_nil ?_
  rintro _ ⟨⟨w3, h3⟩, rfl⟩
  clear hw1 hm
  go_wp2
  go_ret
  exact ⟨by simp; rfl, hq.trans (h3.mono hq.size)⟩
set_option maxHeartbeats 2000000 in
theorem spec_validNet (b n : Int) (w : World) :
    Calls Try.prog 71 #[.agg #[.int .i64 b, .int .i64 n]] w (Ret w (.bool (okN b n))) := by
  obtain ⟨wq, hwq⟩ : ∃ y, y = w.alloc (.cells #[.int .i64 b, .int .i64 n] 24) := ⟨_, rfl⟩
  have hq : Below w.heap.size w wq := by subst hwq; exact (Below.refl _ _).alloc (Nat.le_refl _) _
  have z0 : w.heap.size < wq.heap.size := by subst hwq; simp
  have c0 : ∀ y : BW wq.heap.size wq, y.w.cell? ⟨w.heap.size, 0, none⟩ = some (.int .i64 b) := bwCell z0 (by subst hwq; exact cell_of_row _ _ _ _ _ _ (heap_alloc_new _ _))
  have c1 : ∀ y : BW wq.heap.size wq, y.w.cell? ⟨w.heap.size, 1, none⟩ = some (.int .i64 n) := bwCell z0 (by subst hwq; exact cell_of_row _ _ _ _ _ _ (heap_alloc_new _ _))
  have WQ := Lib.hid hwq
  clear hwq
  obtain ⟨r, hr⟩ : ∃ r, inR n 0 16 = r := ⟨_, rfl⟩
  obtain ⟨s, hs⟩ : ∃ s, isW b = s := ⟨_, rfl⟩
  have C1 := Lib.hid (fun (W : World) => hr ▸ spec_inRange n 0 16 W)
  have C2 := Lib.hid (fun (W : World) => hs ▸ spec_validAddr b W)
  have hv : okN b n = (r && (s && decide (b % pw n = 0))) := by unfold okN; rw [hr, hs]
  rw [hv]
  have HR := Lib.hid hr
  have HS := Lib.hid hs
  clear hr hs hv
  cases r
  · have C3 := True.intro
    go_enter Try.func71, Try.ntmps71
    go_wp2_with fail
    rw [← WQ.out]
    refine wp_region_bw wq.heap.size wq (Below.refl _ _) (by kernel_rfl) (by kernel_rfl) ?_
    repeat (go_big_quiet_step (first | (go_at_call 31; exact bwSame (C1.out _))))
    refine wpQuiet_nil ?_
    rintro _ ⟨⟨w3, h3⟩, rfl⟩
    go_wp2
    go_ret
    exact ⟨rfl, hq.trans (h3.mono hq.size)⟩
  cases s
  · go_enter Try.func71, Try.ntmps71
    go_wp2_with fail
    rw [← WQ.out]
    refine wp_region_bw wq.heap.size wq (Below.refl _ _) (by kernel_rfl) (by kernel_rfl) ?_
    repeat (go_big_quiet_step (first | (go_at_call 31; exact bwSame (C1.out _)) | (go_at_call 72; exact bwSame (C2.out _))))
    refine wpQuiet_nil ?_
    rintro _ ⟨⟨w3, h3⟩, rfl⟩
    go_wp2
    go_ret
    exact ⟨rfl, hq.trans (h3.mono hq.size)⟩
  obtain ⟨h0, h1⟩ := inR_iff.1 HR.out
  obtain ⟨hb0, hb1⟩ := isW_iff.1 HS.out
  obtain ⟨P, hP⟩ : ∃ P, pw n = P := ⟨_, rfl⟩
  have hPr : 1 ≤ P ∧ P ≤ 65536 := by rw [← hP]; exact pw_range h0 h1
  obtain ⟨hP1, hP2⟩ := hPr
  have C3 := Lib.hid (fun W => hP ▸ spec_size b n W h0 h1)
  rw [hP]
  have hPz : P ≠ 0 := by omega
  have hm : b.tmod P = b % P := Int.tmod_eq_emod_of_nonneg hb0
  have hw1 : IntKind.i64.wrap (b % P) = b % P := IntWalk.i64_in _ (by have := Int.emod_nonneg b hPz; have := Int.emod_lt_of_pos b (show 0 < P by omega); omega)
  clear hP
  go_enter Try.func71, Try.ntmps71
  go_wp2_with fail
  rw [← WQ.out]
  refine wp_region_bw wq.heap.size wq (Below.refl _ _) (by kernel_rfl) (by kernel_rfl) ?_
  repeat (go_big_quiet_step (first | (go_at_call 31; exact bwSame (C1.out _)) | (go_at_call 72; exact bwSame (C2.out _)) | (go_at_call 96; exact bwCall (Nat.le_refl _) (C3.out _))))
  refine wpQuiet_nil ?_
  rintro _ ⟨⟨w3, h3⟩, rfl⟩
  clear hw1 hm
  go_wp2
  go_ret
  exact ⟨by simp; rfl, hq.trans (h3.mono hq.size)⟩
end Go.Proofs.Ytlgfmnognhojnaa
