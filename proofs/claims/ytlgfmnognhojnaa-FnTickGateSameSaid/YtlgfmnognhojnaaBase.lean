/- The smallest functions, walked: ranges, words, ends. -/
import Derived.Test.YtlgfmnognhojnaaProg
import Derived.Test.YtlgfmnognhojnaaData
namespace Go.Proofs.Ytlgfmnognhojnaa
open Go.RowKit
set_option maxHeartbeats 400000 in
theorem impl_in (n lo hi : Int) (w : World) : Calls Try.prog 26 #[.int .i64 n, .int .i64 lo, .int .i64 hi] w (Same w (.bool (inR n lo hi))) := by
  unfold inR Same
  by_cases h : lo ≤ n
  · go_enter Try.func26, Try.ntmps26
    go_wp2
    all_goals (go_ret; refine ⟨?_, rfl⟩; simp [h])
  · go_enter Try.func26, Try.ntmps26
    go_wp2
    all_goals (go_ret; refine ⟨?_, rfl⟩; simp; omega)
set_option maxHeartbeats 400000 in
theorem spec_inRange (n lo hi : Int) (w : World) : Calls Try.prog 31 #[.int .i64 n, .int .i64 lo, .int .i64 hi] w (Same w (.bool (inR n lo hi))) := by
  unfold inR Same
  by_cases h : lo ≤ n
  · go_enter Try.func31, Try.ntmps31
    go_wp2
    all_goals (go_ret; refine ⟨?_, rfl⟩; simp [h])
  · go_enter Try.func31, Try.ntmps31
    go_wp2
    all_goals (go_ret; refine ⟨?_, rfl⟩; simp; omega)
theorem impl_isWord (n : Int) (w : World) : Calls Try.prog 41 #[.int .i64 n] w (Same w (.bool (isW n))) := by
  go_enter Try.func41, Try.ntmps41
  go_wp2_with (go_at_call 26; refine (impl_in _ _ _ _).mono ?_; rintro e w' ⟨rfl, rfl⟩)
  go_ret
  exact ⟨rfl, rfl⟩
theorem impl_isOutside (n : Int) (w : World) : Calls Try.prog 57 #[.int .i64 n] w (Same w (.bool (inR n 1000 1007))) := by
  go_enter Try.func57, Try.ntmps57
  go_wp2_with (go_at_call 26; refine (impl_in _ _ _ _).mono ?_; rintro e w' ⟨rfl, rfl⟩)
  go_ret
  exact ⟨rfl, rfl⟩
theorem impl_isTime (n : Int) (w : World) : Calls Try.prog 58 #[.int .i64 n] w (Same w (.bool (inR n 0 10000))) := by
  go_enter Try.func58, Try.ntmps58
  go_wp2_with (go_at_call 26; refine (impl_in _ _ _ _).mono ?_; rintro e w' ⟨rfl, rfl⟩)
  go_ret
  exact ⟨rfl, rfl⟩
theorem spec_validAddr (n : Int) (w : World) : Calls Try.prog 72 #[.int .i64 n] w (Same w (.bool (isW n))) := by
  go_enter Try.func72, Try.ntmps72
  go_wp2_with (go_at_call 31; refine (spec_inRange _ _ _ _).mono ?_; rintro e w' ⟨rfl, rfl⟩)
  go_ret
  exact ⟨rfl, rfl⟩
set_option maxHeartbeats 400000 in
theorem spec_validEnd (a p : Int) (w : World) : Calls Try.prog 97 #[.agg #[.int .i64 a, .int .i64 p]] w (Ret w (.bool (isW a && isW p))) := by
  cases h1 : isW a
  all_goals
    have H1 := Lib.hid h1
    clear h1
    go_enter Try.func97, Try.ntmps97
    go_wp2_with (first | (go_at_call 72; refine (spec_validAddr _ _).mono ?_; rintro e w' ⟨rfl, rfl⟩; rw [H1.out]) | (go_at_call 31; refine (spec_inRange _ _ _ _).mono ?_; rintro e w' ⟨rfl, rfl⟩))
    go_ret
    exact ⟨by simp [inR_word], (Below.refl _ _).alloc (Nat.le_refl _) _⟩
set_option maxHeartbeats 400000 in
theorem impl_areWords (A : Option Addr) (c : Nat) (l : List Int) (w : World) (hl : l.length ≤ 2000000) (hs : Sl encI 1 w A c l) :
    Calls Try.prog 90 #[.slice A l.length c] w (Same w (.bool (l.all isW))) := by
  go_enter Try.func90, Try.ntmps90
  go_wp2
  go_loop [4, 7] (fun _ i => ∃ k : Nat, k ≤ l.length ∧ i = .int .i64 k ∧ (l.take k).all isW = true) (fun _ i => l.length - (intOf i).toNat)
  case atStart => exact ⟨0, Nat.zero_le _, rfl, rfl⟩
  case round =>
    obtain ⟨k, hk, rfl, hall⟩ := hrel
    have HA := Lib.hid hall
    clear hall
    by_cases hlt : k < l.length
    · obtain ⟨b, o, rfl, _, hc⟩ := hs.base hlt
      obtain ⟨x, hx⟩ : ∃ x, l[k]? = some x := ⟨_, List.getElem?_eq_getElem hlt⟩
      have hck := hc k x hx 0 _ rfl
      simp only [Nat.mul_one, Nat.add_zero] at hck
      have X := Lib.hid hx
      clear hs hc hx
      cases hv : isW x
      · have HV := Lib.hid hv
        clear hv
        go_wp2_with (go_at_call 41; refine (impl_isWord _ _).mono ?_; rintro e w' ⟨rfl, rfl⟩; rw [HV.out])
        go_ret
        refine ⟨?_, rfl⟩
        rw [show l.all isW = false from by rw [List.all_eq_false]; exact ⟨x, List.mem_of_getElem? X.out, by rw [HV.out]; simp⟩]
        rfl
      · have HV := Lib.hid hv
        clear hv
        go_wp2_with (go_at_call 41; refine (impl_isWord _ _).mono ?_; rintro e w' ⟨rfl, rfl⟩; rw [HV.out])
        go_round
        case rel => exact ⟨k + 1, by omega, by go_num, by rw [take_succ X.out, List.all_append, HA.out]; simp [HV.out]⟩
        case measure => simp [intOf]; omega
    · go_wp2
      go_ret
      refine ⟨?_, rfl⟩
      have := HA.out
      rw [List.take_of_length_le (by omega)] at this
      rw [this]
      rfl
theorem row2 {W : World} {g : Nat} {x y : Int} {t : TypeId} (h : W.heap[g]? = some (.cells #[.int .i64 x, .int .i64 y] t (0, 0))) (hlt : g < W.heap.size) : Sl encI 1 W (some ⟨g, 0, none⟩) 2 [x, y] := by
  refine ⟨by simp, fun _ => ⟨g, 0, rfl, hlt, ?_⟩⟩
  intro i z hi j u hu
  rw [cell_of_row _ _ _ _ _ _ h]
  match i, hi with
  | 0, hi => simp at hi; subst hi; match j, hu with | 0, hu => simpa [encI] using hu
  | 1, hi => simp at hi; subst hi; match j, hu with | 0, hu => simpa [encI] using hu
set_option maxHeartbeats 400000 in
theorem impl_End_valid (a p : Int) (w : World) : Calls Try.prog 56 #[.agg #[.int .i64 a, .int .i64 p]] w (Ret w (.bool (isW a && isW p))) := by
  have hb : ∀ t t', ((w.alloc (.cells #[.int .i64 a, .int .i64 p] t)).alloc (.cells #[.int .i64 a, .int .i64 p] t')).heap[w.heap.size + 1]? = some (.cells #[.int .i64 a, .int .i64 p] t' (0, 0)) := fun t t' => by
    have := heap_alloc_new (w.alloc (.cells #[.int .i64 a, .int .i64 p] t)) (.cells #[.int .i64 a, .int .i64 p] t')
    simpa using this
  have HB := Lib.hid hb
  clear hb
  go_enter Try.func56, Try.ntmps56
  go_wp2_with (go_at_call 90; refine (impl_areWords _ _ [a, p] _ (by simp) (row2 (HB.out _ _) (by simp))).mono ?_; rintro e w' ⟨rfl, rfl⟩)
  go_ret
  exact ⟨by simp, ((Below.refl _ _).alloc (Nat.le_refl _) _).alloc (by simp) _⟩
set_option maxHeartbeats 400000 in
theorem laws_eqEnd (a p b q : Int) (w : World) : Calls Try.prog 100 #[.agg #[.int .i64 a, .int .i64 p], .agg #[.int .i64 b, .int .i64 q]] w (Ret w (.bool (decide (a = b ∧ p = q)))) := by
  by_cases h1 : a = b
  · subst h1
    by_cases h2 : p = q
    · subst h2
      go_enter Try.func100, Try.ntmps100
      go_wp2
      go_ret
      exact ⟨by simp, ((Below.refl _ _).alloc (Nat.le_refl _) _).alloc (by simp) _⟩
    · have g2 : (p != q) = true := by simpa using h2
      have H2 := Lib.hid h2
      clear h2
      go_enter Try.func100, Try.ntmps100
      go_wp2
      go_ret
      exact ⟨by simp [H2.out], ((Below.refl _ _).alloc (Nat.le_refl _) _).alloc (by simp) _⟩
  · have g1 : (a != b) = true := by simpa using h1
    have H1 := Lib.hid h1
    clear h1
    go_enter Try.func100, Try.ntmps100
    go_wp2
    go_ret
    exact ⟨by simp [H1.out], ((Below.refl _ _).alloc (Nat.le_refl _) _).alloc (by simp) _⟩
set_option maxHeartbeats 400000 in
theorem laws_toEnd (a p : Int) (w : World) : Calls Try.prog 99 #[.agg #[.int .i64 a, .int .i64 p]] w (Ret w (.agg #[.int .i64 a, .int .i64 p])) := by
  go_enter Try.func99, Try.ntmps99
  go_wp2
  exact bodyPost_ret (v := .agg #[.int .i64 a, .int .i64 p]) (by simp [results, Try.results99, go_sem]) rfl ⟨rfl, (((Below.refl _ _).alloc (Nat.le_refl _) _).alloc (by simp) _).alloc (by simp; omega) _⟩
end Go.Proofs.Ytlgfmnognhojnaa
