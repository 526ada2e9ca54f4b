/- The functions on contacts, walked. -/
import Derived.Test.YtnkdhpbbiilekaaBase
namespace Go.Proofs.Ytnkdhpbbiilekaa
open Go.RowKit

/-- The first place at which p holds, or -1. -/
def idx {α : Type} (p : α → Bool) (l : List α) : Int := match l.findIdx? p with | some i => (i : Int) | none => -1
theorem idx_at {α : Type} {p : α → Bool} {l : List α} {k : Nat} {x : α} (h : l[k]? = some x) (hp : p x = true) (hn : ∀ y ∈ l.take k, p y = false) : idx p l = k := by
  have hk := lt_of_get h
  have : l.findIdx? p = some k := by
    rw [List.findIdx?_eq_some_iff_getElem]
    refine ⟨hk, ?_, ?_⟩
    · rw [List.getElem?_eq_getElem hk] at h; injection h with h; rw [h]; exact hp
    · intro j hj
      have hy : l[j]'(by omega) ∈ l.take k := by
        rw [List.mem_take_iff_getElem]
        exact ⟨j, by omega, rfl⟩
      rw [hn _ hy]; simp
  simp [idx, this]
theorem idx_not {α : Type} {p : α → Bool} {l : List α} (hn : ∀ y ∈ l, p y = false) : idx p l = -1 := by
  have : l.findIdx? p = none := by
    rw [List.findIdx?_eq_none_iff]
    intro x hx
    exact hn x hx
  simp [idx, this]
theorem idx_nonneg {α : Type} (p : α → Bool) (l : List α) : decide (0 ≤ idx p l) = l.any p := by
  cases h : l.any p
  · rw [List.any_eq_false] at h
    rw [idx_not (fun y hy => by simpa using h y hy)]; rfl
  · rw [List.any_eq_true] at h
    obtain ⟨x, hx, hp⟩ := h
    unfold idx
    cases hf : l.findIdx? p with
    | none => rw [List.findIdx?_eq_none_iff] at hf; have := hf x hx; rw [hp] at this; cases this
    | some i => simp
theorem idx_found {α : Type} {p : α → Bool} {l : List α} (h : l.any p = true) : ∃ k x, l[k]? = some x ∧ p x = true ∧ (∀ y ∈ l.take k, p y = false) ∧ idx p l = k := by
  rw [List.any_eq_true] at h
  obtain ⟨x, hx, hp⟩ := h
  cases hf : l.findIdx? p with
  | none => rw [List.findIdx?_eq_none_iff] at hf; have := hf x hx; rw [hp] at this; cases this
  | some i =>
    rw [List.findIdx?_eq_some_iff_getElem] at hf
    obtain ⟨hi, h1, h2⟩ := hf
    refine ⟨i, l[i], List.getElem?_eq_getElem hi, h1, ?_, ?_⟩
    · intro y hy
      obtain ⟨j, hj, hjy⟩ := mem_take_of hy
      have := h2 j hj
      rw [List.getElem?_eq_getElem (by omega)] at hjy
      injection hjy with hjy
      rw [hjy] at this
      simpa using this
    · exact idx_at (List.getElem?_eq_getElem hi) h1 (by
        intro y hy
        obtain ⟨j, hj, hjy⟩ := mem_take_of hy
        have := h2 j hj
        rw [List.getElem?_eq_getElem (by omega)] at hjy
        injection hjy with hjy
        rw [hjy] at this
        simpa using this)
theorem none_step {α : Type} {p : α → Bool} {l : List α} {k : Nat} {x : α} (h : l[k]? = some x) (hx : p x = false) (hn : ∀ y ∈ l.take k, p y = false) : ∀ y ∈ l.take (k + 1), p y = false := by
  rw [take_succ h]
  intro y hy
  rcases List.mem_append.1 hy with hy | hy
  · exact hn y hy
  · simp at hy; subst hy; exact hx
end Go.Proofs.Ytnkdhpbbiilekaa
