/- The laws' own helpers on contacts: copies, comparisons, marks. -/
import Derived.Test.YtnkdhpbbiilekaaCt
import Derived.Test.YtnkdhpbbiilekaaOwn
namespace Go.Proofs.Ytnkdhpbbiilekaa
open Go.RowKit
def zeroCt : Ct := ⟨0, 0, 0⟩
theorem Row.store3 {W : World} {b o i : Nat} {L : List Ct} {p a q : Int} (h : Row encC 3 W b o L) (hi : L[i]? = some ⟨p, a, q⟩) (p' a' q' : Int) :
    Row encC 3 (((W.setCell ⟨b, o + i * 3, none⟩ (.int .i64 p')).setCell ⟨b, o + i * 3 + 1, none⟩ (.int .i64 a')).setCell ⟨b, o + i * 3 + 1 + 1, none⟩ (.int .i64 q')) b o (L.set i ⟨p', a', q'⟩) := by
  have hil := lt_of_get hi
  have h1 := h.store (x' := ⟨p', a, q⟩) (u := .int .i64 p') (j := 0) (fun _ => rfl) hi (by decide) rfl
  have h2 := h1.store (x' := ⟨p', a', q⟩) (u := .int .i64 a') (j := 1) (fun _ => rfl) (List.getElem?_set_self hil) (by decide) rfl
  have h3 := h2.store (x' := ⟨p', a', q'⟩) (u := .int .i64 q') (j := 2) (fun _ => rfl) (List.getElem?_set_self (by simpa using hil)) (by decide) rfl
  simpa using h3
/-- n contacts that hold k, k + 1, .. -/
def markC (k : Int) : Nat → List Ct
  | 0 => []
  | n + 1 => ⟨k, k + 1, k + 2⟩ :: markC (k + 3) n
theorem markC_len (k : Int) (n : Nat) : (markC k n).length = n := by
  induction n generalizing k with
  | zero => rfl
  | succ n ih => simp [markC, ih]
theorem markC_get (k : Int) (n i : Nat) (h : i < n) : (markC k n)[i]? = some ⟨k + 3 * i, k + 3 * i + 1, k + 3 * i + 2⟩ := by
  induction n generalizing k i with
  | zero => omega
  | succ n ih =>
    cases i with
    | zero => simp [markC]
    | succ i =>
      simp only [markC, List.getElem?_cons_succ]
      rw [ih _ _ (by omega)]
      congr 2 <;> (push_cast; omega)
theorem Bl.store3 {e : TypeId} {W : World} {g m i : Nat} {L : List Ct} {p a q : Int} (h : Bl encC 3 e W g m L) (hi : L[i]? = some ⟨p, a, q⟩) (p' a' q' : Int) :
    Bl encC 3 e (((W.setCell ⟨g, i * 3, none⟩ (.int .i64 p')).setCell ⟨g, i * 3 + 1, none⟩ (.int .i64 a')).setCell ⟨g, i * 3 + 2, none⟩ (.int .i64 q')) g m (L.set i ⟨p', a', q'⟩) := by
  have hil := lt_of_get hi
  have h1 := h.store (x' := ⟨p', a, q⟩) (u := .int .i64 p') (j := 0) (fun _ => rfl) hi (by decide) rfl
  have h2 := h1.store (x' := ⟨p', a', q⟩) (u := .int .i64 a') (j := 1) (fun _ => rfl) (List.getElem?_set_self hil) (by decide) rfl
  have h3 := h2.store (x' := ⟨p', a', q'⟩) (u := .int .i64 q') (j := 2) (fun _ => rfl) (List.getElem?_set_self (by simpa using hil)) (by decide) rfl
  simpa using h3
theorem Bl.ctAt {e : TypeId} {w : World} {g m i : Nat} {p a q : Int} {L : List Ct} (h : Bl encC 3 e w g m L) (hi : L[i]? = some ⟨p, a, q⟩) :
    (w.cell? ⟨g, i * 3, none⟩ = some (.int .i64 p) ∧ w.cell? ⟨g, i * 3 + 1, none⟩ = some (.int .i64 a) ∧ w.cell? ⟨g, i * 3 + 2, none⟩ = some (.int .i64 q)) ∧ w.frozen? ⟨g, i * 3, none⟩ = false ∧ w.frozen? ⟨g, i * 3 + 1, none⟩ = false ∧ w.frozen? ⟨g, i * 3 + 2, none⟩ = false := by
  have h0 := h.row i _ hi 0 _ rfl
  have h1 := h.row i _ hi 1 _ rfl
  have h2 := h.row i _ hi 2 _ rfl
  rw [Nat.zero_add] at h0 h1 h2
  exact ⟨⟨h0, h1, h2⟩, h.frozen _, h.frozen _, h.frozen _⟩
theorem Bl.ct3 {e : TypeId} {w : World} {g m : Nat} {p a q : Int} {L : List Ct} (h : Bl encC 3 e w g m (⟨p, a, q⟩ :: L)) :
    (w.cell? ⟨g, 0, none⟩ = some (.int .i64 p) ∧ w.cell? ⟨g, 1, none⟩ = some (.int .i64 a) ∧ w.cell? ⟨g, 2, none⟩ = some (.int .i64 q)) ∧ w.frozen? ⟨g, 0, none⟩ = false ∧ w.frozen? ⟨g, 1, none⟩ = false ∧ w.frozen? ⟨g, 2, none⟩ = false :=
  ⟨⟨h.row 0 _ rfl 0 _ rfl, h.row 0 _ rfl 1 _ rfl, h.row 0 _ rfl 2 _ rfl⟩, h.frozen 0, h.frozen 1, h.frozen 2⟩
theorem list_ne {α : Type} {l l' : List α} {k : Nat} {x y : α} (h : l[k]? = some x) (h' : l'[k]? = some y) (hne : x ≠ y) : l ≠ l' := by
  rintro rfl
  rw [h] at h'
  injection h' with h'
  exact hne h'
theorem list_eq_of {α : Type} {l l' : List α} (hl : l.length = l'.length) (h : ∀ j, j < l.length → l[j]? = l'[j]?) : l = l' := by
  refine List.ext_getElem? fun j => ?_
  by_cases hj : j < l.length
  · exact h j hj
  · rw [List.getElem?_eq_none (by omega), List.getElem?_eq_none (by omega)]
theorem same_step {α : Type} {l l' : List α} {k : Nat} {x : α} (hx : l[k]? = some x) (hy : l'[k]? = some x) (h : ∀ j, j < k → l[j]? = l'[j]?) : ∀ j, j < k + 1 → l[j]? = l'[j]? := by
  intro j hj
  by_cases e : j = k
  · subst e; rw [hx, hy]
  · exact h j (by omega)
end Go.Proofs.Ytnkdhpbbiilekaa
