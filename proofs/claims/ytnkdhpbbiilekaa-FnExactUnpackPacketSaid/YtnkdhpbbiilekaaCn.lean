/- Copies of contacts, contacts without some; NoteContact, DropContacts: the program's and the reference's, walked. -/
import Derived.Test.YtnkdhpbbiilekaaCl
import Derived.Test.YtnkdhpbbiilekaaCm
namespace Go.Proofs.Ytnkdhpbbiilekaa
open Go.RowKit

/-- A result: it reads as l, lies in memory of its own from B on, and may be written. -/
def Out {α : Type} (enc : α → List Value) (k B : Nat) (w : World) (A : Option Addr) (c : Nat) (l : List α) : Prop := Sl enc k w A c l ∧ Fr B w A l.length
theorem Ow.out {α : Type} {enc : α → List Value} {k : Nat} {e : TypeId} {B c : Nat} {w : World} {A : Option Addr} {l : List α} (h : Ow enc k e B w A c l) : Out enc k B w A c l := ⟨h.sl, h.fr⟩
theorem Out.below {α : Type} {enc : α → List Value} {k B c : Nat} {w w' : World} {A : Option Addr} {l : List α} (h : Out enc k B w A c l) (hb : Below w.heap.size w w') : Out enc k B w' A c l := ⟨h.1.below hb, h.2.below hb⟩
theorem Out.mono {α : Type} {enc : α → List Value} {k B B' c : Nat} {w : World} {A : Option Addr} {l : List α} (h : Out enc k B w A c l) (hB : B' ≤ B) : Out enc k B' w A c l := ⟨h.1, h.2.mono hB⟩
theorem Sl.cap {α : Type} {enc : α → List Value} {k c : Nat} {w : World} {A : Option Addr} {l : List α} (h : Sl enc k w A c l) : Sl enc k w A l.length l := ⟨Nat.le_refl _, h.2⟩
theorem Ow.empty {α : Type} {enc : α → List Value} {k : Nat} {e : TypeId} {B : Nat} (w : World) (hB : B ≤ w.heap.size) : Ow enc k e B (w.alloc (.cells #[] e)) (some ⟨w.heap.size, 0, none⟩) 0 ([] : List α) :=
  .inr ⟨_, rfl, hB, Nat.le_refl _, Nat.zero_le _, #[], heap_alloc_new w _, by simp, by simp, by simp⟩
/-- Those for which f does not hold. -/
def keep {α : Type} (f : α → Bool) (l : List α) : List α := l.filter fun x => !f x
theorem drop_cons {α : Type} {l : List α} {k : Nat} {x : α} (h : l[k]? = some x) : l.drop k = x :: l.drop (k + 1) := by
  have hk := lt_of_get h
  rw [List.drop_eq_getElem_cons hk]
  rw [List.getElem?_eq_getElem hk] at h
  injection h with h
  rw [h]
theorem keep_snoc {α : Type} {f : α → Bool} {l : List α} {k : Nat} {x : α} (h : l[k]? = some x) : keep f (l.take (k + 1)) = keep f (l.take k) ++ (if f x then [] else [x]) := by
  rw [take_succ h]
  unfold keep
  rw [List.filter_append]
  cases hf : f x <;> simp [hf]
theorem keep_start {α : Type} {f : α → Bool} {l : List α} {k : Nat} {x : α} (h : l[k]? = some x) (hf : f x = true) (hn : ∀ y ∈ l.take k, f y = false) : keep f (l.take (k + 1)) = l.take k := by
  rw [keep_snoc h, hf, if_pos rfl, List.append_nil]
  unfold keep
  rw [List.filter_eq_self]
  intro y hy
  rw [hn y hy]
  rfl
theorem mid_get {α : Type} {F X l : List α} {n m : Nat} {x : α} (h1 : m = F.length) (h2 : m + X.length = n) (h : l[n]? = some x) : (F ++ X ++ l.drop n)[n]? = some x := by
  rw [List.getElem?_append_right (by rw [List.length_append]; omega), List.length_append, List.getElem?_drop]
  rw [show n + (n - (F.length + X.length)) = n from by omega]
  exact h
theorem mid_at {F X : List Ct} {m : Nat} (h1 : m = F.length) (h2 : 0 < X.length) (R : List Ct) : ∃ p a q, (F ++ X ++ R)[m]? = some ⟨p, a, q⟩ := ct_at (by rw [List.length_append, List.length_append]; omega)
theorem mid_set {F X l : List Ct} {n m : Nat} {x : Ct} (h1 : m = F.length) (hX : X ≠ []) (h : l[n]? = some x) : (F ++ X ++ l.drop n).set m x = F ++ [x] ++ (X.tail ++ [x]) ++ l.drop (n + 1) := by
  obtain ⟨y, X', rfl⟩ := List.exists_cons_of_ne_nil hX
  rw [List.append_assoc, List.set_append_right m _ (by omega), h1, Nat.sub_self, drop_cons h]
  simp
theorem one_below {w w' : World} {p a q : Int} {t : TypeId} (hb : Below (w.alloc (.cells #[.int .i64 p, .int .i64 a, .int .i64 q] t)).heap.size (w.alloc (.cells #[.int .i64 p, .int .i64 a, .int .i64 q] t)) w') :
    (w'.cell? ⟨w.heap.size, 0, none⟩ = some (.int .i64 p) ∧ w'.cell? ⟨w.heap.size, 1, none⟩ = some (.int .i64 a) ∧ w'.cell? ⟨w.heap.size, 2, none⟩ = some (.int .i64 q)) ∧ w.heap.size < w'.heap.size := by
  have hz := hb.size
  rw [alloc_size] at hz
  exact ⟨⟨bcell hb (by rw [alloc_size]; exact Nat.lt_succ_self _) (cell_of_row _ _ _ _ _ _ (heap_alloc_new w _)), bcell hb (by rw [alloc_size]; exact Nat.lt_succ_self _) (cell_of_row _ _ _ _ _ _ (heap_alloc_new w _)), bcell hb (by rw [alloc_size]; exact Nat.lt_succ_self _) (cell_of_row _ _ _ _ _ _ (heap_alloc_new w _))⟩, hz⟩
end Go.Proofs.Ytnkdhpbbiilekaa
