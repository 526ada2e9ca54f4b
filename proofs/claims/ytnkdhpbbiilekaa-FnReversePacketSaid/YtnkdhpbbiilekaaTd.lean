/- DeleteFunc on mappings, walked. -/
import Derived.Test.YtnkdhpbbiilekaaMk
namespace Go.Proofs.Ytnkdhpbbiilekaa
open Go.RowKit
theorem mid_atM {F X : List Mp} {m : Nat} (h1 : m = F.length) (h2 : 0 < X.length) (R : List Mp) : ∃ a q p t, (F ++ X ++ R)[m]? = some ⟨a, q, p, t⟩ := mt_at (by rw [List.length_append, List.length_append]; omega)
theorem mid_setM {F X l : List Mp} {n m : Nat} {x : Mp} (h1 : m = F.length) (hX : X ≠ []) (h : l[n]? = some x) : (F ++ X ++ l.drop n).set m x = F ++ [x] ++ (X.tail ++ [x]) ++ l.drop (n + 1) := by
  obtain ⟨y, X', rfl⟩ := List.exists_cons_of_ne_nil hX
  rw [List.append_assoc, List.set_append_right m _ (by omega), h1, Nat.sub_self, drop_cons h]
  simp
theorem one_belowM {w w' : World} {a q p t : Int} {ty : TypeId} (hb : Below (w.alloc (.cells #[.int .i64 a, .int .i64 q, .int .i64 p, .int .i64 t] ty)).heap.size (w.alloc (.cells #[.int .i64 a, .int .i64 q, .int .i64 p, .int .i64 t] ty)) w') :
    (w'.cell? ⟨w.heap.size, 0, none⟩ = some (.int .i64 a) ∧ w'.cell? ⟨w.heap.size, 1, none⟩ = some (.int .i64 q) ∧ w'.cell? ⟨w.heap.size, 2, none⟩ = some (.int .i64 p) ∧ w'.cell? ⟨w.heap.size, 3, none⟩ = some (.int .i64 t)) ∧ w.heap.size < w'.heap.size := by
  have hz := hb.size
  rw [alloc_size] at hz
  exact ⟨⟨bcell hb (by rw [alloc_size]; exact Nat.lt_succ_self _) (cell_of_row _ _ _ _ _ _ (heap_alloc_new w _)), bcell hb (by rw [alloc_size]; exact Nat.lt_succ_self _) (cell_of_row _ _ _ _ _ _ (heap_alloc_new w _)), bcell hb (by rw [alloc_size]; exact Nat.lt_succ_self _) (cell_of_row _ _ _ _ _ _ (heap_alloc_new w _)), bcell hb (by rw [alloc_size]; exact Nat.lt_succ_self _) (cell_of_row _ _ _ _ _ _ (heap_alloc_new w _))⟩, hz⟩
end Go.Proofs.Ytnkdhpbbiilekaa
