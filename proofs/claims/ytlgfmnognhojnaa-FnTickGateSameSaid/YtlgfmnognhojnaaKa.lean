/- Packets as values, and the blocks that hold one. -/
import Derived.Test.YtlgfmnognhojnaaKd
import Derived.Test.YtlgfmnognhojnaaTz
namespace Go.Proofs.Ytlgfmnognhojnaa
open Go.RowKit
/-- A packet's value, its data at A. -/
def pkV (x : Pk) (s : Value) : Value := .agg #[.int .i64 x.k, .int .i64 x.fa, .int .i64 x.fp, .int .i64 x.ta, .int .i64 x.tp, s]
/-- Block g holds a packet's six cells and nothing else. -/
def PkAt (w : World) (g : Nat) (k fa fp ta tp : Int) (s : Value) : Prop := ∃ t, w.heap[g]? = some (.cells #[.int .i64 k, .int .i64 fa, .int .i64 fp, .int .i64 ta, .int .i64 tp, s] t (0, 0))
section
variable {w w' : World} {g B : Nat} {k fa fp ta tp : Int} {s : Value}
theorem PkAt.new (w : World) (t : TypeId) (k fa fp ta tp : Int) (s : Value) : PkAt (w.alloc (.cells #[.int .i64 k, .int .i64 fa, .int .i64 fp, .int .i64 ta, .int .i64 tp, s] t)) w.heap.size k fa fp ta tp s := ⟨t, heap_alloc_new w _⟩
theorem PkAt.lt (h : PkAt w g k fa fp ta tp s) : g < w.heap.size := by
  obtain ⟨t, h⟩ := h
  exact (Array.getElem?_eq_some_iff.1 h).1
theorem PkAt.of_heap (h : PkAt w g k fa fp ta tp s) (hb : w'.heap[g]? = w.heap[g]?) : PkAt w' g k fa fp ta tp s := by
  obtain ⟨t, h⟩ := h
  exact ⟨t, hb.trans h⟩
theorem PkAt.below (h : PkAt w g k fa fp ta tp s) (hb : Below B w w') (hg : g < B) : PkAt w' g k fa fp ta tp s := h.of_heap (hb.block g hg)
theorem PkAt.below_ (h : PkAt w g k fa fp ta tp s) (hb : Below w.heap.size w w') : PkAt w' g k fa fp ta tp s := h.below hb h.lt
theorem PkAt.grown {row : Option Nat} (h : PkAt w g k fa fp ta tp s) (hb : w.grownBy w' row) (hg : some g ≠ row) : PkAt w' g k fa fp ta tp s := h.of_heap (hb.block g h.lt hg)
theorem PkAt.alloc (h : PkAt w g k fa fp ta tp s) (o : Obj) : PkAt (w.alloc o) g k fa fp ta tp s := h.of_heap (Below.heap_alloc _ _ _ h.lt)
theorem PkAt.far (h : PkAt w g k fa fp ta tp s) {p : Addr} (hp : p.block ≠ g) (u : Value) : PkAt (w.setCell p u) g k fa fp ta tp s := h.of_heap (Below.heap_setCell _ _ _ _ (Ne.symm hp))
theorem PkAt.cells (h : PkAt w g k fa fp ta tp s) : w.cell? ⟨g, 0, none⟩ = some (.int .i64 k) ∧ w.cell? ⟨g, 1, none⟩ = some (.int .i64 fa) ∧ w.cell? ⟨g, 2, none⟩ = some (.int .i64 fp) ∧ w.cell? ⟨g, 3, none⟩ = some (.int .i64 ta) ∧ w.cell? ⟨g, 4, none⟩ = some (.int .i64 tp) ∧ w.cell? ⟨g, 5, none⟩ = some s := by
  obtain ⟨t, h⟩ := h
  exact ⟨cell_of_row _ _ _ _ _ _ h, cell_of_row _ _ _ _ _ _ h, cell_of_row _ _ _ _ _ _ h, cell_of_row _ _ _ _ _ _ h, cell_of_row _ _ _ _ _ _ h, cell_of_row _ _ _ _ _ _ h⟩
theorem PkAt.free (h : PkAt w g k fa fp ta tp s) (j : Nat) : w.frozen? ⟨g, j, none⟩ = false := by
  obtain ⟨t, h⟩ := h
  simp [World.frozen?, h]
theorem PkAt.frees (h : PkAt w g k fa fp ta tp s) : w.frozen? ⟨g, 0, none⟩ = false ∧ w.frozen? ⟨g, 1, none⟩ = false ∧ w.frozen? ⟨g, 2, none⟩ = false ∧ w.frozen? ⟨g, 3, none⟩ = false ∧ w.frozen? ⟨g, 4, none⟩ = false ∧ w.frozen? ⟨g, 5, none⟩ = false := ⟨h.free 0, h.free 1, h.free 2, h.free 3, h.free 4, h.free 5⟩
theorem PkAt.set (h : PkAt w g k fa fp ta tp s) (j : Nat) (u : Value) {k' fa' fp' ta' tp' : Int} {s' : Value} (e : ([.int .i64 k, .int .i64 fa, .int .i64 fp, .int .i64 ta, .int .i64 tp, s] : List Value).set j u = [.int .i64 k', .int .i64 fa', .int .i64 fp', .int .i64 ta', .int .i64 tp', s']) :
    PkAt (w.setCell ⟨g, j, none⟩ u) g k' fa' fp' ta' tp' s' := by
  obtain ⟨t, h⟩ := h
  refine ⟨t, ?_⟩
  simp [World.setCell, Array.getElem?_modify, h, e]
end
end Go.Proofs.Ytlgfmnognhojnaa
