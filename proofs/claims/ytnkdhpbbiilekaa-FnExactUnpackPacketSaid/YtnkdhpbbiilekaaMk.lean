/- The contracts on tables, as the statements' walks take them: each result under a name of its own. -/
import Derived.Test.YtnkdhpbbiilekaaMh
import Derived.Test.YtnkdhpbbiilekaaMb
import Derived.Test.YtnkdhpbbiilekaaMw
namespace Go.Proofs.Ytnkdhpbbiilekaa
open Go.RowKit
theorem grown_undrew {w w' : World} {row : Option Nat} (h : w.drew.grownBy w' row) : w.grownBy w' row := ⟨h.os, h.tape, h.output, h.size, h.block⟩
theorem neqEnB (a q a' q' : Int) {r : Bool} (h : ((a == a') && (q == q')) = r) (w : World) : (binOp .neq 24 (.agg #[.int .i64 a, .int .i64 q]) (.agg #[.int .i64 a', .int .i64 q'])).run Try.prog w = .ok (.bool (!r)) w := by
  have u3 := Try.underlying3
  have a3 := Try.isAgg3
  have z3 := Try.sizeOf3
  have hS : Try.prog.underlying 24 = some (.struct (Try.prog.fieldsOf 24)) := by kernel_rfl
  have hp : Try.prog.stoodInHeld 24 = false := by kernel_rfl
  subst h
  rw [run_neq_struct, show (10000 : Nat) = 9999 + 1 from rfl, run_equalIn_agg w 9999 24 _ _ hS hp]
  simp only [Program.fieldsOf, Try.underlying24]
  go_simp
  by_cases h1 : a = a' <;> by_cases h2 : q = q' <;> simp [h1, h2]
theorem lend_cells (w : World) (a q : Int) {W : World} (hb : Below (w.alloc (.cells #[.int .i64 a, .int .i64 q] 35)).heap.size (w.alloc (.cells #[.int .i64 a, .int .i64 q] 35)) W) :
    W.cell? ⟨w.heap.size, 0, none⟩ = some (.int .i64 a) ∧ W.cell? ⟨w.heap.size, 1, none⟩ = some (.int .i64 q) ∧ w.heap.size < W.heap.size := by
  have hz := hb.size
  rw [alloc_size] at hz
  exact ⟨bcell hb (by simp) (cell_of_row _ _ _ _ _ _ (heap_alloc_new w _)), bcell hb (by simp) (cell_of_row _ _ _ _ _ _ (heap_alloc_new w _)), hz⟩
section
variable {A A' : Option Addr} {c c' n n' m B : Nat} {l l' L : List Mp} {w : World} {r o : Bool} {x : Mp} {port a q now k v want : Int}
end
end Go.Proofs.Ytnkdhpbbiilekaa
