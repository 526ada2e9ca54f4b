/- The contracts on tables, as the statements' walks take them: each result under a name of its own. -/
import Derived.Test.YtlgfmnognhojnaaMh
import Derived.Test.YtlgfmnognhojnaaMb
import Derived.Test.YtlgfmnognhojnaaMw
namespace Go.Proofs.Ytlgfmnognhojnaa
open Go.RowKit
theorem grown_undrew {w w' : World} {row : Option Nat} (h : w.drew.grownBy w' row) : w.grownBy w' row := ⟨h.os, h.tape, h.output, h.size, h.block⟩
theorem blM_after {w w' : World} {a q p t : Int} {A : Option Addr} {o : Obj} (hg : ((w.alloc o).alloc (.cells #[.int .i64 a, .int .i64 q, .int .i64 p, .int .i64 t] 64)).grownBy w' (blk A)) (hA : blk A = some w.heap.size) : Sl encM 4 w' (some ⟨w.heap.size + 1, 0, none⟩) 1 [⟨a, q, p, t⟩] := by
  have := ((blM (w.alloc o) a q p t).grown hg (by rw [hA, alloc_size]; simp)).sl
  rw [alloc_size] at this
  exact this
theorem blM_before {w w' : World} {a q p t : Int} {A : Option Addr} {o : Obj} (hg : ((w.alloc (.cells #[.int .i64 a, .int .i64 q, .int .i64 p, .int .i64 t] 64)).alloc o).grownBy w' (blk A)) (hA : blk A = some (w.heap.size + 1)) : Sl encM 4 w' (some ⟨w.heap.size, 0, none⟩) 1 [⟨a, q, p, t⟩] :=
  (((blM w a q p t).alloc o).grown hg (by rw [hA]; simp)).sl
theorem neqEnB (a q a' q' : Int) {r : Bool} (h : ((a == a') && (q == q')) = r) (w : World) : (binOp .neq 62 (.agg #[.int .i64 a, .int .i64 q]) (.agg #[.int .i64 a', .int .i64 q'])).run Try.prog w = .ok (.bool (!r)) w := by
  have u3 := Try.underlying3
  have a3 := Try.isAgg3
  have z3 := Try.sizeOf3
  have hS : Try.prog.underlying 62 = some (.struct (Try.prog.fieldsOf 62)) := by kernel_rfl
  have hp : Try.prog.stoodInHeld 62 = false := by kernel_rfl
  subst h
  rw [run_neq_struct, show (10000 : Nat) = 9999 + 1 from rfl, run_equalIn_agg w 9999 62 _ _ hS hp]
  simp only [Program.fieldsOf, Try.underlying62]
  go_simp
  by_cases h1 : a = a' <;> by_cases h2 : q = q' <;> simp [h1, h2]
theorem lend_cells (w : World) (a q : Int) {W : World} (hb : Below (w.alloc (.cells #[.int .i64 a, .int .i64 q] 99)).heap.size (w.alloc (.cells #[.int .i64 a, .int .i64 q] 99)) W) :
    W.cell? ⟨w.heap.size, 0, none⟩ = some (.int .i64 a) ∧ W.cell? ⟨w.heap.size, 1, none⟩ = some (.int .i64 q) ∧ w.heap.size < W.heap.size := by
  have hz := hb.size
  rw [alloc_size] at hz
  exact ⟨bcell hb (by simp) (cell_of_row _ _ _ _ _ _ (heap_alloc_new w _)), bcell hb (by simp) (cell_of_row _ _ _ _ _ _ (heap_alloc_new w _)), hz⟩
section
variable {A A' : Option Addr} {c c' n n' m B : Nat} {l l' L : List Mp} {w : World} {r o : Bool} {x : Mp} {port a q now k v want : Int}
theorem impl_VT (hr : vM l = r) (hn : n = l.length) (hl : l.length ≤ 2000000) (hs : Sl encM 4 w A c l) :
    Calls Try.prog 20 #[.slice A n c] w (Ret w (.bool r)) := by
  subst hr
  exact impl_ValidTable A c n l w hn hl hs
theorem eqTbs (hr : decide (l = l') = r) (hn : n = l.length) (hn' : n' = l'.length) (hl : l.length ≤ 2000000) (hl' : l'.length ≤ 2000000) (hs : Sl encM 4 w A c l) (hs' : Sl encM 4 w A' c' l') :
    Calls Try.prog 12 #[.slice A n c, .slice A' n' c'] w (Ret w (.bool r)) := by
  subst hn
  subst hn'
  subst hr
  exact laws_equalTables A A' c c' l l' w (by omega) (by omega) hs hs'
theorem eqMts (hr : decide (l = l') = r) (hn : n = l.length) (hn' : n' = l'.length) (hl : l.length ≤ 2000000) (hl' : l'.length ≤ 2000000) (hs : Sl encM 4 w A c l) (hs' : Sl encM 4 w A' c' l') :
    Calls Try.prog 54 #[.slice A n c, .slice A' n' c'] w (Ret w (.bool r)) := by
  subst hn
  subst hn'
  subst hr
  exact laws_eqMappingS A A' c c' l l' w (by omega) (by omega) hs hs'
theorem toMts (hn : n = l.length) (hl : l.length ≤ 2000000) (hs : Sl encM 4 w A c l) :
    Calls Try.prog 51 #[.slice A n c] w (fun e w' => ∃ A' c', e = .returned (.slice A' n c') ∧ Ow encM 4 64 w.heap.size w' A' c' l ∧ Below w.heap.size w w') := by
  subst hn
  exact laws_toMappingS A c l w hl hs
end
end Go.Proofs.Ytlgfmnognhojnaa
