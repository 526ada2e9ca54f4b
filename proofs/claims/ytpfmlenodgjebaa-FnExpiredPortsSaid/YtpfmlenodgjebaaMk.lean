/- The contracts on tables, as the statements' walks take them: each result under a name of its own. -/
import Derived.Test.YtpfmlenodgjebaaMh
import Derived.Test.YtpfmlenodgjebaaMb
import Derived.Test.YtpfmlenodgjebaaMw
namespace Go.Proofs.Ytpfmlenodgjebaa
open Go.RowKit
theorem grown_undrew {w w' : World} {row : Option Nat} (h : w.drew.grownBy w' row) : w.grownBy w' row := ⟨h.os, h.tape, h.output, h.size, h.block⟩
theorem blM_after {w w' : World} {a q p t : Int} {A : Option Addr} {o : Obj} (hg : ((w.alloc o).alloc (.cells #[.int .i64 a, .int .i64 q, .int .i64 p, .int .i64 t] 37)).grownBy w' (blk A)) (hA : blk A = some w.heap.size) : Sl encM 4 w' (some ⟨w.heap.size + 1, 0, none⟩) 1 [⟨a, q, p, t⟩] := by
  have := ((blM (w.alloc o) a q p t).grown hg (by rw [hA, alloc_size]; simp)).sl
  rw [alloc_size] at this
  exact this
theorem blM_before {w w' : World} {a q p t : Int} {A : Option Addr} {o : Obj} (hg : ((w.alloc (.cells #[.int .i64 a, .int .i64 q, .int .i64 p, .int .i64 t] 37)).alloc o).grownBy w' (blk A)) (hA : blk A = some (w.heap.size + 1)) : Sl encM 4 w' (some ⟨w.heap.size, 0, none⟩) 1 [⟨a, q, p, t⟩] :=
  (((blM w a q p t).alloc o).grown hg (by rw [hA]; simp)).sl
theorem neqEnB (a q a' q' : Int) {r : Bool} (h : ((a == a') && (q == q')) = r) (w : World) : (binOp .neq 28 (.agg #[.int .i64 a, .int .i64 q]) (.agg #[.int .i64 a', .int .i64 q'])).run Try.prog w = .ok (.bool (!r)) w := by
  have u3 := Try.underlying3
  have a3 := Try.isAgg3
  have z3 := Try.sizeOf3
  have hS : Try.prog.underlying 28 = some (.struct (Try.prog.fieldsOf 28)) := by kernel_rfl
  have hp : Try.prog.stoodInHeld 28 = false := by kernel_rfl
  subst h
  rw [run_neq_struct, show (10000 : Nat) = 9999 + 1 from rfl, run_equalIn_agg w 9999 28 _ _ hS hp]
  simp only [Program.fieldsOf, Try.underlying28]
  go_simp
  by_cases h1 : a = a' <;> by_cases h2 : q = q' <;> simp [h1, h2]
theorem lend_cells (w : World) (a q : Int) {W : World} (hb : Below (w.alloc (.cells #[.int .i64 a, .int .i64 q] 42)).heap.size (w.alloc (.cells #[.int .i64 a, .int .i64 q] 42)) W) :
    W.cell? ⟨w.heap.size, 0, none⟩ = some (.int .i64 a) ∧ W.cell? ⟨w.heap.size, 1, none⟩ = some (.int .i64 q) ∧ w.heap.size < W.heap.size := by
  have hz := hb.size
  rw [alloc_size] at hz
  exact ⟨bcell hb (by simp) (cell_of_row _ _ _ _ _ _ (heap_alloc_new w _)), bcell hb (by simp) (cell_of_row _ _ _ _ _ _ (heap_alloc_new w _)), hz⟩
section
variable {A A' : Option Addr} {c c' n n' m B : Nat} {l l' L : List Mp} {w : World} {r o : Bool} {x : Mp} {port a q now k v want : Int}
theorem impl_VT (hr : vM l = r) (hn : n = l.length) (hl : l.length ≤ 2000000) (hs : Sl encM 4 w A c l) :
    Calls Try.prog 31 #[.slice A n c] w (Ret w (.bool r)) := by
  subst hr
  exact impl_ValidTable A c n l w hn hl hs
theorem impl_OP (hr : outP l a q = v) (hn : n = l.length) (hl : l.length ≤ 2000000) (hs : Sl encM 4 w A c l) :
    Calls Try.prog 26 #[.slice A n c, .agg #[.int .i64 a, .int .i64 q]] w (Ret w (.int .i64 v)) := by
  subst hr
  exact impl_OutsidePort A c n l a q w hn hl hs
theorem impl_IE (ho : insO l port = o) (hx : insE l port = x) (hn : n = l.length) (hl : l.length ≤ 2000000) (hs : Sl encM 4 w A c l) :
    Calls Try.prog 54 #[.slice A n c, .int .i64 port] w (Ret w (.tuple #[.agg #[.int .i64 x.a, .int .i64 x.q], .bool o])) := by
  subst ho
  subst hx
  exact impl_InsideEnd A c n l port w hn hl hs
theorem impl_FP (hr : freeV l want = v) (hn : n = l.length) (hl : l.length ≤ 2000000) (hs : Sl encM 4 w A c l) :
    Calls Try.prog 24 #[.slice A n c, .int .i64 want] w (Ret w (.int .i64 v)) := by
  subst hr
  exact impl_FreePort A c n l want w hn hl hs
theorem spec_FP (hr : freeV l want = v) (hn : n = l.length) (hl : l.length ≤ 2000000) (hs : Sl encM 4 w A c l) :
    Calls Try.prog 25 #[.slice A n c, .int .i64 want] w (Ret w (.int .i64 v)) := by
  subst hr
  exact spec_FreePort A c n l want w hn hl hs
theorem eqTbs (hr : decide (l = l') = r) (hn : n = l.length) (hn' : n' = l'.length) (hl : l.length ≤ 2000000) (hl' : l'.length ≤ 2000000) (hs : Sl encM 4 w A c l) (hs' : Sl encM 4 w A' c' l') :
    Calls Try.prog 30 #[.slice A n c, .slice A' n' c'] w (Ret w (.bool r)) := by
  subst hn
  subst hn'
  subst hr
  exact laws_equalTables A A' c c' l l' w (by omega) (by omega) hs hs'
theorem eqMts (hr : decide (l = l') = r) (hn : n = l.length) (hn' : n' = l'.length) (hl : l.length ≤ 2000000) (hl' : l'.length ≤ 2000000) (hs : Sl encM 4 w A c l) (hs' : Sl encM 4 w A' c' l') :
    Calls Try.prog 36 #[.slice A n c, .slice A' n' c'] w (Ret w (.bool r)) := by
  subst hn
  subst hn'
  subst hr
  exact laws_eqMappingS A A' c c' l l' w (by omega) (by omega) hs hs'
theorem toMts (hn : n = l.length) (hl : l.length ≤ 2000000) (hs : Sl encM 4 w A c l) :
    Calls Try.prog 34 #[.slice A n c] w (fun e w' => ∃ A' c', e = .returned (.slice A' n c') ∧ Ow encM 4 37 w.heap.size w' A' c' l ∧ Below w.heap.size w w') := by
  subst hn
  exact laws_toMappingS A c l w hl hs
theorem laws_markMappingS0 (w : World) : Calls Try.prog 37 #[.slice A 0 c, .int .i64 k] w (Same w (.int .i64 k)) := by
  go_enter Try.func37, Try.ntmps37
  go_wp2
  go_loop [1, 5] (fun t i => t = .int .i64 k ∧ i = .int .i64 0) (fun _ _ => 0)
  case atStart => exact ⟨rfl, rfl⟩
  case round =>
    obtain ⟨rfl, rfl⟩ := hrel
    go_wp2
    go_ret
    exact ⟨rfl, rfl⟩
theorem markMt (hn : n = l.length) (hl : l.length ≤ 4000000) (hk0 : 0 ≤ k) (hk1 : k ≤ 100000000) (hs : Sl encM 4 w A c l) (hf : Fr B w A l.length) :
    Calls Try.prog 37 #[.slice A n c, .int .i64 k] w (fun e w' => e = .returned (.int .i64 (k + 4 * n)) ∧ Sl encM 4 w' A c (markM k n) ∧ ∃ row, w.grownBy w' row ∧ ∀ g, row = some g → B ≤ g ∧ blk A = some g) := by
  subst hn
  rcases Nat.eq_zero_or_pos l.length with h0 | h0
  · rw [h0]
    refine (laws_markMappingS0 w).mono ?_
    rintro e w' ⟨rfl, rfl⟩
    exact ⟨by simp, Sl.nil, none, World.grownBy.refl _ _, by simp⟩
  · refine (laws_markMappingS A c B k l w hl hk0 hk1 hs hf).mono ?_
    rintro e w' ⟨rfl, h1, h2⟩
    exact ⟨rfl, h1, _, h2, fun g hg => ⟨hf.blkB h0 g hg, hg⟩⟩
end
end Go.Proofs.Ytpfmlenodgjebaa
