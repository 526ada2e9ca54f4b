/- The contracts on contacts, as the statements' walks take them: each result under a name of its own. -/
import Derived.Test.YtnkdhpbbiilekaaCh
import Derived.IntWalk
namespace Go.Proofs.Ytnkdhpbbiilekaa
open Go.RowKit
/-- The cells of an end that was laid in w. -/
theorem end_cells (w : World) (a q : Int) {W : World} (hb : Below (w.alloc (.cells #[.int .i64 a, .int .i64 q] 24)).heap.size (w.alloc (.cells #[.int .i64 a, .int .i64 q] 24)) W) :
    W.cell? ⟨w.heap.size, 0, none⟩ = some (.int .i64 a) ∧ W.cell? ⟨w.heap.size, 1, none⟩ = some (.int .i64 q) ∧ w.heap.size < W.heap.size := by
  have hz := hb.size
  rw [alloc_size] at hz
  exact ⟨bcell hb (by simp) (cell_of_row _ _ _ _ _ _ (heap_alloc_new w _)), bcell hb (by simp) (cell_of_row _ _ _ _ _ _ (heap_alloc_new w _)), hz⟩
section
variable {A A' : Option Addr} {c c' n n' m : Nat} {l l' L : List Ct} {w : World} {r : Bool} {kind port fa fq p a q : Int}
end
theorem keep_at {α : Type} {f : α → Bool} {l : List α} {k : Nat} {x : α} (h : l[k]? = some x) (hf : f x = false) : (keep f l)[(keep f (l.take k)).length]? = some x := by
  have e : keep f l = keep f (l.take k) ++ x :: keep f (l.drop (k + 1)) := by
    conv => lhs; rw [← List.take_append_drop k l, drop_cons h]
    unfold keep
    rw [List.filter_append, List.filter_cons, hf]
    rfl
  rw [e, List.getElem?_append_right (Nat.le_refl _), Nat.sub_self]
  rfl
theorem Out.grown {α : Type} {enc : α → List Value} {k B c : Nat} {w w' : World} {A : Option Addr} {l : List α} {row : Option Nat} (h : Out enc k B w A c l) (hg : w.grownBy w' row) (hne : ∀ b, row = some b → b < B) : Out enc k B w' A c l := by
  refine ⟨⟨h.1.1, fun hl => ?_⟩, fun h0 => ?_⟩
  · obtain ⟨b, o, rfl, hlt, hr⟩ := h.1.2 hl
    obtain ⟨b', o', e, hB, _, _⟩ := h.2 (List.length_pos_iff.2 hl)
    injection e with e; injection e with e1 e2; subst e1
    exact ⟨b, o, rfl, Nat.lt_of_lt_of_le hlt hg.size, hr.grown hg hlt (by intro e; have := hne _ e.symm; omega)⟩
  · obtain ⟨b, o, rfl, hB, hlt, hf⟩ := h.2 h0
    refine ⟨b, o, rfl, hB, Nat.lt_of_lt_of_le hlt hg.size, fun j => ?_⟩
    rw [← hf j]
    unfold World.frozen?
    rw [hg.block b hlt (by intro e; have := hne _ e.symm; omega)]
theorem Ow.grown_lt {α : Type} {enc : α → List Value} {k B c M : Nat} {e : TypeId} {w w' : World} {A : Option Addr} {l : List α} {row : Option Nat} (h : Ow enc k e B w A c l) (hg : w.grownBy w' row) (hlt : ∀ g, Go.Proofs.Ytnkdhpbbiilekaa.blk A = some g → g < M) (hrow : ∀ g, row = some g → M ≤ g) : Ow enc k e B w' A c l :=
  h.of_heap fun g h1 => hg.block g (h.blk g h1).2 (by intro e; have := hrow g e.symm; have := hlt g h1; omega)
theorem Fr.blkB {B n : Nat} {w : World} {A : Option Addr} (h : Fr B w A n) (hn : 0 < n) : ∀ g, blk A = some g → B ≤ g := by
  obtain ⟨b, o, rfl, hB, _, _⟩ := h hn
  intro g hg
  simp [blk] at hg
  omega
section
variable {A : Option Addr} {c n B : Nat} {l : List Ct} {w : World} {k : Int}
end
end Go.Proofs.Ytnkdhpbbiilekaa
