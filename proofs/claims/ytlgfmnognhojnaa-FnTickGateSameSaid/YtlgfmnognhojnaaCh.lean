/- The draws of contacts, walked: the arguments of the statements on contacts. -/
import Derived.Test.YtlgfmnognhojnaaCg
import Derived.StillTailTactics
namespace Go.Proofs.Ytlgfmnognhojnaa
open Go.RowKit
theorem ow_away {α : Type} {enc : α → List Value} {k : Nat} {e : TypeId} {B c g : Nat} {w w' : World} {A : Option Addr} {l : List α} (h : Ow enc k e B w A c l) (hg : w.grownBy w' (some g)) (hlt : g < B) : Ow enc k e B w' A c l := h.grown hg (by
  rcases h1 : blk A with _ | b
  · exact .inl rfl
  · refine .inr ?_
    have := (h.blk b h1).1
    intro e; injection e with e; omega)
theorem Ow.far {α : Type} {enc : α → List Value} {k : Nat} {e : TypeId} {B c : Nat} {w : World} {A : Option Addr} {l : List α} (h : Ow enc k e B w A c l) {p : Addr} (hp : p.block < B) (u : Value) : Ow enc k e B (w.setCell p u) A c l :=
  h.of_heap fun g hg => Below.heap_setCell _ _ _ _ (by have := (h.blk g hg).1; omega)
theorem Ow.far2 {α : Type} {enc : α → List Value} {k : Nat} {e : TypeId} {B c : Nat} {w : World} {A : Option Addr} {l : List α} (h : Ow enc k e B w A c l) {p : Addr} (hp : ∀ g, Go.Proofs.Ytlgfmnognhojnaa.blk A = some g → p.block ≠ g) (u : Value) : Ow enc k e B (w.setCell p u) A c l :=
  h.of_heap fun g hg => Below.heap_setCell _ _ _ _ (hp g hg).symm
end Go.Proofs.Ytlgfmnognhojnaa
