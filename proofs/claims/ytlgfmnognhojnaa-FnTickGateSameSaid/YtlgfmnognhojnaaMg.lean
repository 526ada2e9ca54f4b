/- The generators of tables, walked: what they return is some data that reads well. -/
import Derived.Test.YtlgfmnognhojnaaMm
namespace Go.Proofs.Ytlgfmnognhojnaa
open Go.RowKit
theorem mapV_len (l : List Mp) (a q now : Int) : (mapV l a q now).1.length ≤ 9 := by
  unfold mapV
  split
  · next h =>
    simp only [Bool.and_eq_true] at h
    have h8 := ((vM_iff l).1 h.1).1
    unfold mapR
    split
    · rw [List.length_set]; omega
    · split
      · simp
      · rw [List.length_append]; simp; omega
  · simp
theorem ow_keep {α : Type} {enc : α → List Value} {k : Nat} {e : TypeId} {B c g : Nat} {w w' : World} {A : Option Addr} {l : List α} (h : Ow enc k e B w A c l) (hg : w.grownBy w' (some g)) (hlt : g < B) : Ow enc k e B w' A c l := ow_away h hg hlt
end Go.Proofs.Ytlgfmnognhojnaa
