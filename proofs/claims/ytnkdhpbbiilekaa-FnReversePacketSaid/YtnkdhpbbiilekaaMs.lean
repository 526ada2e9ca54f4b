/- MapEnd, TouchPort: contracts in literal form. -/
import Derived.Test.YtnkdhpbbiilekaaMr
namespace Go.Proofs.Ytnkdhpbbiilekaa
open Go.RowKit
section
variable {A : Option Addr} {c n m : Nat} {l L : List Mp} {w : World} {r : Bool} {a q now v port : Int}
end
theorem map_fit {l L : List Mp} {a q now v : Int} {r : Bool} (h : mapV l a q now = (L, v, r)) (hl : l.length ≤ 10) : L.length ≤ 11 := by
  have := mapV_len l a q now
  rw [h] at this
  simp only at this
  omega
end Go.Proofs.Ytnkdhpbbiilekaa
