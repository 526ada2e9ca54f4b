/- Valid tables: the program's test and the reference's, walked. -/
import Derived.Test.YtnkdhpbbiilekaaMt
namespace Go.Proofs.Ytnkdhpbbiilekaa
open Go.RowKit
theorem okM_of {a q p t : Int} {r1 r2 r3 : Bool} (h1 : (isW a && isW q) = r1) (h2 : inR p 1000 1007 = r2) (h3 : inR t 0 10000 = r3) : okM ⟨a, q, p, t⟩ = (r1 && (r2 && r3)) := by
  unfold okM; rw [h1, h2, h3]
end Go.Proofs.Ytnkdhpbbiilekaa
