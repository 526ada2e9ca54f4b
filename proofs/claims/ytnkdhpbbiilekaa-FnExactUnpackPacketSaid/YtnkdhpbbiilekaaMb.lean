/- The statements' own helpers on slices of mappings: copies, comparisons, marks. -/
import Derived.Test.YtnkdhpbbiilekaaMa
namespace Go.Proofs.Ytnkdhpbbiilekaa
open Go.RowKit
end Go.Proofs.Ytnkdhpbbiilekaa
