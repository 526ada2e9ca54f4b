/- TouchPort: the program's, walked. -/
import Derived.Test.YtnkdhpbbiilekaaMn
namespace Go.Proofs.Ytnkdhpbbiilekaa
open Go.RowKit
end Go.Proofs.Ytnkdhpbbiilekaa
