/- Valid contacts: the program's test and the reference's, walked. -/
import Derived.Test.YtnkdhpbbiilekaaCt
namespace Go.Proofs.Ytnkdhpbbiilekaa
open Go.RowKit
end Go.Proofs.Ytnkdhpbbiilekaa
