/- Timers: what is asked of the arguments, what is expired; ExpireTable, walked. -/
import Derived.Test.YtnkdhpbbiilekaaTd
import Derived.Test.YtnkdhpbbiilekaaTw
import Derived.Test.YtnkdhpbbiilekaaMq
namespace Go.Proofs.Ytnkdhpbbiilekaa
open Go.RowKit
end Go.Proofs.Ytnkdhpbbiilekaa
