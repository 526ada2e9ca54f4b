/- Valid contacts: the program's test and the reference's, walked. -/
import Derived.Test.YtpfmlenodgjebaaCt
namespace Go.Proofs.Ytpfmlenodgjebaa
open Go.RowKit
end Go.Proofs.Ytpfmlenodgjebaa
