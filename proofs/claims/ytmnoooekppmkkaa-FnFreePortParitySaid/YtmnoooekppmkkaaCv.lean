/- Valid contacts: the program's test and the reference's, walked. -/
import Derived.Test.YtmnoooekppmkkaaCt
namespace Go.Proofs.Ytmnoooekppmkkaa
open Go.RowKit
end Go.Proofs.Ytmnoooekppmkkaa
