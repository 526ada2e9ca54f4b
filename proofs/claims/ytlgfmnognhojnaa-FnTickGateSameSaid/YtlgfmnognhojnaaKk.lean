/- Contracts on packets in literal form, for the statements' walks. -/
import Derived.Test.YtlgfmnognhojnaaKh
import Derived.Test.YtlgfmnognhojnaaTz
namespace Go.Proofs.Ytlgfmnognhojnaa
open Go.RowKit
section
variable {k fa fp ta tp c o n v : Int} {d : List Int} {A : Option Addr} {cp m : Nat} {w : World}
end
end Go.Proofs.Ytlgfmnognhojnaa
