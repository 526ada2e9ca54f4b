/- Free ports: the program's functions and the reference's, walked. -/
import Derived.Test.YtnkdhpbbiilekaaMf
namespace Go.Proofs.Ytnkdhpbbiilekaa
open Go.RowKit
def freeV (l : List Mp) (want : Int) : Int := if vM l && isW want then freeP l want else -1
end Go.Proofs.Ytnkdhpbbiilekaa
