/- Any packet; the draws of packets, walked. -/
import Derived.Test.YtlgfmnognhojnaaKg
namespace Go.Proofs.Ytlgfmnognhojnaa
open Go.RowKit
end Go.Proofs.Ytlgfmnognhojnaa
