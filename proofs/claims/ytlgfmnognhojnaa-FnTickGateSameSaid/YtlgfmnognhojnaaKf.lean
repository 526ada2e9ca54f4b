/- PacketCheck, IsRight, UpdateCheck, copies, ReversePacket, walked. -/
import Derived.Test.YtlgfmnognhojnaaKe
namespace Go.Proofs.Ytlgfmnognhojnaa
open Go.RowKit
end Go.Proofs.Ytlgfmnognhojnaa
