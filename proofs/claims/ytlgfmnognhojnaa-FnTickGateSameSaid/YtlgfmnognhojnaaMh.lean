/- The draws of tables, walked: the arguments of the statements on tables. -/
import Derived.Test.YtlgfmnognhojnaaMg
import Derived.StillTailTactics
namespace Go.Proofs.Ytlgfmnognhojnaa
open Go.RowKit
theorem Rd.drew_ {w : World} {g N : Nat} (h : Rd w g N) : Rd w.drew g N := h
end Go.Proofs.Ytlgfmnognhojnaa
