/- The reference's NoteContact, walked. -/
import Derived.Test.YtnkdhpbbiilekaaCp
namespace Go.Proofs.Ytnkdhpbbiilekaa
open Go.RowKit
theorem ret_slice {A : Option Addr} {n m c : Nat} (h : n = m) : Ending.returned (.slice A n c) = .returned (.slice A m c) := by rw [h]
end Go.Proofs.Ytnkdhpbbiilekaa
