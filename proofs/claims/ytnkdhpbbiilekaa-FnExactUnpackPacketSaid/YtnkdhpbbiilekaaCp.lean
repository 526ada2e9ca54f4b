/- DropContacts and the reference's NoteContact, walked. -/
import Derived.Test.YtnkdhpbbiilekaaCo
namespace Go.Proofs.Ytnkdhpbbiilekaa
open Go.RowKit
def dropV (l : List Ct) (port : Int) : List Ct := if vC l then dropC l port else []
end Go.Proofs.Ytnkdhpbbiilekaa
