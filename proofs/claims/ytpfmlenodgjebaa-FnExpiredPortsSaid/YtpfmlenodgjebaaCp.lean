/- DropContacts and the reference's NoteContact, walked. -/
import Derived.Test.YtpfmlenodgjebaaCo
namespace Go.Proofs.Ytpfmlenodgjebaa
open Go.RowKit
def dropV (l : List Ct) (port : Int) : List Ct := if vC l then dropC l port else []
end Go.Proofs.Ytpfmlenodgjebaa
