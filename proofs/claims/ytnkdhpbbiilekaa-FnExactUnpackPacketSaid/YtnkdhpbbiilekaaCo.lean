/- NoteContact, DropContacts: the program's and the reference's, walked. -/
import Derived.Test.YtnkdhpbbiilekaaCn
namespace Go.Proofs.Ytnkdhpbbiilekaa
open Go.RowKit
/-- A contact is noted behind all others; of more than ten the first one goes. -/
def noteC (l : List Ct) (x : Ct) : List Ct := let r := keep (fun y => decide (y = x)) l ++ [x]; r.drop (r.length - 10)
def dropC (l : List Ct) (port : Int) : List Ct := keep (fun y => y.p == port) l
theorem note_eq (l : List Ct) (x : Ct) (hl : l.length ≤ 10 := by assumption) : (keep (fun y => decide (y = x)) l).length ≤ 10 ∧ noteC l x = (keep (fun y => decide (y = x)) l ++ [x]).drop ((keep (fun y => decide (y = x)) l ++ [x]).length - 10) :=
  ⟨Nat.le_trans (List.length_filter_le _ _) hl, rfl⟩
theorem keep_len {α : Type} (f : α → Bool) (l : List α) : (keep f l).length ≤ l.length := List.length_filter_le _ _
end Go.Proofs.Ytnkdhpbbiilekaa
