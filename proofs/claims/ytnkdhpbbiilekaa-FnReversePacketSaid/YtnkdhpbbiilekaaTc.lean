/- The contracts on timers, as the statements' walks take them: each result under a name of its own. -/
import Derived.Test.YtnkdhpbbiilekaaIa
import Derived.Test.YtnkdhpbbiilekaaMs
namespace Go.Proofs.Ytnkdhpbbiilekaa
open Go.RowKit
section
variable {A : Option Addr} {c n m : Nat} {l L : List Mp} {I : List Int} {w : World} {r : Bool} {now hold v port : Int}
end
theorem keep_get {f : Mp → Bool} {l : List Mp} {k : Nat} {x : Mp} (h : l[k]? = some x) (hf : f x = false) : (keep f l)[(keep f (l.take k)).length]? = some x := by
  have e : keep f l = keep f (l.take k) ++ x :: keep f (l.drop (k + 1)) := by
    conv => lhs; rw [← List.take_append_drop k l, drop_cons h]
    unfold keep
    rw [List.filter_append, List.filter_cons, hf]
    rfl
  rw [e, List.getElem?_append_right (Nat.le_refl _), Nat.sub_self]
  rfl
theorem touchV_len (l : List Mp) (p now : Int) : (touchV l p now).length ≤ l.length := by
  cases h : touchO l p now
  · unfold touchV; rw [h]; simp
  · rw [touch_len h]; exact Nat.le_refl _
end Go.Proofs.Ytnkdhpbbiilekaa
