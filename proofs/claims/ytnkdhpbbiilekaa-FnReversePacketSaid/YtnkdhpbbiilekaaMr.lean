/- The reference's draws of MapEnd. -/
import Derived.Test.YtnkdhpbbiilekaaMo
import Derived.Test.YtnkdhpbbiilekaaMq
namespace Go.Proofs.Ytnkdhpbbiilekaa
open Go.RowKit
theorem one_drew (g N : Nat) (l : List Int) {cs : Array Value} {t : TypeId} {b n : Nat} {w : World} (hcs : cs.toList = l.flatMap encI1) (hb : w.heap.size = b) (hn : l.length = n) (hl : l.length ≤ 1000) (hl1 : 1 ≤ l.length) (hN : N ≤ 1000000) (hr : Rd w g N) :
    Calls Try.prog 64 #[.pointer (some ⟨g, 0, none⟩), .slice (some ⟨b, 0, none⟩) n n] ((w.alloc (.cells cs t)).drew) (fun e w' => ∃ x : Int, e = .returned (.int .i64 x) ∧ x ∈ l ∧ Rd w' g (N + 1) ∧ w.grownBy w' (some g)) := by
  have e : (w.alloc (.cells cs t)).drew = w.drew.alloc (.cells cs t) := rfl
  rw [e]
  refine (one_lit (w := w.drew) g N l hcs hb hn hl hl1 hN (Rd.drew_ hr)).mono ?_
  rintro e w' ⟨x, h1, h2, h3, h4⟩
  exact ⟨x, h1, h2, h3, grown_undrew h4⟩
end Go.Proofs.Ytnkdhpbbiilekaa
