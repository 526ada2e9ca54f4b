/- The generators of contacts, walked: what they return is some data that reads well. -/
import Derived.Test.YtlgfmnognhojnaaCz
import Derived.Test.YtlgfmnognhojnaaRe
namespace Go.Proofs.Ytlgfmnognhojnaa
open Go.RowKit
theorem Rd.setCell {w : World} {g N : Nat} (h : Rd w g N) {p : Addr} (hp : g < p.block) (v : Value) : Rd (w.setCell p v) g N :=
  h.of (by simp [World.setCell]) fun i hi => Below.heap_setCell w p v i (by omega)
theorem Rd.below_ {w w' : World} {g N : Nat} (h : Rd w g N) (hb : Below w.heap.size w w') : Rd w' g N := h.below hb h.lt
/-- One of the numbers of a list that was laid just before. -/
theorem one_lit (g N : Nat) (l : List Int) {cs : Array Value} {t : TypeId} {b n : Nat} {w : World} (hcs : cs.toList = l.flatMap encI1) (hb : w.heap.size = b) (hn : l.length = n) (hl : l.length ≤ 1000) (hl1 : 1 ≤ l.length) (hN : N ≤ 1000000) (hr : Rd w g N) :
    Calls Try.prog 25 #[.pointer (some ⟨g, 0, none⟩), .slice (some ⟨b, 0, none⟩) n n] (w.alloc (.cells cs t)) (fun e w' => ∃ x : Int, e = .returned (.int .i64 x) ∧ x ∈ l ∧ Rd w' g (N + 1) ∧ w.grownBy w' (some g)) := by
  subst hb
  subst hn
  have hlt := hr.lt
  have ho : Ow encI1 1 t w.heap.size (w.alloc (.cells cs t)) (some ⟨w.heap.size, 0, none⟩) l.length l := Ow.lit w (Nat.le_refl _) hcs (fun _ => rfl) (by unfold maxLen; omega)
  refine (one_ g N _ _ l _ hl hl1 hN (hr.alloc _) ho.sl (by intro a ha; injection ha with ha; subst ha; simp; omega)).mono ?_
  rintro e w2 ⟨x, rfl, hx, hrd, hg⟩
  exact ⟨x, rfl, hx, hrd, grown_trans (grown_alloc (World.grownBy.refl _ _) _) hg (.inl rfl)⟩
theorem two_grown {w w2 : World} {g : Nat} {e1 e2 : TypeId} (x1 x2 : Ct) {cs1 cs2 : Array Value} (h1 : cs1.toList = encC x1) (h2 : cs2.toList = encC x2)
    (hg : ((w.alloc (.cells cs1 e1)).alloc (.cells cs2 e2)).grownBy w2 (some g)) (hlt : g < w.heap.size) :
    Bl encC 3 e1 w2 w.heap.size 3 [x1] ∧ Bl encC 3 e2 w2 (w.heap.size + 1) 3 [x2] ∧ w.heap.size + 1 < w2.heap.size := by
  have b1 := (Bl.one (enc := encC) (e := e1) (k := 3) (fun _ => rfl) w x1 h1).alloc (.cells cs2 e2)
  have b2 := Bl.one (enc := encC) (e := e2) (k := 3) (fun _ => rfl) (w.alloc (.cells cs1 e1)) x2 h2
  rw [alloc_size] at b2
  have hz := hg.size
  rw [alloc_size, alloc_size] at hz
  exact ⟨b1.grown hg (by simp; omega), b2.grown hg (by simp; omega), by omega⟩
end Go.Proofs.Ytlgfmnognhojnaa
