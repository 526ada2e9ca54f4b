/- The generators' reader: one of a list; a new reader. -/
import Derived.Test.YtlgfmnognhojnaaRd
namespace Go.Proofs.Ytlgfmnognhojnaa
open Go.RowKit
/-- One of the numbers of a list. -/
theorem one_ (g N : Nat) (A : Option Addr) (c : Nat) (l : List Int) (w : World) (hl : l.length ≤ 1000) (hl1 : 1 ≤ l.length) (hN : N ≤ 1000000) (hr : Rd w g N) (hs : Sl encI1 1 w A c l) (hg : ∀ a, A = some a → a.block ≠ g) :
    Calls Try.prog 25 #[.pointer (some ⟨g, 0, none⟩), .slice A l.length c] w (fun e w' => ∃ x : Int, e = .returned (.int .i64 x) ∧ x ∈ l ∧ Rd w' g (N + 1) ∧ w.grownBy w' (some g)) := by
  obtain ⟨b, o, rfl, hbl, hrow⟩ := hs.base (i := 0) (by omega)
  have hne : some b ≠ some g := fun e => hg _ rfl (Option.some.inj e)
  have HR := Lib.hid hr
  clear hs hr hg
  go_enter Try.func25, Try.ntmps25
  go_wp2_with fail
  refine (pick_ g N _ w (by omega) (by omega) hN HR.out).mono ?_
  rintro e w2 ⟨x, rfl, hx0, hx1, hx2, hrd, hgr⟩
  have hx1 := hx1 (by omega)
  obtain ⟨k, rfl⟩ : ∃ k : Nat, x = (k : Int) := ⟨x.toNat, by omega⟩
  have hkl : k < l.length := by omega
  have cx := (hrow.grown hgr hbl hne) k l[k] (List.getElem?_eq_getElem hkl) 0 (.int .i64 l[k]) rfl
  rw [Nat.mul_one, Nat.add_zero] at cx
  go_wp2
  go_ret
  exact ⟨_, rfl, List.getElem_mem hkl, hrd, hgr⟩
set_option maxHeartbeats 1000000 in
theorem newReader_ (A : Option Addr) (c : Nat) (l : List Int) (w : World) (hl : c ≤ maxLen) (hs : Sl encB 1 w A c l) (hb : ∀ x ∈ l, 0 ≤ x ∧ x ≤ 255) :
    Calls Try.prog 23 #[.slice A l.length c] w (fun e w' => e = .returned (.pointer (some ⟨w.heap.size, 0, none⟩)) ∧ Rd w' w.heap.size 0 ∧ Below w.heap.size w w' ∧ w.heap.size < w'.heap.size) := by
  have hlc := hs.1
  have ha : l ≠ [] → ∀ a, A = some a → a.block < w.heap.size := by
    intro hl a e
    obtain ⟨b, o, rfl, h, _⟩ := hs.2 hl
    injection e with e
    subst e
    exact h
  unfold maxLen at hl
  have hb1 : ∀ v, Below w.heap.size w (w.alloc (.cells #[v, .int .i64 0] 88)) := fun v => (Below.refl _ _).alloc (Nat.le_refl _) _
  have HS := Lib.hid hs
  have HB := Lib.hid hb
  have HA := Lib.hid ha
  have HB1 := Lib.hid hb1
  clear hs hb ha hb1
  by_cases hbig : 2000 < l.length
  · go_enter Try.func23, Try.ntmps23
    go_wp2
    go_ret
    have e2 : (l.take 2000).length = 2000 := by rw [List.length_take]; omega
    refine ⟨rfl, ⟨A, c, l.take 2000, 0, ?_, Nat.le_refl _, by omega, (HS.out.below (HB1.out _)).take _, fun x hx => HB.out x (List.mem_of_mem_take hx), fun h => HA.out (by rintro rfl; simp at h)⟩, HB1.out _, by simp⟩
    rw [e2]
    exact heap_alloc_new w _
  · go_enter Try.func23, Try.ntmps23
    go_wp2
    go_ret
    refine ⟨rfl, ⟨A, c, l, 0, ?_, Nat.le_refl _, by omega, ?_, HB.out, HA.out⟩, HB1.out _, by simp⟩
    · exact heap_alloc_new w _
    · exact HS.out.below (HB1.out _)
/-- The bytes that a statement gets. -/
def CodeIn (w : World) (A : Option Addr) (c : Nat) (l : List Int) : Prop := c ≤ maxLen ∧ Sl encB 1 w A c l ∧ ∀ x ∈ l, 0 ≤ x ∧ x ≤ 255
theorem CodeIn.below {w w' : World} {A : Option Addr} {c : Nat} {l : List Int} (h : CodeIn w A c l) (hb : Below w.heap.size w w') : CodeIn w' A c l :=
  ⟨h.1, h.2.1.below hb, h.2.2⟩
/-- A new reader lies in a block of its own. -/
theorem newReader_at (A : Option Addr) (c : Nat) (l : List Int) {b : Nat} (w : World) (hb : w.heap.size = b) (h : CodeIn w A c l) :
    Calls Try.prog 23 #[.slice A l.length c] w (fun e w' => e = .returned (.pointer (some ⟨b, 0, none⟩)) ∧ Rd w' b 0 ∧ Below b w w' ∧ b < w'.heap.size) := by
  subst hb
  exact newReader_ A c l w h.1 h.2.1 h.2.2
theorem Bl.two {e : TypeId} {w : World} {g m : Nat} {x y : Int} (h : Bl encI1 1 e w g m [x, y]) :
    (w.cell? ⟨g, 0, none⟩ = some (.int .i64 x) ∧ w.cell? ⟨g, 1, none⟩ = some (.int .i64 y)) ∧ w.frozen? ⟨g, 0, none⟩ = false ∧ w.frozen? ⟨g, 1, none⟩ = false :=
  ⟨⟨h.row 0 _ rfl 0 _ rfl, h.row 1 _ rfl 0 _ rfl⟩, h.frozen 0, h.frozen 1⟩
theorem Bl.lit2 (w : World) (x y : Int) (e : TypeId) : Bl encI1 1 e (w.alloc (.cells #[.int .i64 x, .int .i64 y] e)) w.heap.size 2 [x, y] := by
  refine ⟨_, heap_alloc_new w _, rfl, by simp, ?_⟩
  intro i z hi j u hu
  match i, hi with
  | 0, hi => simp at hi; subst hi; match j, hu with | 0, hu => simpa [encI1] using hu
  | 1, hi => simp at hi; subst hi; match j, hu with | 0, hu => simpa [encI1] using hu
end Go.Proofs.Ytlgfmnognhojnaa
