/- The contracts on contacts, as the statements' walks take them: each result under a name of its own. -/
import Derived.Test.YtlgfmnognhojnaaCh
import Derived.IntWalk
namespace Go.Proofs.Ytlgfmnognhojnaa
open Go.RowKit
theorem blC_after {w w' : World} {p a q : Int} {A : Option Addr} {o : Obj} (hg : ((w.alloc o).alloc (.cells #[.int .i64 p, .int .i64 a, .int .i64 q] 75)).grownBy w' (blk A)) (hA : blk A = some w.heap.size) : Sl encC 3 w' (some ⟨w.heap.size + 1, 0, none⟩) 1 [⟨p, a, q⟩] := by
  have := ((blC (w.alloc o) p a q).grown hg (by rw [hA, alloc_size]; simp)).sl
  rw [alloc_size] at this
  exact this
theorem blC_before {w w' : World} {p a q : Int} {A : Option Addr} {o : Obj} (hg : ((w.alloc (.cells #[.int .i64 p, .int .i64 a, .int .i64 q] 75)).alloc o).grownBy w' (blk A)) (hA : blk A = some (w.heap.size + 1)) : Sl encC 3 w' (some ⟨w.heap.size, 0, none⟩) 1 [⟨p, a, q⟩] :=
  (((blC w p a q).alloc o).grown hg (by rw [hA]; simp)).sl
theorem empty_after {B : Nat} {w : World} {o : Obj} (hB : B ≤ w.heap.size) : Ow encC 3 75 B ((w.alloc o).alloc (.cells #[] 75)) (some ⟨w.heap.size + 1, 0, none⟩) 0 ([] : List Ct) := by
  have := Ow.empty (enc := encC) (k := 3) (e := 75) (B := B) (w.alloc o) (by rw [alloc_size]; omega)
  rw [alloc_size] at this
  exact this
/-- The cells of a contact that was laid in w. -/
theorem ct_cells (w : World) (p a q : Int) {W : World} (hb : Below (w.alloc (.cells #[.int .i64 p, .int .i64 a, .int .i64 q] 75)).heap.size (w.alloc (.cells #[.int .i64 p, .int .i64 a, .int .i64 q] 75)) W) :
    W.cell? ⟨w.heap.size, 0, none⟩ = some (.int .i64 p) ∧ W.cell? ⟨w.heap.size, 1, none⟩ = some (.int .i64 a) ∧ W.cell? ⟨w.heap.size, 2, none⟩ = some (.int .i64 q) ∧ w.heap.size < W.heap.size := by
  obtain ⟨⟨h0, h1, h2⟩, hz⟩ := one_below hb
  exact ⟨h0, h1, h2, hz⟩
theorem lct_cells (w : World) (p a q : Int) {W : World} (hb : Below (w.alloc (.cells #[.int .i64 p, .int .i64 a, .int .i64 q] 104)).heap.size (w.alloc (.cells #[.int .i64 p, .int .i64 a, .int .i64 q] 104)) W) :
    W.cell? ⟨w.heap.size, 0, none⟩ = some (.int .i64 p) ∧ W.cell? ⟨w.heap.size, 1, none⟩ = some (.int .i64 a) ∧ W.cell? ⟨w.heap.size, 2, none⟩ = some (.int .i64 q) ∧ w.heap.size < W.heap.size := by
  obtain ⟨⟨h0, h1, h2⟩, hz⟩ := one_below hb
  exact ⟨h0, h1, h2, hz⟩
/-- The cells of an end that was laid in w. -/
theorem end_cells (w : World) (a q : Int) {W : World} (hb : Below (w.alloc (.cells #[.int .i64 a, .int .i64 q] 62)).heap.size (w.alloc (.cells #[.int .i64 a, .int .i64 q] 62)) W) :
    W.cell? ⟨w.heap.size, 0, none⟩ = some (.int .i64 a) ∧ W.cell? ⟨w.heap.size, 1, none⟩ = some (.int .i64 q) ∧ w.heap.size < W.heap.size := by
  have hz := hb.size
  rw [alloc_size] at hz
  exact ⟨bcell hb (by simp) (cell_of_row _ _ _ _ _ _ (heap_alloc_new w _)), bcell hb (by simp) (cell_of_row _ _ _ _ _ _ (heap_alloc_new w _)), hz⟩
section
variable {A A' : Option Addr} {c c' n n' m : Nat} {l l' L : List Ct} {w : World} {r : Bool} {kind port fa fq p a q : Int}
theorem impl_VC (hr : vC l = r) (hn : n = l.length) (hl : l.length ≤ 2000000) (hs : Sl encC 3 w A c l) :
    Calls Try.prog 21 #[.slice A n c] w (Ret w (.bool r)) := by
  subst hn
  subst hr
  exact impl_ValidContacts A c l w hl hs
theorem eqCts (hr : decide (l = l') = r) (hn : n = l.length) (hn' : n' = l'.length) (hl : l.length ≤ 2000000) (hl' : l'.length ≤ 2000000) (hs : Sl encC 3 w A c l) (hs' : Sl encC 3 w A' c' l') :
    Calls Try.prog 33 #[.slice A n c, .slice A' n' c'] w (Ret w (.bool r)) := by
  subst hn
  subst hn'
  subst hr
  exact laws_equalContacts A A' c c' l l' w (by omega) (by omega) hs hs'
theorem eqCtS (hr : decide (l = l') = r) (hn : n = l.length) (hn' : n' = l'.length) (hl : l.length ≤ 2000000) (hl' : l'.length ≤ 2000000) (hs : Sl encC 3 w A c l) (hs' : Sl encC 3 w A' c' l') :
    Calls Try.prog 55 #[.slice A n c, .slice A' n' c'] w (Ret w (.bool r)) := by
  subst hn
  subst hn'
  subst hr
  exact laws_eqContactS A A' c c' l l' w (by omega) (by omega) hs hs'
theorem spec_Drop (hL : dropV l port = L) (hm : L.length = m) (hn : n = l.length) (hl : l.length ≤ 2000000) (hs : Sl encC 3 w A c l) :
    Calls Try.prog 80 #[.slice A n c, .int .i64 port] w (fun e w' => ∃ A' c', e = .returned (.slice A' m c') ∧ Ow encC 3 75 w.heap.size w' A' c' L ∧ Below w.heap.size w w') := by
  subst hn
  subst hm
  subst hL
  exact spec_DropContacts A c l port w hl hs
end
theorem keep_at {α : Type} {f : α → Bool} {l : List α} {k : Nat} {x : α} (h : l[k]? = some x) (hf : f x = false) : (keep f l)[(keep f (l.take k)).length]? = some x := by
  have e : keep f l = keep f (l.take k) ++ x :: keep f (l.drop (k + 1)) := by
    conv => lhs; rw [← List.take_append_drop k l, drop_cons h]
    unfold keep
    rw [List.filter_append, List.filter_cons, hf]
    rfl
  rw [e, List.getElem?_append_right (Nat.le_refl _), Nat.sub_self]
  rfl
theorem Out.grown {α : Type} {enc : α → List Value} {k B c : Nat} {w w' : World} {A : Option Addr} {l : List α} {row : Option Nat} (h : Out enc k B w A c l) (hg : w.grownBy w' row) (hne : ∀ b, row = some b → b < B) : Out enc k B w' A c l := by
  refine ⟨⟨h.1.1, fun hl => ?_⟩, fun h0 => ?_⟩
  · obtain ⟨b, o, rfl, hlt, hr⟩ := h.1.2 hl
    obtain ⟨b', o', e, hB, _, _⟩ := h.2 (List.length_pos_iff.2 hl)
    injection e with e; injection e with e1 e2; subst e1
    exact ⟨b, o, rfl, Nat.lt_of_lt_of_le hlt hg.size, hr.grown hg hlt (by intro e; have := hne _ e.symm; omega)⟩
  · obtain ⟨b, o, rfl, hB, hlt, hf⟩ := h.2 h0
    refine ⟨b, o, rfl, hB, Nat.lt_of_lt_of_le hlt hg.size, fun j => ?_⟩
    rw [← hf j]
    unfold World.frozen?
    rw [hg.block b hlt (by intro e; have := hne _ e.symm; omega)]
theorem Ow.grown_lt {α : Type} {enc : α → List Value} {k B c M : Nat} {e : TypeId} {w w' : World} {A : Option Addr} {l : List α} {row : Option Nat} (h : Ow enc k e B w A c l) (hg : w.grownBy w' row) (hlt : ∀ g, Go.Proofs.Ytlgfmnognhojnaa.blk A = some g → g < M) (hrow : ∀ g, row = some g → M ≤ g) : Ow enc k e B w' A c l :=
  h.of_heap fun g h1 => hg.block g (h.blk g h1).2 (by intro e; have := hrow g e.symm; have := hlt g h1; omega)
theorem Fr.blkB {B n : Nat} {w : World} {A : Option Addr} (h : Fr B w A n) (hn : 0 < n) : ∀ g, blk A = some g → B ≤ g := by
  obtain ⟨b, o, rfl, hB, _, _⟩ := h hn
  intro g hg
  simp [blk] at hg
  omega
section
variable {A : Option Addr} {c n B : Nat} {l : List Ct} {w : World} {k : Int}
theorem toCts (hn : n = l.length) (hl : l.length ≤ 2000000) (hs : Sl encC 3 w A c l) :
    Calls Try.prog 52 #[.slice A n c] w (fun e w' => ∃ A' c', e = .returned (.slice A' n c') ∧ Ow encC 3 75 w.heap.size w' A' c' l ∧ Below w.heap.size w w') := by
  subst hn
  exact laws_toContactS A c l w hl hs
end
end Go.Proofs.Ytlgfmnognhojnaa
