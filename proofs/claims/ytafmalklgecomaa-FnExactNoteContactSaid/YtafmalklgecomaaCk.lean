/- The contracts on contacts, as the statements' walks take them: each result under a name of its own. -/
import Derived.Test.YtafmalklgecomaaCh
import Derived.IntWalk
namespace Go.Proofs.Ytafmalklgecomaa
open Go.RowKit
theorem blC_after {w w' : World} {p a q : Int} {A : Option Addr} {o : Obj} (hg : ((w.alloc o).alloc (.cells #[.int .i64 p, .int .i64 a, .int .i64 q] 29)).grownBy w' (blk A)) (hA : blk A = some w.heap.size) : Sl encC 3 w' (some ⟨w.heap.size + 1, 0, none⟩) 1 [⟨p, a, q⟩] := by
  have := ((blC (w.alloc o) p a q).grown hg (by rw [hA, alloc_size]; simp)).sl
  rw [alloc_size] at this
  exact this
theorem blC_before {w w' : World} {p a q : Int} {A : Option Addr} {o : Obj} (hg : ((w.alloc (.cells #[.int .i64 p, .int .i64 a, .int .i64 q] 29)).alloc o).grownBy w' (blk A)) (hA : blk A = some (w.heap.size + 1)) : Sl encC 3 w' (some ⟨w.heap.size, 0, none⟩) 1 [⟨p, a, q⟩] :=
  (((blC w p a q).alloc o).grown hg (by rw [hA]; simp)).sl
theorem empty_after {B : Nat} {w : World} {o : Obj} (hB : B ≤ w.heap.size) : Ow encC 3 29 B ((w.alloc o).alloc (.cells #[] 29)) (some ⟨w.heap.size + 1, 0, none⟩) 0 ([] : List Ct) := by
  have := Ow.empty (enc := encC) (k := 3) (e := 29) (B := B) (w.alloc o) (by rw [alloc_size]; omega)
  rw [alloc_size] at this
  exact this
/-- The cells of a contact that was laid in w. -/
theorem ct_cells (w : World) (p a q : Int) {W : World} (hb : Below (w.alloc (.cells #[.int .i64 p, .int .i64 a, .int .i64 q] 29)).heap.size (w.alloc (.cells #[.int .i64 p, .int .i64 a, .int .i64 q] 29)) W) :
    W.cell? ⟨w.heap.size, 0, none⟩ = some (.int .i64 p) ∧ W.cell? ⟨w.heap.size, 1, none⟩ = some (.int .i64 a) ∧ W.cell? ⟨w.heap.size, 2, none⟩ = some (.int .i64 q) ∧ w.heap.size < W.heap.size := by
  obtain ⟨⟨h0, h1, h2⟩, hz⟩ := one_below hb
  exact ⟨h0, h1, h2, hz⟩
theorem lct_cells (w : World) (p a q : Int) {W : World} (hb : Below (w.alloc (.cells #[.int .i64 p, .int .i64 a, .int .i64 q] 51)).heap.size (w.alloc (.cells #[.int .i64 p, .int .i64 a, .int .i64 q] 51)) W) :
    W.cell? ⟨w.heap.size, 0, none⟩ = some (.int .i64 p) ∧ W.cell? ⟨w.heap.size, 1, none⟩ = some (.int .i64 a) ∧ W.cell? ⟨w.heap.size, 2, none⟩ = some (.int .i64 q) ∧ w.heap.size < W.heap.size := by
  obtain ⟨⟨h0, h1, h2⟩, hz⟩ := one_below hb
  exact ⟨h0, h1, h2, hz⟩
/-- The cells of an end that was laid in w. -/
theorem end_cells (w : World) (a q : Int) {W : World} (hb : Below (w.alloc (.cells #[.int .i64 a, .int .i64 q] 27)).heap.size (w.alloc (.cells #[.int .i64 a, .int .i64 q] 27)) W) :
    W.cell? ⟨w.heap.size, 0, none⟩ = some (.int .i64 a) ∧ W.cell? ⟨w.heap.size, 1, none⟩ = some (.int .i64 q) ∧ w.heap.size < W.heap.size := by
  have hz := hb.size
  rw [alloc_size] at hz
  exact ⟨bcell hb (by simp) (cell_of_row _ _ _ _ _ _ (heap_alloc_new w _)), bcell hb (by simp) (cell_of_row _ _ _ _ _ _ (heap_alloc_new w _)), hz⟩
section
variable {A A' : Option Addr} {c c' n n' m : Nat} {l l' L : List Ct} {w : World} {r : Bool} {kind port fa fq p a q : Int}
theorem impl_VC (hr : vC l = r) (hn : n = l.length) (hl : l.length ≤ 2000000) (hs : Sl encC 3 w A c l) :
    Calls Try.prog 18 #[.slice A n c] w (Ret w (.bool r)) := by
  subst hn
  subst hr
  exact impl_ValidContacts A c l w hl hs
theorem spec_VC (hr : vC l = r) (hn : n = l.length) (hl : l.length ≤ 2000000) (hs : Sl encC 3 w A c l) :
    Calls Try.prog 19 #[.slice A n c] w (Ret w (.bool r)) := by
  subst hn
  subst hr
  exact spec_ValidContacts A c l w hl hs
theorem impl_LI (hr : letsIn kind l port fa fq = r) (hn : n = l.length) (hl : l.length ≤ 2000000) (hs : Sl encC 3 w A c l) :
    Calls Try.prog 24 #[.int .i64 kind, .slice A n c, .int .i64 port, .agg #[.int .i64 fa, .int .i64 fq]] w (Ret w (.bool r)) := by
  subst hn
  subst hr
  exact impl_LetsIn kind port fa fq A c l w hl hs
theorem spec_LI (hr : letsIn kind l port fa fq = r) (hn : n = l.length) (hl : l.length ≤ 2000000) (hs : Sl encC 3 w A c l) :
    Calls Try.prog 21 #[.int .i64 kind, .slice A n c, .int .i64 port, .agg #[.int .i64 fa, .int .i64 fq]] w (Ret w (.bool r)) := by
  subst hn
  subst hr
  exact spec_LetsIn kind port fa fq A c l w hl hs
theorem eqCts (hr : decide (l = l') = r) (hn : n = l.length) (hn' : n' = l'.length) (hl : l.length ≤ 2000000) (hl' : l'.length ≤ 2000000) (hs : Sl encC 3 w A c l) (hs' : Sl encC 3 w A' c' l') :
    Calls Try.prog 30 #[.slice A n c, .slice A' n' c'] w (Ret w (.bool r)) := by
  subst hn
  subst hn'
  subst hr
  exact laws_equalContacts A A' c c' l l' w (by omega) (by omega) hs hs'
theorem eqCtS (hr : decide (l = l') = r) (hn : n = l.length) (hn' : n' = l'.length) (hl : l.length ≤ 2000000) (hl' : l'.length ≤ 2000000) (hs : Sl encC 3 w A c l) (hs' : Sl encC 3 w A' c' l') :
    Calls Try.prog 25 #[.slice A n c, .slice A' n' c'] w (Ret w (.bool r)) := by
  subst hn
  subst hn'
  subst hr
  exact laws_eqContactS A A' c c' l l' w (by omega) (by omega) hs hs'
theorem NoteNo (hv : (vC l && okC ⟨p, a, q⟩) = false) (hn : n = l.length) (hl : l.length ≤ 2000000) (hs : Sl encC 3 w A c l) :
    Calls Try.prog 28 #[.slice A n c, .agg #[.int .i64 p, .int .i64 a, .int .i64 q]] w (fun e w' => e = .returned (.tuple #[.slice none 0 0, .bool false]) ∧ Below w.heap.size w w') := by
  subst hn
  refine (impl_NoteContact A c l p a q w hl hs).mono ?_
  rintro e w' ⟨hb, ⟨_, rfl⟩ | ⟨h, _⟩⟩
  · exact ⟨rfl, hb⟩
  · rw [hv] at h; cases h
theorem NoteYes (hv : (vC l && okC ⟨p, a, q⟩) = true) (hL : noteC l ⟨p, a, q⟩ = L) (hm : L.length = m) (hn : n = l.length) (hl : l.length ≤ 2000000) (hs : Sl encC 3 w A c l) :
    Calls Try.prog 28 #[.slice A n c, .agg #[.int .i64 p, .int .i64 a, .int .i64 q]] w (fun e w' => ∃ A', e = .returned (.tuple #[.slice A' m m, .bool true]) ∧ Out encC 3 w.heap.size w' A' m L ∧ Below w.heap.size w w') := by
  subst hn
  subst hm
  subst hL
  refine (impl_NoteContact A c l p a q w hl hs).mono ?_
  rintro e w' ⟨hb, ⟨h, _⟩ | ⟨_, A', rfl, ho⟩⟩
  · rw [hv] at h; cases h
  · exact ⟨A', rfl, ho, hb⟩
theorem NoteU (hv : (vC l && okC ⟨p, a, q⟩) = r) (hL : (if r then noteC l ⟨p, a, q⟩ else []) = L) (hm : L.length = m) (hn : n = l.length) (hl : l.length ≤ 2000000) (hs : Sl encC 3 w A c l) :
    Calls Try.prog 28 #[.slice A n c, .agg #[.int .i64 p, .int .i64 a, .int .i64 q]] w (fun e w' => ∃ A', e = .returned (.tuple #[.slice A' m m, .bool r]) ∧ Out encC 3 w.heap.size w' A' m L ∧ Below w.heap.size w w') := by
  cases r
  · simp only [Bool.false_eq_true, if_false] at hL
    subst hL
    subst hm
    refine (NoteNo hv hn hl hs).mono ?_
    rintro e w' ⟨rfl, hb⟩
    exact ⟨none, rfl, ⟨Sl.nil, Fr.nil⟩, hb⟩
  · exact NoteYes hv hL hm hn hl hs
theorem spec_NoteNo (hv : (vC l && okC ⟨p, a, q⟩) = false) (hn : n = l.length) (hl : l.length ≤ 2000000) (hs : Sl encC 3 w A c l) :
    Calls Try.prog 29 #[.slice A n c, .agg #[.int .i64 p, .int .i64 a, .int .i64 q]] w (fun e w' => e = .returned (.tuple #[.slice none 0 0, .bool false]) ∧ Below w.heap.size w w') := by
  subst hn
  refine (spec_NoteContact A c l p a q w hl hs).mono ?_
  rintro e w' ⟨hb, ⟨_, rfl⟩ | ⟨h, _⟩⟩
  · exact ⟨rfl, hb⟩
  · rw [hv] at h; cases h
theorem spec_NoteYes (hv : (vC l && okC ⟨p, a, q⟩) = true) (hL : noteC l ⟨p, a, q⟩ = L) (hm : L.length = m) (hn : n = l.length) (hl : l.length ≤ 2000000) (hs : Sl encC 3 w A c l) :
    Calls Try.prog 29 #[.slice A n c, .agg #[.int .i64 p, .int .i64 a, .int .i64 q]] w (fun e w' => ∃ A' c', e = .returned (.tuple #[.slice A' m c', .bool true]) ∧ Ow encC 3 29 w.heap.size w' A' c' L ∧ Below w.heap.size w w') := by
  subst hn
  subst hm
  subst hL
  refine (spec_NoteContact A c l p a q w hl hs).mono ?_
  rintro e w' ⟨hb, ⟨h, _⟩ | ⟨_, A', c', rfl, ho⟩⟩
  · rw [hv] at h; cases h
  · exact ⟨A', c', rfl, ho, hb⟩
theorem spec_NoteU (hv : (vC l && okC ⟨p, a, q⟩) = r) (hL : (if r then noteC l ⟨p, a, q⟩ else []) = L) (hm : L.length = m) (hn : n = l.length) (hl : l.length ≤ 2000000) (hs : Sl encC 3 w A c l) :
    Calls Try.prog 29 #[.slice A n c, .agg #[.int .i64 p, .int .i64 a, .int .i64 q]] w (fun e w' => ∃ A' c', e = .returned (.tuple #[.slice A' m c', .bool r]) ∧ Ow encC 3 29 w.heap.size w' A' c' L ∧ Below w.heap.size w w') := by
  cases r
  · simp only [Bool.false_eq_true, if_false] at hL
    subst hL
    subst hm
    refine (spec_NoteNo hv hn hl hs).mono ?_
    rintro e w' ⟨rfl, hb⟩
    exact ⟨none, 0, rfl, Ow.nil, hb⟩
  · exact spec_NoteYes hv hL hm hn hl hs
theorem Drop (hL : dropV l port = L) (hm : L.length = m) (hn : n = l.length) (hl : l.length ≤ 2000000) (hs : Sl encC 3 w A c l) :
    Calls Try.prog 32 #[.slice A n c, .int .i64 port] w (fun e w' => ∃ A', e = .returned (.slice A' m m) ∧ Out encC 3 w.heap.size w' A' m L ∧ Below w.heap.size w w') := by
  subst hn
  subst hm
  subst hL
  exact impl_DropContacts A c l port w hl hs
theorem spec_Drop (hL : dropV l port = L) (hm : L.length = m) (hn : n = l.length) (hl : l.length ≤ 2000000) (hs : Sl encC 3 w A c l) :
    Calls Try.prog 33 #[.slice A n c, .int .i64 port] w (fun e w' => ∃ A' c', e = .returned (.slice A' m c') ∧ Ow encC 3 29 w.heap.size w' A' c' L ∧ Below w.heap.size w w') := by
  subst hn
  subst hm
  subst hL
  exact spec_DropContacts A c l port w hl hs
end
theorem keep_at {α : Type} {f : α → Bool} {l : List α} {k : Nat} {x : α} (h : l[k]? = some x) (hf : f x = false) : (keep f l)[(keep f (l.take k)).length]? = some x := by
  have e : keep f l = keep f (l.take k) ++ x :: keep f (l.drop (k + 1)) := by
    conv => lhs; rw [← List.take_append_drop k l, drop_cons h]
    unfold keep
    rw [List.filter_append, List.filter_cons, hf]
    rfl
  rw [e, List.getElem?_append_right (Nat.le_refl _), Nat.sub_self]
  rfl
theorem Out.grown {α : Type} {enc : α → List Value} {k B c : Nat} {w w' : World} {A : Option Addr} {l : List α} {row : Option Nat} (h : Out enc k B w A c l) (hg : w.grownBy w' row) (hne : ∀ b, row = some b → b < B) : Out enc k B w' A c l := by
  refine ⟨⟨h.1.1, fun hl => ?_⟩, fun h0 => ?_⟩
  · obtain ⟨b, o, rfl, hlt, hr⟩ := h.1.2 hl
    obtain ⟨b', o', e, hB, _, _⟩ := h.2 (List.length_pos_iff.2 hl)
    injection e with e; injection e with e1 e2; subst e1
    exact ⟨b, o, rfl, Nat.lt_of_lt_of_le hlt hg.size, hr.grown hg hlt (by intro e; have := hne _ e.symm; omega)⟩
  · obtain ⟨b, o, rfl, hB, hlt, hf⟩ := h.2 h0
    refine ⟨b, o, rfl, hB, Nat.lt_of_lt_of_le hlt hg.size, fun j => ?_⟩
    rw [← hf j]
    unfold World.frozen?
    rw [hg.block b hlt (by intro e; have := hne _ e.symm; omega)]
theorem Ow.grown_lt {α : Type} {enc : α → List Value} {k B c M : Nat} {e : TypeId} {w w' : World} {A : Option Addr} {l : List α} {row : Option Nat} (h : Ow enc k e B w A c l) (hg : w.grownBy w' row) (hlt : ∀ g, Go.Proofs.Ytafmalklgecomaa.blk A = some g → g < M) (hrow : ∀ g, row = some g → M ≤ g) : Ow enc k e B w' A c l :=
  h.of_heap fun g h1 => hg.block g (h.blk g h1).2 (by intro e; have := hrow g e.symm; have := hlt g h1; omega)
theorem Fr.blkB {B n : Nat} {w : World} {A : Option Addr} (h : Fr B w A n) (hn : 0 < n) : ∀ g, blk A = some g → B ≤ g := by
  obtain ⟨b, o, rfl, hB, _, _⟩ := h hn
  intro g hg
  simp [blk] at hg
  omega
section
variable {A : Option Addr} {c n B : Nat} {l : List Ct} {w : World} {k : Int}
theorem laws_markContactS0 (w : World) : Calls Try.prog 34 #[.slice A 0 c, .int .i64 k] w (Same w (.int .i64 k)) := by
  go_enter Try.func34, Try.ntmps34
  go_wp2
  go_loop [1, 5] (fun t i => t = .int .i64 k ∧ i = .int .i64 0) (fun _ _ => 0)
  case atStart => exact ⟨rfl, rfl⟩
  case round =>
    obtain ⟨rfl, rfl⟩ := hrel
    go_wp2
    go_ret
    exact ⟨rfl, rfl⟩
theorem markCt (hn : n = l.length) (hl : l.length ≤ 4000000) (hk0 : 0 ≤ k) (hk1 : k ≤ 100000000) (hs : Sl encC 3 w A c l) (hf : Fr B w A l.length) :
    Calls Try.prog 34 #[.slice A n c, .int .i64 k] w (fun e w' => e = .returned (.int .i64 (k + 3 * n)) ∧ Sl encC 3 w' A c (markC k n) ∧ ∃ row, w.grownBy w' row ∧ ∀ g, row = some g → B ≤ g ∧ blk A = some g) := by
  subst hn
  rcases Nat.eq_zero_or_pos l.length with h0 | h0
  · rw [h0]
    refine (laws_markContactS0 w).mono ?_
    rintro e w' ⟨rfl, rfl⟩
    exact ⟨by simp, Sl.nil, none, World.grownBy.refl _ _, by simp⟩
  · refine (laws_markContactS A c B k l w hl hk0 hk1 hs hf).mono ?_
    rintro e w' ⟨rfl, h1, h2⟩
    exact ⟨rfl, h1, _, h2, fun g hg => ⟨hf.blkB h0 g hg, hg⟩⟩
theorem toCts (hn : n = l.length) (hl : l.length ≤ 2000000) (hs : Sl encC 3 w A c l) :
    Calls Try.prog 22 #[.slice A n c] w (fun e w' => ∃ A' c', e = .returned (.slice A' n c') ∧ Ow encC 3 29 w.heap.size w' A' c' l ∧ Below w.heap.size w w') := by
  subst hn
  exact laws_toContactS A c l w hl hs
end
end Go.Proofs.Ytafmalklgecomaa
