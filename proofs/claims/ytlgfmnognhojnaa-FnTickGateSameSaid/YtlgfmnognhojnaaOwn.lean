/- Slices of the call's own: what they hold, what append, make, clear and stores do to them. -/
import Derived.Test.YtlgfmnognhojnaaData
import Derived.Laws.CopyRow
import Derived.Laws.OwnMore
import Derived.Laws.MakeOwn
import Derived.OwnWalk
namespace Go.Proofs.Ytlgfmnognhojnaa
open Go.RowKit

section lists
variable {α : Type} {enc : α → List Value} {k : Nat}
theorem flatMap_len (hk : ∀ x, (enc x).length = k) (l : List α) : (l.flatMap enc).length = l.length * k := by
  induction l with
  | nil => simp
  | cons x l ih => rw [List.flatMap_cons, List.length_append, ih, hk, List.length_cons, Nat.add_mul]; omega
theorem flatMap_get (hk : ∀ x, (enc x).length = k) (l : List α) (i j : Nat) (hj : j < k) : (l.flatMap enc)[i * k + j]? = (l[i]?).bind fun x => (enc x)[j]? := by
  induction l generalizing i with
  | nil => simp
  | cons x l ih =>
    rw [List.flatMap_cons]
    cases i with
    | zero =>
      rw [List.getElem?_append_left (by rw [hk]; omega)]
      simp
    | succ i =>
      rw [List.getElem?_append_right (by rw [hk, Nat.add_mul]; omega), hk, show (i + 1) * k + j - k = i * k + j from by rw [Nat.add_mul]; omega, ih]
      simp
end lists

/-- Block g holds m cells of element type e, none frozen; the first of them are those of L. -/
def Bl {α : Type} (enc : α → List Value) (k : Nat) (e : TypeId) (w : World) (g m : Nat) (L : List α) : Prop :=
  ∃ cur, w.heap[g]? = some (.cells cur e (0, 0)) ∧ cur.size = m ∧ L.length * k ≤ m ∧ ∀ i x, L[i]? = some x → ∀ j u, (enc x)[j]? = some u → cur[i * k + j]? = some u
/-- The slice at A, of capacity c, is nil or the call's own (a whole block from B on) and holds l. -/
def Ow {α : Type} (enc : α → List Value) (k : Nat) (e : TypeId) (B : Nat) (w : World) (A : Option Addr) (c : Nat) (l : List α) : Prop :=
  (A = none ∧ c = 0 ∧ l = []) ∨ ∃ g, A = some ⟨g, 0, none⟩ ∧ B ≤ g ∧ l.length ≤ c ∧ c ≤ maxLen ∧ Bl enc k e w g (c * k) l
def blk (A : Option Addr) : Option Nat := A.map (·.block)
theorem ownBlock_slice (A : Option Addr) (n c : Nat) : (Value.slice A n c).ownBlock = blk A := by cases A <;> rfl

section
variable {α : Type} {enc : α → List Value} {k : Nat} {e : TypeId} {w w' : World} {A : Option Addr} {c n B g m : Nat} {l L : List α}

theorem Bl.lt (h : Bl enc k e w g m L) : g < w.heap.size := by
  obtain ⟨cur, h1, _⟩ := h
  exact (Array.getElem?_eq_some_iff.1 h1).1
theorem Bl.row (h : Bl enc k e w g m L) : Row enc k w g 0 L := by
  obtain ⟨cur, h1, h2, h3, h4⟩ := h
  intro i x hi j u hu
  rw [cell_of_row _ _ _ _ _ _ h1, Nat.zero_add]
  exact h4 i x hi j u hu
theorem Bl.frozen (h : Bl enc k e w g m L) (j : Nat) : w.frozen? ⟨g, j, none⟩ = false := by
  obtain ⟨cur, h1, _⟩ := h
  simp [World.frozen?, h1]
theorem Bl.some_ (h : Bl enc k e w g m L) {j : Nat} (hj : j < m) : ∃ u, w.cell? ⟨g, j, none⟩ = some u := by
  obtain ⟨cur, h1, h2, _⟩ := h
  rw [cell_of_row _ _ _ _ _ _ h1]
  exact ⟨_, Array.getElem?_eq_getElem (by omega)⟩
theorem Bl.of_heap (h : Bl enc k e w g m L) (hb : w'.heap[g]? = w.heap[g]?) : Bl enc k e w' g m L := by
  obtain ⟨cur, h1, h2, h3, h4⟩ := h
  exact ⟨cur, hb.trans h1, h2, h3, h4⟩
theorem Bl.below (h : Bl enc k e w g m L) (hb : Below B w w') (hg : g < B) : Bl enc k e w' g m L := h.of_heap (hb.block g hg)
theorem Bl.grown {row : Option Nat} (h : Bl enc k e w g m L) (hb : w.grownBy w' row) (hg : some g ≠ row) : Bl enc k e w' g m L := h.of_heap (hb.block g h.lt hg)
/-- A store of one cell elsewhere. -/
theorem Bl.far (h : Bl enc k e w g m L) {p : Addr} (hp : p.block ≠ g) (u : Value) : Bl enc k e (w.setCell p u) g m L := h.of_heap (Below.heap_setCell _ _ _ _ (Ne.symm hp))
theorem Bl.alloc (h : Bl enc k e w g m L) (o : Obj) : Bl enc k e (w.alloc o) g m L := h.of_heap (Below.heap_alloc _ _ _ h.lt)

theorem Bl.of_own {base : Nat} (hk : ∀ x, (enc x).length = k) (h : w.ownsRow base e k (.slice (some ⟨g, 0, none⟩) n c) n (L.flatMap enc)) (hn : n = L.length) : Bl enc k e w g (c * k) L ∧ base ≤ g ∧ n ≤ c ∧ c ≤ maxLen := by
  rcases h.2 with ⟨h', _⟩ | ⟨g', cap', cur, h', hb, hg, hnc, hcm, hcs, htake⟩
  · simp at h'
  · simp only [Value.slice.injEq, Option.some.injEq, Addr.mk.injEq, and_true, true_and] at h'
    obtain ⟨rfl, rfl⟩ := h'
    refine ⟨⟨cur, hg, hcs, by rw [← hn]; exact Nat.mul_le_mul_right _ hnc, ?_⟩, hb, hnc, hcm⟩
    intro i x hi j u hu
    have hj : j < k := by rw [← hk x]; exact (List.getElem?_eq_some_iff.1 hu).1
    have hil : i < n := by rw [hn]; exact lt_of_get hi
    have hlt : i * k + j < n * k := by
      have : (i + 1) * k ≤ n * k := Nat.mul_le_mul_right _ hil
      rw [Nat.add_mul] at this
      omega
    have e1 := flatMap_get hk L i j hj
    rw [hi] at e1
    simp only [Option.bind_some] at e1
    rw [← htake, List.getElem?_take, if_pos hlt] at e1
    rw [← hu, ← e1]
    simp
theorem Bl.own {base : Nat} (hk : ∀ x, (enc x).length = k) (hk0 : 0 < k) (h : Bl enc k e w g (c * k) L) (hb : base ≤ g) (hlc : L.length ≤ c) (hcm : c ≤ maxLen) : w.ownsRow base e k (.slice (some ⟨g, 0, none⟩) L.length c) L.length (L.flatMap enc) := by
  obtain ⟨cur, h1, h2, h3, h4⟩ := h
  refine ⟨flatMap_len hk L, .inr ⟨g, c, cur, rfl, hb, h1, hlc, hcm, h2, ?_⟩⟩
  have hlen : L.length * k ≤ cur.size := by rw [h2]; exact Nat.mul_le_mul_right _ hlc
  refine List.ext_getElem? fun t => ?_
  by_cases ht : t < L.length * k
  · rw [List.getElem?_take, if_pos ht]
    have hq : t / k < L.length := by rw [Nat.div_lt_iff_lt_mul hk0]; exact ht
    have hr : t % k < k := Nat.mod_lt _ hk0
    have et : t / k * k + t % k = t := by rw [Nat.mul_comm]; exact Nat.div_add_mod t k
    have e1 := flatMap_get hk L (t / k) (t % k) hr
    rw [et, List.getElem?_eq_getElem hq] at e1
    simp only [Option.bind_some] at e1
    rw [e1]
    have hj : t % k < (enc L[t / k]).length := by rw [hk]; exact hr
    have e2 := h4 (t / k) _ (List.getElem?_eq_getElem hq) (t % k) _ (List.getElem?_eq_getElem hj)
    rw [et] at e2
    rw [List.getElem?_eq_getElem hj]
    simpa using e2
  · rw [List.getElem?_eq_none (Nat.le_trans (List.length_take_le _ _) (by omega)), List.getElem?_eq_none (by rw [flatMap_len hk]; omega)]

theorem Ow.nil : Ow enc k e B w none 0 ([] : List α) := .inl ⟨rfl, rfl, rfl⟩
theorem Ow.bl (h : Ow enc k e B w (some ⟨g, 0, none⟩) c l) : Bl enc k e w g (c * k) l := by
  rcases h with ⟨h, _⟩ | ⟨g', h, _, _, _, hb⟩
  · cases h
  · simp only [Option.some.injEq, Addr.mk.injEq, and_true] at h
    subst h
    exact hb
theorem Ow.le (h : Ow enc k e B w A c l) : l.length ≤ c := by
  rcases h with ⟨_, rfl, rfl⟩ | ⟨g, _, _, h, _⟩
  · simp
  · exact h
theorem Ow.capm (h : Ow enc k e B w A c l) : c ≤ maxLen := by
  rcases h with ⟨_, rfl, _⟩ | ⟨g, _, _, _, h, _⟩
  · exact Nat.zero_le _
  · exact h
theorem Ow.sl (h : Ow enc k e B w A c l) : Sl enc k w A c l := by
  refine ⟨h.le, fun hl => ?_⟩
  rcases h with ⟨_, _, rfl⟩ | ⟨g, rfl, _, _, _, hb⟩
  · exact absurd rfl hl
  · exact ⟨g, 0, rfl, hb.lt, hb.row⟩
theorem Ow.fr (h : Ow enc k e B w A c l) : Fr B w A l.length := by
  intro hl
  rcases h with ⟨_, _, rfl⟩ | ⟨g, rfl, hB, _, _, hb⟩
  · simp at hl
  · exact ⟨g, 0, rfl, hB, hb.lt, fun j => hb.frozen j⟩
theorem Ow.blk (h : Ow enc k e B w A c l) : ∀ g, blk A = some g → B ≤ g ∧ g < w.heap.size := by
  intro g' hg
  rcases h with ⟨rfl, _, _⟩ | ⟨g, rfl, hB, _, _, hb⟩
  · simp [Go.Proofs.Ytlgfmnognhojnaa.blk] at hg
  · simp [Go.Proofs.Ytlgfmnognhojnaa.blk] at hg
    subst hg
    exact ⟨hB, hb.lt⟩
theorem Ow.of_heap (h : Ow enc k e B w A c l) (hb : ∀ g, Go.Proofs.Ytlgfmnognhojnaa.blk A = some g → w'.heap[g]? = w.heap[g]?) : Ow enc k e B w' A c l := by
  rcases h with h | ⟨g, rfl, hB, hlc, hcm, hbl⟩
  · exact .inl h
  · exact .inr ⟨g, rfl, hB, hlc, hcm, hbl.of_heap (hb g rfl)⟩
theorem Ow.below (h : Ow enc k e B w A c l) (hb : Below w.heap.size w w') : Ow enc k e B w' A c l := h.of_heap fun g hg => hb.block g (h.blk g hg).2
theorem Ow.grown {row : Option Nat} (h : Ow enc k e B w A c l) (hb : w.grownBy w' row) (hne : Go.Proofs.Ytlgfmnognhojnaa.blk A = none ∨ Go.Proofs.Ytlgfmnognhojnaa.blk A ≠ row) : Ow enc k e B w' A c l :=
  h.of_heap fun g hg => hb.block g (h.blk g hg).2 (by rcases hne with hne | hne <;> rw [hg] at hne <;> first | cases hne | exact hne)
theorem Ow.alloc (h : Ow enc k e B w A c l) (o : Obj) : Ow enc k e B (w.alloc o) A c l := h.of_heap fun g hg => Below.heap_alloc _ _ _ (h.blk g hg).2
theorem Ow.drew (h : Ow enc k e B w A c l) : Ow enc k e B w.drew A c l := h
theorem Ow.drewN (h : Ow enc k e B w A c l) (n : Nat) : Ow enc k e B (w.drewN n) A c l := h
theorem Ow.base {B' : Nat} (h : Ow enc k e B w A c l) (hB : B' ≤ B) : Ow enc k e B' w A c l := by
  rcases h with h | ⟨g, rfl, h1, r⟩
  · exact .inl h
  · exact .inr ⟨g, rfl, Nat.le_trans hB h1, r⟩
/-- Only the first m elements. -/
theorem Ow.cut (h : Ow enc k e B w A c l) (m : Nat) : Ow enc k e B w A c (l.take m) := by
  rcases h with ⟨rfl, rfl, rfl⟩ | ⟨g, rfl, hB, hlc, hcm, cur, h1, h2, h3, h4⟩
  · exact .inl ⟨rfl, rfl, by simp⟩
  · refine .inr ⟨g, rfl, hB, Nat.le_trans (List.length_take_le' _ _) hlc, hcm, cur, h1, h2, Nat.le_trans (Nat.mul_le_mul_right _ (List.length_take_le' _ _)) h3, ?_⟩
    intro i x hi
    rw [List.getElem?_take] at hi
    split at hi
    · exact h4 i x hi
    · cases hi
theorem Ow.toOwn (hk : ∀ x, (enc x).length = k) (hk0 : 0 < k) (h : Ow enc k e B w A c l) : w.ownsRow B e k (.slice A l.length c) l.length (l.flatMap enc) := by
  rcases h with ⟨rfl, rfl, rfl⟩ | ⟨g, rfl, hB, hlc, hcm, hb⟩
  · exact World.ownsRow_nil w B e k
  · exact hb.own hk hk0 hB hlc hcm
theorem Ow.of_own (hk : ∀ x, (enc x).length = k) {v : Value} (h : w.ownsRow B e k v n (l.flatMap enc)) (hn : n = l.length) : ∃ A c, v = .slice A l.length c ∧ Ow enc k e B w A c l := by
  subst hn
  rcases h.2 with ⟨rfl, h0⟩ | ⟨g, cap, cur, rfl, r⟩
  · have : l = [] := List.eq_nil_of_length_eq_zero h0
    subst this
    exact ⟨none, 0, rfl, Ow.nil⟩
  · obtain ⟨h1, h2, h3, h4⟩ := Bl.of_own hk h rfl
    exact ⟨_, cap, rfl, .inr ⟨g, rfl, h2, h3, h4, h1⟩⟩
theorem below_grown {b w0 : World} {row : Option Nat} (h : Below B w0 b) (hg : b.grownBy w' row) (hB : B ≤ b.heap.size) (hr : ∀ g, row = some g → B ≤ g) : Below B w0 w' := h.grown hg hB hr
/-- A block that was laid whole is the call's own. -/
theorem Ow.lit (w : World) {cs : Array Value} (hB : B ≤ w.heap.size) (hcs : cs.toList = l.flatMap enc) (hk : ∀ x, (enc x).length = k) (hl : l.length ≤ maxLen) : Ow enc k e B (w.alloc (.cells cs e)) (some ⟨w.heap.size, 0, none⟩) l.length l := by
  have hsz : cs.size = l.length * k := by rw [← flatMap_len hk, ← hcs]; simp
  have := World.ownsRow_lit (base := B) (e := e) (size := k) w cs l.length hB hl hsz
  rw [hcs] at this
  obtain ⟨h1, h2, h3, h4⟩ := Bl.of_own hk this rfl
  exact .inr ⟨_, rfl, h2, h3, h4, h1⟩
end

/-- A block that was laid with one element in it. -/
theorem Bl.one {α : Type} {enc : α → List Value} {k : Nat} {e : TypeId} (hk : ∀ x, (enc x).length = k) (w : World) (x : α) {cs : Array Value} (hcs : cs.toList = enc x) : Bl enc k e (w.alloc (.cells cs e)) w.heap.size k [x] := by
  refine ⟨cs, heap_alloc_new w _, by rw [← Array.length_toList, hcs, hk], by simp, ?_⟩
  intro i y hi j u hu
  match i, hi with
  | 0, hi =>
    simp at hi
    subst hi
    rw [← hcs] at hu
    simpa using hu

/-- Two blocks with one element each, behind a first one; then a call that leaves them. -/
theorem two_new {α : Type} {enc : α → List Value} {k : Nat} (hk : ∀ x, (enc x).length = k) (w : World) (o : Obj) (e2 e3 : TypeId) (x2 x3 : α) {cs2 cs3 : Array Value} (h2 : cs2.toList = enc x2) (h3 : cs3.toList = enc x3) {w2 : World}
    (hb : Below (((w.alloc o).alloc (.cells cs2 e2)).alloc (.cells cs3 e3)).heap.size (((w.alloc o).alloc (.cells cs2 e2)).alloc (.cells cs3 e3)) w2) :
    Bl enc k e2 w2 (w.heap.size + 1) k [x2] ∧ Bl enc k e3 w2 (w.heap.size + 1 + 1) k [x3] ∧ w.heap.size + 1 + 1 < w2.heap.size := by
  have s1 : (w.alloc o).heap.size = w.heap.size + 1 := by simp
  have s2 : ((w.alloc o).alloc (.cells cs2 e2)).heap.size = w.heap.size + 1 + 1 := by simp
  have s3 : (((w.alloc o).alloc (.cells cs2 e2)).alloc (.cells cs3 e3)).heap.size = w.heap.size + 1 + 1 + 1 := by simp
  have b3 := Bl.one (e := e3) hk ((w.alloc o).alloc (.cells cs2 e2)) x3 h3
  have b2 := (Bl.one (e := e2) hk (w.alloc o) x2 h2).alloc (.cells cs3 e3)
  rw [s2] at b3
  rw [s1] at b2
  have hz := hb.size
  exact ⟨b2.below hb (by omega), b3.below hb (by omega), by omega⟩

theorem Bl.sl {α : Type} {enc : α → List Value} {k : Nat} {e : TypeId} {w : World} {g m : Nat} {L : List α} (h : Bl enc k e w g m L) : Sl enc k w (some ⟨g, 0, none⟩) L.length L := ⟨Nat.le_refl _, fun _ => ⟨g, 0, rfl, h.lt, h.row⟩⟩
theorem ne_of_base {α : Type} {enc : α → List Value} {k : Nat} {e : TypeId} {B c g : Nat} {w : World} {A : Option Addr} {l : List α} (h : Ow enc k e B w A c l) (hg : g < B) : some g ≠ Go.Proofs.Ytlgfmnognhojnaa.blk A := by
  intro e1
  have := (h.blk g e1.symm).1
  omega
theorem ne_of_lt {α : Type} {enc : α → List Value} {k : Nat} {e : TypeId} {B c g : Nat} {w : World} {A : Option Addr} {l : List α} (h : Ow enc k e B w A c l) (hg : w.heap.size ≤ g) : some g ≠ Go.Proofs.Ytlgfmnognhojnaa.blk A := by
  intro e1
  have := (h.blk g e1.symm).2
  omega

/-- What the table says of an element type; z: its zero value. -/
structure ElT (P : Program) (t e : TypeId) {α : Type} (enc : α → List Value) (k bytes : Nat) (z : α) : Prop where
  ht : P.underlying t = some (.slice e)
  hi : ∃ i zv, P.info? e = some i ∧ i.zero = some zv ∧ zv.cells.toList = enc z ∧ i.size = k ∧ i.bytes = bytes
  hk : ∀ x, (enc x).length = k
  h1 : ∀ x, ∀ u ∈ enc x, u.oneCell' = true
  k0 : 0 < k

section
variable {P : Program} {t e : TypeId} {α : Type} {enc : α → List Value} {k bytes : Nat} {z : α}

theorem run_app (w : World) (T : ElT P t e enc k bytes z) (ty : TypeId) (B : Nat) (A : Option Addr) (c : Nat) (l : List α) (hown : Ow enc k e B w A c l) (A2 : Option Addr) (c2 : Nat) (l2 : List α) (hsl : Sl enc k w A2 c2 l2)
    (hlen : l.length + l2.length ≤ 4000000) (hb : bytes ≤ 1000) (hB : B ≤ w.heap.size) :
    ∃ A' c' w', (Builtin.append_ #[t, t] ty #[.slice A l.length c, .slice A2 l2.length c2]).run P w = .ok (.slice A' (l ++ l2).length c') w' ∧ Ow enc k e B w' A' c' (l ++ l2) ∧ w.grownBy w' (blk A) ∧ (blk A' = blk A ∨ blk A' = some w.heap.size) := by
  obtain ⟨i, zv, hi, hz, hzv, hs, hby⟩ := T.hi
  have hzs : zv.cells.size = k := by rw [← Array.length_toList, hzv, T.hk]
  by_cases h2 : l2 = []
  · subst h2
    refine ⟨A, c, w, ?_, by simpa using hown, World.grownBy.refl _ _, .inl rfl⟩
    have hlc := hown.le
    have hcut : l.length + 0 ≤ c := by omega
    simp only [List.append_nil, List.length_nil]
    rcases hown with ⟨rfl, rfl, rfl⟩ | ⟨g, rfl, _, _, _, hbl⟩ <;> cases A2 <;>
      simp [Builtin.append_, run_underlying T.ht, sizeOf, typeInfo, hi, Builtin.lenOf, Builtin.firstCells, loadCells, loadCellsFrom, storeCells, hlc]
  · obtain ⟨b, o, rfl, hlt, hrow⟩ := hsl.2 h2
    obtain ⟨v', w', hrun, h3, h4, _, h6⟩ := run_append_own_at (P := P) w B t ty e i zv k bytes T.ht hi hz hs hby hzs T.k0 (.slice A l.length c) l.length (l.flatMap enc) (hown.toOwn T.hk T.k0)
      ⟨b, o, none⟩ l2.length c2 (l2.flatMap enc) (flatMap_len T.hk l2) (by
        intro j u hu
        have hq : j / k < l2.length := by
          rw [Nat.div_lt_iff_lt_mul T.k0, ← flatMap_len T.hk]; exact (List.getElem?_eq_some_iff.1 hu).1
        have hr : j % k < k := Nat.mod_lt _ T.k0
        have et : j / k * k + j % k = j := by rw [Nat.mul_comm]; exact Nat.div_add_mod j k
        have e1 := flatMap_get T.hk l2 (j / k) (j % k) hr
        rw [et, hu, List.getElem?_eq_getElem hq] at e1
        simp only [Option.bind_some] at e1
        have := hrow (j / k) _ (List.getElem?_eq_getElem hq) (j % k) u e1.symm
        rw [Addr.add_lit, ← this]
        congr 2
        omega) (by
        intro u hu
        obtain ⟨x, _, hx⟩ := List.mem_flatMap.1 hu
        exact T.h1 x u hx) (by unfold maxLen; omega) (by
        have := Nat.mul_le_mul hlen hb
        omega) hB
    rw [← List.flatMap_append] at h3
    obtain ⟨A', c', rfl, h7⟩ := Ow.of_own T.hk h3 (by simp)
    rw [ownBlock_slice] at h4
    rw [ownBlock_slice, ownBlock_slice] at h6
    exact ⟨A', c', w', hrun, h7, h4, h6⟩

theorem wpList_app {w : World} {ops : Array Oper} {rest : List Oper} {o : Oper} {a : Act} {Q : Exit → Act → World → Prop} (T : ElT P t e enc k bytes z) (hgd : o.guard = none) (s x : Operand)
    (ho : o.op = .call { callee := .builtin .append, args := #[s, x], argTypes := #[t, t] }) (B : Nat) (A : Option Addr) (c n : Nat) (l : List α) (hs : a.eval s = .slice A n c) (hn : n = l.length) (hown : Ow enc k e B w A c l)
    (A2 : Option Addr) (c2 n2 : Nat) (l2 : List α) (hx : a.eval x = .slice A2 n2 c2) (hn2 : n2 = l2.length) (hsl : Sl enc k w A2 c2 l2)
    (hlen : l.length + l2.length ≤ 4000000) (hb : bytes ≤ 1000) (hB : B ≤ w.heap.size)
    (h : ∀ A' c' w', Ow enc k e B w' A' c' (l ++ l2) → w.grownBy w' (blk A) → (blk A' = blk A ∨ blk A' = some w.heap.size) → wpList P ops Q rest (a.put o.dst (.slice A' (l ++ l2).length c')) w') : wpList P ops Q (o :: rest) a w := by
  subst hn
  subst hn2
  obtain ⟨A', c', w', hrun, h2, h3, h4⟩ := run_app (P := P) w T o.type B A c l hown A2 c2 l2 hsl hlen hb hB
  refine wpList_plain hgd fun K hK => ?_
  unfold Oper.wp execOp
  simp only [ho, resolve, invoke, builtin, Sem.run_bind, Sem.run_pure, Result.andThen_ok, List.map_toArray, List.map_cons, List.map_nil, hs, hx, hrun]
  exact hK _ _ (h A' c' w' h2 h3 h4)

/-- The same at a step of a region that draws its order. -/
theorem step_app {w : World} {ops : Array Oper} {o : Oper} {a : Act} {K : Act → World → Prop} {Q : Exit → Act → World → Prop} {E : Prop} (T : ElT P t e enc k bytes z) (hw : Region.wanted o (yielded ops a.tmps) = true) (s x : Operand)
    (ho : o.op = .call { callee := .builtin .append, args := #[s, x], argTypes := #[t, t] }) (B : Nat) (A : Option Addr) (c n : Nat) (l : List α) (hs : a.eval s = .slice A n c) (hn : n = l.length) (hown : Ow enc k e B w A c l)
    (A2 : Option Addr) (c2 n2 : Nat) (l2 : List α) (hx : a.eval x = .slice A2 n2 c2) (hn2 : n2 = l2.length) (hsl : Sl enc k w A2 c2 l2)
    (hlen : l.length + l2.length ≤ 4000000) (hb : bytes ≤ 1000) (hB : B ≤ w.heap.size)
    (h : ∀ A' c' w', Ow enc k e B w' A' c' (l ++ l2) → w.grownBy w' (blk A) → (blk A' = blk A ∨ blk A' = some w.heap.size) → K (a.put o.dst (.slice A' (l ++ l2).length c')) w') :
    if Region.wanted o (yielded ops a.tmps) = true then Oper.wp P o a w K Q else E := by
  rw [if_pos hw]
  subst hn
  subst hn2
  obtain ⟨A', c', w', hrun, h2, h3, h4⟩ := run_app (P := P) w T o.type B A c l hown A2 c2 l2 hsl hlen hb hB
  unfold Oper.wp execOp
  simp only [ho, resolve, invoke, builtin, Sem.run_bind, Sem.run_pure, Result.andThen_ok, List.map_toArray, List.map_cons, List.map_nil, hs, hx, hrun]
  exact h A' c' w' h2 h3 h4

/-- 'make([]T, n)', n the length of what comes in. -/
theorem wpList_mk {w : World} {ops : Array Oper} {rest : List Oper} {o : Oper} {a : Act} {Q : Exit → Act → World → Prop} (T : ElT P t e enc k bytes z) (hgd : o.guard = none) (L C : Operand) (hop : o.op = Op.makeSlice t L C) (B n : Nat)
    (hl : a.eval L = .int .i64 (n : Int)) (hc : a.eval C = .int .i64 (n : Int)) (hn : n ≤ 4000000) (hb : bytes ≤ 1000) (hB : B ≤ w.heap.size)
    (h : ∀ w', Ow enc k e B w' (some ⟨w.heap.size, 0, none⟩) n (List.replicate n z) → w.grownBy w' none → wpList P ops Q rest (a.put o.dst (.slice (some ⟨w.heap.size, 0, none⟩) n n)) w') : wpList P ops Q (o :: rest) a w := by
  obtain ⟨i, zv, hi, hz, hzv, hs, hby⟩ := T.hi
  refine wpList_make_full w hgd L C t hop B e i zv k T.ht hi hz hs .i64 .i64 _ _ n hl hc rfl rfl (by
    rw [hby]
    have := Nat.mul_le_mul hn hb
    rw [Nat.mul_comm]
    omega) (by unfold maxLen; omega) hB ?_
  intro w' hown hg
  refine h w' ?_ hg
  have hm : (madeCells zv.cells (n * k)).toList = (List.replicate n z).flatMap enc := by
    have hzs : zv.cells.size = k := by rw [← Array.length_toList, hzv, T.hk]
    refine List.ext_getElem? fun q => ?_
    by_cases hq : q < n * k
    · have hqk : q / k < n := by rw [Nat.div_lt_iff_lt_mul T.k0]; exact hq
      have hr : q % k < k := Nat.mod_lt _ T.k0
      have et : q / k * k + q % k = q := by rw [Nat.mul_comm]; exact Nat.div_add_mod q k
      have e1 := flatMap_get T.hk (List.replicate n z) (q / k) (q % k) hr
      rw [et, List.getElem?_replicate, if_pos hqk] at e1
      rw [e1]
      simp only [Option.bind_some, ← hzv]
      have hlt : q % k < zv.cells.size := by rw [hzs]; exact hr
      have e3 : zv.cells[q % k]? = some zv.cells[q % k]! := by rw [Array.getElem?_eq_getElem hlt, getElem!_pos zv.cells _ hlt]
      have e4 : (madeCells zv.cells (n * k)).toList[q]? = some zv.cells[q % k]! := by simp [madeCells, hq, hzs]
      rw [e4, ← e3]
      simp
    · rw [List.getElem?_eq_none (by simp [madeCells]; omega), List.getElem?_eq_none (by rw [flatMap_len T.hk, List.length_replicate]; omega)]
  rw [hm] at hown
  obtain ⟨h1, h2, h3, h4⟩ := Bl.of_own T.hk hown (by simp)
  exact .inr ⟨_, rfl, h2, by simp, h4, h1⟩
end

/-! ### clear: the elements from the i-th on -/
section
variable {P : Program} {t e : TypeId} {α : Type} {enc : α → List Value} {k bytes : Nat} {z : α}
theorem wpList_clear {w : World} {ops : Array Oper} {rest : List Oper} {o : Oper} {a : Act} {Q : Exit → Act → World → Prop} (T : ElT P t e enc k bytes z) (hgd : o.guard = none) (s : Operand)
    (ho : o.op = .call { callee := .builtin .clear, args := #[s], argTypes := #[t] }) (g m i n c2 : Nat) (L : List α) (hbl : Bl enc k e w g m L) (hs : a.eval s = .slice (some ⟨g, i * k, none⟩) n c2) (hn : i + n = L.length) (hn0 : 0 < n)
    (h : ∀ w', Bl enc k e w' g m (L.take i) → w.grownBy w' (some g) → wpList P ops Q rest (a.put o.dst (.tuple #[])) w') : wpList P ops Q (o :: rest) a w := by
  obtain ⟨inf, zv, hi, hz, hzv, hsz, hby⟩ := T.hi
  have hzs : zv.cells.size = k := by rw [← Array.length_toList, hzv, T.hk]
  obtain ⟨cur, h1, h2, h3, h4⟩ := hbl
  have hlen : (Builtin.zeroCells zv.cells n).toList.length = n * k := by simp [Builtin.zeroCells, hzs]
  have hfit : i * k + 0 + (Builtin.zeroCells zv.cells n).toList.length ≤ cur.size := by
    rw [hlen, h2, Nat.add_zero, ← Nat.add_mul, hn]; exact h3
  have hst := run_storeCells_at P g (i * k) e (Builtin.zeroCells zv.cells n).toList 0 cur w h1 hfit (by
    intro v hv
    simp only [Builtin.zeroCells, Array.toList_map, List.mem_map] at hv
    obtain ⟨q, hq, rfl⟩ := hv
    have hq' : q < n * zv.cells.size := by simpa using hq
    have hk0 := T.k0
    have hlt : q % zv.cells.size < zv.cells.size := Nat.mod_lt _ (by omega)
    refine T.h1 z _ ?_
    rw [← hzv, getElem!_pos zv.cells _ hlt]
    simp)
  simp only [Nat.add_zero] at hst
  have hrun : (Builtin.clear_ #[t] o.type #[.slice (some ⟨g, i * k, none⟩) n c2]).run P w = .ok (.tuple #[]) (w.setRow g (cur.toList.take (i * k) ++ (Builtin.zeroCells zv.cells n).toList ++ cur.toList.drop (i * k + (Builtin.zeroCells zv.cells n).toList.length)).toArray) := by
    obtain ⟨n', rfl⟩ : ∃ n', n = n' + 1 := ⟨n - 1, by omega⟩
    simp [Builtin.clear_, run_underlying T.ht, zeroValue, typeInfo, hi, hz, hst]
  have hcs : (cur.toList.take (i * k) ++ (Builtin.zeroCells zv.cells n).toList ++ cur.toList.drop (i * k + (Builtin.zeroCells zv.cells n).toList.length)).length = cur.size := by
    have : i * k ≤ cur.size := by omega
    rw [List.length_append, List.length_append, List.length_take, List.length_drop, Array.length_toList, Nat.min_eq_left this]
    omega
  refine wpList_plain hgd fun K hK => ?_
  unfold Oper.wp execOp
  simp only [ho, resolve, invoke, builtin, Sem.run_bind, Sem.run_pure, Result.andThen_ok, List.map_toArray, List.map_cons, List.map_nil, hs, hrun]
  refine hK _ _ (h _ ⟨_, setRow_heap w g cur _ e _ h1, by rw [List.size_toArray, hcs, h2], Nat.le_trans (Nat.mul_le_mul_right _ (List.length_take_le' _ _)) h3, ?_⟩ ⟨rfl, rfl, rfl, by simp, fun q _ hq => setRow_other w g q _ (fun e => hq (by rw [e]))⟩)
  intro j x hx q u hu
  rw [List.getElem?_take] at hx
  split at hx
  · rename_i hji
    have hq : q < k := by rw [← T.hk x]; exact (List.getElem?_eq_some_iff.1 hu).1
    have hlt : j * k + q < i * k := by
      have : (j + 1) * k ≤ i * k := Nat.mul_le_mul_right _ hji
      rw [Nat.add_mul] at this
      omega
    have := h4 j x hx q u hu
    have hcl : i * k ≤ cur.size := by omega
    rw [List.getElem?_toArray, List.append_assoc, List.getElem?_append_left (by rw [List.length_take, Array.length_toList]; omega), List.getElem?_take, if_pos hlt]
    simpa using this
  · cases hx
end

/-! ### Stores into elements -/
section
variable {α : Type} {enc : α → List Value} {k : Nat} {W : World} {b o i j : Nat} {L : List α} {x x' : α} {u : Value}

theorem idx_inj {i j i' j' k : Nat} (hj : j < k) (hj' : j' < k) (h : i * k + j = i' * k + j') : i = i' ∧ j = j' := by
  have h1 : (i * k + j) / k = i := by rw [Nat.mul_comm, Nat.mul_add_div (by omega), Nat.div_eq_of_lt hj, Nat.add_zero]
  have h2 : (i' * k + j') / k = i' := by rw [Nat.mul_comm, Nat.mul_add_div (by omega), Nat.div_eq_of_lt hj', Nat.add_zero]
  have e : i = i' := by rw [← h1, ← h2, h]
  subst e
  exact ⟨rfl, by omega⟩
/-- Cell j of element i is stored. -/
theorem Row.store (h : Row enc k W b o L) (hk : ∀ x, (enc x).length = k) (hi : L[i]? = some x) (hj : j < k) (hx : enc x' = (enc x).set j u) : Row enc k (W.setCell ⟨b, o + i * k + j, none⟩ u) b o (L.set i x') := by
  intro i' y hy j' v hv
  have hj' : j' < k := by rw [← hk y]; exact (List.getElem?_eq_some_iff.1 hv).1
  have hil := lt_of_get hi
  by_cases hii : i = i'
  · subst hii
    rw [List.getElem?_set_self hil] at hy
    injection hy with hy
    subst hy
    rw [hx] at hv
    by_cases hjj : j = j'
    · subst hjj
      rw [List.getElem?_set_self (by rw [hk]; exact hj)] at hv
      injection hv with hv
      subst hv
      have hold := h i x hi j _ (List.getElem?_eq_getElem (by rw [hk]; exact hj))
      exact World.cell?_setCell_same (h := hold) ..
    · rw [List.getElem?_set_ne hjj] at hv
      rw [World.cell?_setCell_other _ _ _ _ (by intro hh; simp only [Addr.mk.injEq, and_true, true_and] at hh; omega)]
      exact h i x hi j' v hv
  · rw [List.getElem?_set_ne hii] at hy
    rw [World.cell?_setCell_other _ _ _ _ (by
      intro hh
      simp only [Addr.mk.injEq, and_true, true_and] at hh
      exact hii (idx_inj hj hj' (by omega)).1)]
    exact h i' y hy j' v hv
/-- A store into another block, or where no element lies. -/
theorem Row.far (h : Row enc k W b o L) {p : Addr} (hp : p.block ≠ b) : Row enc k (W.setCell p u) b o L := fun i' y hy j' v hv => by
  rw [World.cell?_setCell_other _ _ _ _ (by intro e; exact hp (by rw [e]))]
  exact h i' y hy j' v hv
end

section
variable {α : Type} {enc : α → List Value} {k : Nat} {e : TypeId} {W : World} {g m i j : Nat} {L : List α} {x x' : α} {u : Value}
theorem Bl.store (h : Bl enc k e W g m L) (hk : ∀ x, (enc x).length = k) (hi : L[i]? = some x) (hj : j < k) (hx : enc x' = (enc x).set j u) : Bl enc k e (W.setCell ⟨g, i * k + j, none⟩ u) g m (L.set i x') := by
  have hr := h.row.store hk hi hj hx
  obtain ⟨cur, h1, h2, h3, h4⟩ := h
  refine ⟨cur.setIfInBounds (i * k + j) u, ?_, by simpa using h2, by simpa using h3, ?_⟩
  · simp [World.setCell, Array.getElem?_modify, h1]
  · intro i' y hy j' v hv
    have := hr i' y hy j' v hv
    rw [Nat.zero_add, Nat.zero_add] at this
    rw [← this]
    rw [cell_of_row _ _ _ (cur.setIfInBounds (i * k + j) u) e (0, 0) (by simp [World.setCell, Array.getElem?_modify, h1])]
end
/-! ### What has grown, step by step -/
section
variable {a w w' : World} {row : Option Nat}
theorem grown_setCell (h : a.grownBy w row) {p : Addr} (hp : some p.block = row ∨ a.heap.size ≤ p.block) (u : Value) : a.grownBy (w.setCell p u) row :=
  ⟨h.os, h.tape, h.output, by simpa [World.setCell] using h.size, fun i hi hne => (Below.heap_setCell w p u i (by
    rintro rfl
    rcases hp with hp | hp
    · exact hne hp
    · omega)).trans (h.block i hi hne)⟩
theorem grown_below (h : a.grownBy w row) (hb : Below w.heap.size w w') : a.grownBy w' row :=
  ⟨hb.os.trans h.os, hb.tape.trans h.tape, hb.output.trans h.output, Nat.le_trans h.size hb.size, fun i hi hne => (hb.block i (Nat.lt_of_lt_of_le hi h.size)).trans (h.block i hi hne)⟩
theorem grown_alloc (h : a.grownBy w row) (o : Obj) : a.grownBy (w.alloc o) row := grown_below h ((Below.refl _ _).alloc (Nat.le_refl _) o)
theorem grown_drewN (h : a.grownBy w row) (n : Nat) : a.grownBy (w.drewN n) row := ⟨h.os, h.tape, h.output, h.size, h.block⟩
theorem grown_trans (h : a.grownBy w row) {row' : Option Nat} (h2 : w.grownBy w' row') (hr : row' = row ∨ ∀ g, row' = some g → a.heap.size ≤ g) : a.grownBy w' row :=
  ⟨h2.os.trans h.os, h2.tape.trans h.tape, h2.output.trans h.output, Nat.le_trans h.size h2.size, fun i hi hne => (h2.block i (Nat.lt_of_lt_of_le hi h.size) (by
    rintro e
    rcases hr with hr | hr
    · exact hne (e.trans hr)
    · have := hr i e.symm; omega)).trans (h.block i hi hne)⟩
theorem grown_of_below (h : Below a.heap.size a w) : a.grownBy w row := grown_below (World.grownBy.refl a row) h
theorem below_of_grown (h : a.grownBy w row) (hr : ∀ g, row = some g → a.heap.size ≤ g) : Below a.heap.size a w :=
  ⟨h.os, h.tape, h.output, h.size, fun i hi => h.block i hi (by intro e; have := hr i e.symm; omega)⟩
/-- Below B, where the row that may have changed lies from B on. -/
theorem below_app {B : Nat} (h : Below B a w) (hg : w.grownBy w' row) (hB : B ≤ w.heap.size) (hr : ∀ g, row = some g → B ≤ g) : Below B a w' := h.grown hg hB hr
end
end Go.Proofs.Ytlgfmnognhojnaa
