/- Words and laws that the walks of this seat share: results, slices that read as lists, slices of the call's own. -/
import Derived.WalkKit
import Derived.WalkSpells
import Derived.WalkLawsBesides
import Derived.Deep.QuietTactic
import Derived.BigQuiet
import Derived.Lib.Hide
import Derived.Laws.StructEq
import Derived.Deep.AppendLies
import Derived.Deep.RegionHeld3
import Derived.Maps.AppendAt
namespace Go.Proofs.Ytlgfmnognhojnaa
open Go.RowKit

/-- It returns v and leaves the world as it is. -/
def Same (w : World) (v : Value) (e : Ending) (w' : World) : Prop := e = .returned v ∧ w = w'
/-- It returns v; nothing that was there has changed. -/
def Ret (w : World) (v : Value) (e : Ending) (w' : World) : Prop := e = .returned v ∧ Below w.heap.size w w'

def isW (n : Int) : Bool := decide (0 ≤ n ∧ n ≤ 65535)
def inR (n lo hi : Int) : Bool := decide (lo ≤ n ∧ n ≤ hi)
theorem inR_word (n : Int) : inR n 0 65535 = isW n := rfl

/-- The elements of l lie, k cells each, from cell o of block b on. -/
def Row {α : Type} (enc : α → List Value) (k : Nat) (w : World) (b o : Nat) (l : List α) : Prop :=
  ∀ i x, l[i]? = some x → ∀ j u, (enc x)[j]? = some u → w.cell? ⟨b, o + i * k + j, none⟩ = some u
/-- The slice at A, of l's length and of capacity c, reads as l. -/
def Sl {α : Type} (enc : α → List Value) (k : Nat) (w : World) (A : Option Addr) (c : Nat) (l : List α) : Prop :=
  l.length ≤ c ∧ (l ≠ [] → ∃ b o, A = some ⟨b, o, none⟩ ∧ b < w.heap.size ∧ Row enc k w b o l)
/-- The slice at A lies, where it has elements, in a block from B on, and may be written. -/
def Fr (B : Nat) (w : World) (A : Option Addr) (n : Nat) : Prop :=
  0 < n → ∃ b o, A = some ⟨b, o, none⟩ ∧ B ≤ b ∧ b < w.heap.size ∧ ∀ j, w.frozen? ⟨b, j, none⟩ = false

section
variable {α : Type} {enc : α → List Value} {k : Nat} {w w' : World} {A : Option Addr} {b o c n B : Nat} {l : List α}

theorem Row.below (h : Row enc k w b o l) (hb : Below B w w') (hB : b < B) : Row enc k w' b o l :=
  fun i x hi j u hu => (hb.cell (p := ⟨b, o + i * k + j, none⟩) hB).trans (h i x hi j u hu)
theorem Row.grown {row : Option Nat} (h : Row enc k w b o l) (hb : w.grownBy w' row) (hlt : b < w.heap.size) (hB : some b ≠ row) : Row enc k w' b o l :=
  fun i x hi j u hu => (World.cell?_of_block (a := ⟨b, o + i * k + j, none⟩) (hb.block b hlt hB)).trans (h i x hi j u hu)
theorem Row.take (h : Row enc k w b o l) (m : Nat) : Row enc k w b o (l.take m) := fun i x hi j u hu => by
  rw [List.getElem?_take] at hi
  split at hi
  · exact h i x hi j u hu
  · cases hi
theorem Row.drop (h : Row enc k w b o l) (m : Nat) : Row enc k w b (o + m * k) (l.drop m) := fun i x hi j u hu => by
  rw [List.getElem?_drop] at hi
  have := h (m + i) x hi j u hu
  rw [Nat.add_mul] at this
  rw [show o + m * k + i * k + j = o + (m * k + i * k) + j from by omega]
  exact this

theorem Sl.nil (hc : 0 ≤ c := Nat.zero_le _) : Sl enc k w A c ([] : List α) := ⟨hc, fun h => absurd rfl h⟩
theorem Sl.base (h : Sl enc k w A c l) {i : Nat} (hi : i < l.length) : ∃ b o, A = some ⟨b, o, none⟩ ∧ b < w.heap.size ∧ Row enc k w b o l :=
  h.2 (by intro e; simp [e] at hi)
theorem Sl.below (h : Sl enc k w A c l) (hb : Below w.heap.size w w') : Sl enc k w' A c l :=
  ⟨h.1, fun hl => by
    obtain ⟨b, o, e, hlt, hr⟩ := h.2 hl
    exact ⟨b, o, e, Nat.lt_of_lt_of_le hlt hb.size, hr.below hb hlt⟩⟩
theorem Sl.take (h : Sl enc k w A c l) (m : Nat) : Sl enc k w A c (l.take m) :=
  ⟨Nat.le_trans (List.length_take_le' _ _) h.1, fun hl => by
    obtain ⟨b, o, e, hlt, hr⟩ := h.2 (by rintro rfl; simp at hl)
    exact ⟨b, o, e, hlt, hr.take m⟩⟩
theorem Sl.drop (h : Sl enc k w A c l) (m : Nat) (hm : m ≤ l.length) : Sl enc k w (if c = m then A else A.map (·.add (m * k))) (c - m) (l.drop m) := by
  refine ⟨by rw [List.length_drop]; exact Nat.sub_le_sub_right h.1 m, fun hl => ?_⟩
  have hlm : m < l.length := by
    rcases Nat.lt_or_ge m l.length with g | g
    · exact g
    · exact absurd (List.drop_eq_nil_of_le g) hl
  obtain ⟨b, o, e, hlt, hr⟩ := h.2 (by rintro rfl; simp at hl)
  have hc := h.1
  rw [if_neg (by omega), e]
  refine ⟨b, o + m * k, ?_, hlt, hr.drop m⟩
  simp [Addr.add]

theorem Fr.below (h : Fr B w A n) (hb : Below w.heap.size w w') : Fr B w' A n := fun hn => by
  obtain ⟨b, o, e, hB, hlt, hf⟩ := h hn
  exact ⟨b, o, e, hB, Nat.lt_of_lt_of_le hlt hb.size, fun j => (hb.frozen (p := ⟨b, j, none⟩) hlt).trans (hf j)⟩
theorem Fr.nil : Fr B w A 0 := fun h => absurd h (Nat.lt_irrefl _)
theorem Fr.mono {B' : Nat} (h : Fr B w A n) (hB : B' ≤ B) : Fr B' w A n := fun hn => by
  obtain ⟨b, o, e, h1, h2, h3⟩ := h hn
  exact ⟨b, o, e, Nat.le_trans hB h1, h2, h3⟩
theorem Fr.less {m : Nat} (h : Fr B w A n) (hm : m ≤ n) : Fr B w A m := fun h0 => h (Nat.lt_of_lt_of_le h0 hm)
end

theorem alloc_size (w : World) (o : Obj) : (w.alloc o).heap.size = w.heap.size + 1 := by simp

/-- A world reached from w, step by step: what was below stays. -/
theorem bstep {B : Nat} {a b c : World} (h : Below B a b) (h2 : Below b.heap.size b c) (hB : B ≤ b.heap.size) : Below B a c := h.trans (h2.mono hB)
theorem bdrewN {B : Nat} {a w : World} (h : Below B a w) (n : Nat) : Below B a (w.drewN n) := ⟨h.os, h.tape, h.output, h.size, h.block⟩
theorem bcell {B : Nat} {a w : World} {p : Addr} {v : Value} (h : Below B a w) (hp : p.block < B) (hv : a.cell? p = some v) : w.cell? p = some v := (h.cell hp).trans hv


/-! ### A region that draws its order, whose operations leave all that lay below B in w0 as it was -/
/-- A world that is w0 below B. -/
structure BW (B : Nat) (w0 : World) where
  w : World
  h : Below B w0 w
instance bwNonempty (B : Nat) (w0 : World) : Nonempty (BW B w0) := ⟨⟨w0, Below.refl _ _⟩⟩
theorem wp_region_bw {P : Program} {id : Nat} {Q : Exit → Act → World → Prop} {a : Act} {w : World} {l : List Oper} (B : Nat) (w0 : World) (hb : Below B w0 w)
    (hm : P.follows .mixedOrders = true) (hB : Region.lexB .any l.toArray = true)
    (h : wpQuiet P l.toArray (fun w' => ∃ x : BW B w0, w' = x.w) (fun a' => ∀ w', (∃ x : BW B w0, w' = x.w) → Q .normal a' w') l a) : (Code.region id l.toArray true).wp P Q a w :=
  wp_region_quiet (C := fun w' => ∃ x : BW B w0, w' = x.w) hm hB ⟨⟨_, hb.drew⟩, rfl⟩ (by simpa using h)
theorem bwCall {P : Program} {f : FuncId} {args : Array Value} {B : Nat} {w0 : World} {x : BW B w0} {v : Value} (hB : B ≤ w0.heap.size) (h : Calls P f args x.w (Ret x.w v)) :
    Calls P f args x.w (fun e w'' => e = .returned v ∧ ∃ y : BW B w0, w'' = y.w) :=
  h.mono fun _ w2 ⟨h1, h2⟩ => ⟨h1, ⟨w2, x.h.trans (h2.mono (Nat.le_trans hB x.h.size))⟩, rfl⟩
theorem bwSame {P : Program} {f : FuncId} {args : Array Value} {B : Nat} {w0 : World} {x : BW B w0} {v : Value} (h : Calls P f args x.w (Same x.w v)) :
    Calls P f args x.w (fun e w'' => e = .returned v ∧ ∃ y : BW B w0, w'' = y.w) :=
  h.mono fun _ _ ⟨h1, h2⟩ => ⟨h1, x, h2.symm⟩
theorem bwCell {B : Nat} {w0 : World} {p : Addr} {v : Value} (hp : p.block < B) (hv : w0.cell? p = some v) (x : BW B w0) : x.w.cell? p = some v := bcell x.h hp hv
theorem bwSl {α : Type} {enc : α → List Value} {k : Nat} {w w0 : World} {A : Option Addr} {c B : Nat} {l : List α} (h : Sl enc k w A c l) (hb : Below w.heap.size w w0) (hB : w.heap.size ≤ B) {x : BW B w0} : Sl enc k x.w A c l :=
  h.below (hb.trans (x.h.mono hB))

end Go.Proofs.Ytlgfmnognhojnaa
