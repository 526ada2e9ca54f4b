/- The data of the program as Lean types, and what the document says of them. -/
import Derived.Test.YtlgfmnognhojnaaLib
namespace Go.Proofs.Ytlgfmnognhojnaa
open Go.RowKit

/-- A contact: the port, and the end to which something was sent. -/
@[ext] structure Ct where
  p : Int
  a : Int
  q : Int
  deriving DecidableEq
/-- A mapping: the end inside, the port outside, when it was used last. -/
@[ext] structure Mp where
  a : Int
  q : Int
  p : Int
  l : Int
  deriving DecidableEq

def Ct.v (x : Ct) : Value := .agg #[.int .i64 x.p, .int .i64 x.a, .int .i64 x.q]
def Mp.v (x : Mp) : Value := .agg #[.int .i64 x.a, .int .i64 x.q, .int .i64 x.p, .int .i64 x.l]
def encI (x : Int) : List Value := [.int .i64 x]
def encC (x : Ct) : List Value := [.int .i64 x.p, .int .i64 x.a, .int .i64 x.q]
def encM (x : Mp) : List Value := [.int .i64 x.a, .int .i64 x.q, .int .i64 x.p, .int .i64 x.l]

def okC (x : Ct) : Bool := inR x.p 1000 1007 && (isW x.a && isW x.q)
def vC (l : List Ct) : Bool := decide (l.length ≤ 10 ∧ l.Nodup ∧ ∀ x ∈ l, okC x = true)

theorem take_succ {α : Type} {l : List α} {k : Nat} {x : α} (h : l[k]? = some x) : l.take (k + 1) = l.take k ++ [x] := by
  rw [List.take_add_one, h]; rfl
theorem mem_take_of {α : Type} {l : List α} {k : Nat} {x : α} (h : x ∈ l.take k) : ∃ j, j < k ∧ l[j]? = some x := by
  obtain ⟨j, hj⟩ := List.getElem?_of_mem h
  rw [List.getElem?_take] at hj
  split at hj
  · exact ⟨j, ‹_›, hj⟩
  · cases hj
theorem lt_of_get {α : Type} {l : List α} {k : Nat} {x : α} (h : l[k]? = some x) : k < l.length := (List.getElem?_eq_some_iff.1 h).1

/-- The contacts so far: all right, all different. -/
def goodC (l : List Ct) : Prop := l.Nodup ∧ ∀ x ∈ l, okC x = true
theorem goodC_step {l : List Ct} {k : Nat} {x : Ct} (h : l[k]? = some x) (hg : goodC (l.take k)) (ho : okC x = true) (hn : x ∉ l.take k) : goodC (l.take (k + 1)) := by
  rw [take_succ h]
  refine ⟨List.nodup_append.2 ⟨hg.1, by simp, ?_⟩, ?_⟩
  · intro a ha b hb
    simp at hb
    subst hb
    rintro rfl
    exact hn ha
  · intro y hy
    rcases List.mem_append.1 hy with hy | hy
    · exact hg.2 y hy
    · simp at hy; subst hy; exact ho
theorem vC_bad {l : List Ct} {k : Nat} {x : Ct} (h : l[k]? = some x) (ho : okC x = false) : vC l = false := by
  unfold vC
  rw [decide_eq_false_iff_not]
  rintro ⟨_, _, h3⟩
  have := h3 x (List.mem_of_getElem? h)
  rw [ho] at this
  cases this
theorem vC_dup {l : List Ct} {k m : Nat} {x : Ct} (h : l[k]? = some x) (hm : m < k) (h' : l[m]? = some x) : vC l = false := by
  unfold vC
  rw [decide_eq_false_iff_not]
  rintro ⟨_, h2, _⟩
  have hk := lt_of_get h
  have e1 : l[m]'(by omega) = x := by simpa [List.getElem?_eq_getElem (show m < l.length by omega)] using h'
  have e2 : l[k] = x := by simpa [List.getElem?_eq_getElem hk] using h
  have := (List.nodup_iff_pairwise_ne.1 h2)
  rw [List.pairwise_iff_getElem] at this
  exact this m k (by omega) hk hm (e1.trans e2.symm)
theorem vC_end {l : List Ct} (hg : goodC (l.take l.length)) : vC l = decide ((l.length : Int) ≤ 10) := by
  rw [List.take_length] at hg
  unfold vC
  rw [decide_eq_decide]
  constructor
  · rintro ⟨h, _⟩; omega
  · intro h; exact ⟨by omega, hg.1, hg.2⟩

/-- A contact's three cells. -/
theorem Row.ct {w w' : World} {b o i B : Nat} {l : List Ct} {p a q : Int} (h : Row encC 3 w b o l) (hb : Below B w w') (hB : b < B) (hi : l[i]? = some ⟨p, a, q⟩) :
    w'.cell? ⟨b, o + i * 3, none⟩ = some (.int .i64 p) ∧ w'.cell? ⟨b, o + i * 3 + 1, none⟩ = some (.int .i64 a) ∧ w'.cell? ⟨b, o + i * 3 + 2, none⟩ = some (.int .i64 q) :=
  ⟨(h.below hb hB) i _ hi 0 _ rfl, (h.below hb hB) i _ hi 1 _ rfl, (h.below hb hB) i _ hi 2 _ rfl⟩
theorem ct_at {l : List Ct} {i : Nat} (h : i < l.length) : ∃ p a q, l[i]? = some ⟨p, a, q⟩ := ⟨_, _, _, List.getElem?_eq_getElem h⟩
end Go.Proofs.Ytlgfmnognhojnaa
