/- Tables of mappings: what the document says of them, in plain terms. -/
import Derived.Test.YtlgfmnognhojnaaCk
namespace Go.Proofs.Ytlgfmnognhojnaa
open Go.RowKit

def okM (x : Mp) : Bool := (isW x.a && isW x.q) && (inR x.p 1000 1007 && inR x.l 0 10000)
def sameE (a q : Int) (x : Mp) : Bool := (x.a == a) && (x.q == q)
def sameP (p : Int) (x : Mp) : Bool := x.p == p
def goodM (l : List Mp) : Prop := (l.map fun x => (x.a, x.q)).Nodup ∧ (l.map fun x => x.p).Nodup ∧ ∀ x ∈ l, okM x = true
instance goodMDec (l : List Mp) : Decidable (goodM l) := by unfold goodM; exact inferInstance
def vM (l : List Mp) : Bool := decide (l.length ≤ 8 ∧ goodM l)
theorem vM_iff (l : List Mp) : vM l = true ↔ l.length ≤ 8 ∧ goodM l := by unfold vM; exact decide_eq_true_iff
theorem mt_at {l : List Mp} {i : Nat} (h : i < l.length) : ∃ a q p t, l[i]? = some ⟨a, q, p, t⟩ := ⟨_, _, _, _, List.getElem?_eq_getElem h⟩
theorem goodM_nil : goodM [] := by unfold goodM; simp
theorem goodM_step {l : List Mp} {k : Nat} {x : Mp} (h : l[k]? = some x) (hg : goodM (l.take k)) (ho : okM x = true) (hE : ∀ y ∈ l.take k, sameE x.a x.q y = false) (hP : ∀ y ∈ l.take k, sameP x.p y = false) : goodM (l.take (k + 1)) := by
  rw [take_succ h]
  obtain ⟨h1, h2, h3⟩ := hg
  refine ⟨?_, ?_, ?_⟩
  · rw [List.map_append, List.nodup_append]
    refine ⟨h1, by simp, ?_⟩
    intro a ha b hb
    obtain ⟨y, hy, rfl⟩ := List.mem_map.1 ha
    simp at hb
    subst hb
    have := hE y hy
    intro e
    simp only [Prod.mk.injEq] at e
    simp [sameE, e.1, e.2] at this
  · rw [List.map_append, List.nodup_append]
    refine ⟨h2, by simp, ?_⟩
    intro a ha b hb
    obtain ⟨y, hy, rfl⟩ := List.mem_map.1 ha
    simp at hb
    subst hb
    have := hP y hy
    intro e
    simp [sameP, e] at this
  · intro y hy
    rcases List.mem_append.1 hy with hy | hy
    · exact h3 y hy
    · simp at hy; subst hy; exact ho
theorem vM_bad {l : List Mp} {k : Nat} {x : Mp} (h : l[k]? = some x) (ho : okM x = false) : vM l = false := by
  unfold vM
  rw [decide_eq_false_iff_not]
  rintro ⟨_, _, _, h3⟩
  have := h3 x (List.mem_of_getElem? h)
  rw [ho] at this
  cases this
theorem nodup_ne {α : Type} {l : List α} (hn : l.Nodup) {i j : Nat} {x y : α} (hi : l[i]? = some x) (hj : l[j]? = some y) (hij : i < j) : x ≠ y := by
  have h1 := lt_of_get hi
  have h2 := lt_of_get hj
  have := List.nodup_iff_pairwise_ne.1 hn
  rw [List.pairwise_iff_getElem] at this
  have := this i j h1 h2 hij
  rw [List.getElem?_eq_getElem h1] at hi
  rw [List.getElem?_eq_getElem h2] at hj
  injection hi with hi
  injection hj with hj
  rwa [hi, hj] at this
theorem vM_dupE {l : List Mp} {k m : Nat} {x y : Mp} (h : l[k]? = some x) (hm : m < k) (h' : l[m]? = some y) (he : sameE x.a x.q y = true) : vM l = false := by
  unfold vM
  rw [decide_eq_false_iff_not]
  rintro ⟨_, h1, _, _⟩
  refine nodup_ne h1 (i := m) (j := k) (x := (y.a, y.q)) (y := (x.a, x.q)) (by rw [List.getElem?_map, h']; rfl) (by rw [List.getElem?_map, h]; rfl) hm ?_
  simp only [sameE, Bool.and_eq_true, beq_iff_eq] at he
  rw [he.1, he.2]
theorem vM_dupP {l : List Mp} {k m : Nat} {x y : Mp} (h : l[k]? = some x) (hm : m < k) (h' : l[m]? = some y) (he : sameP x.p y = true) : vM l = false := by
  unfold vM
  rw [decide_eq_false_iff_not]
  rintro ⟨_, _, h2, _⟩
  refine nodup_ne h2 (i := m) (j := k) (x := y.p) (y := x.p) (by rw [List.getElem?_map, h']; rfl) (by rw [List.getElem?_map, h]; rfl) hm ?_
  simpa [sameP] using he
theorem vM_end {l : List Mp} (hg : goodM (l.take l.length)) : vM l = decide ((l.length : Int) ≤ 8) := by
  rw [List.take_length] at hg
  unfold vM
  rw [decide_eq_decide]
  constructor
  · rintro ⟨h, _⟩; omega
  · intro h; exact ⟨by omega, hg⟩
/-- A mapping's four cells. -/
theorem Row.mt {w w' : World} {b o i B : Nat} {l : List Mp} {a q p t : Int} (h : Row encM 4 w b o l) (hb : Below B w w') (hB : b < B) (hi : l[i]? = some ⟨a, q, p, t⟩) :
    w'.cell? ⟨b, o + i * 4, none⟩ = some (.int .i64 a) ∧ w'.cell? ⟨b, o + i * 4 + 1, none⟩ = some (.int .i64 q) ∧ w'.cell? ⟨b, o + i * 4 + 2, none⟩ = some (.int .i64 p) ∧ w'.cell? ⟨b, o + i * 4 + 3, none⟩ = some (.int .i64 t) :=
  ⟨(h.below hb hB) i _ hi 0 _ rfl, (h.below hb hB) i _ hi 1 _ rfl, (h.below hb hB) i _ hi 2 _ rfl, (h.below hb hB) i _ hi 3 _ rfl⟩

/-! ### places -/
def byE (l : List Mp) (a q : Int) : Int := idx (sameE a q) l
def byP (l : List Mp) (p : Int) : Int := idx (sameP p) l
theorem idx_lt {α : Type} (p : α → Bool) (l : List α) : -1 ≤ idx p l ∧ idx p l < l.length ∨ (idx p l = -1) := by
  unfold idx
  cases h : l.findIdx? p with
  | none => exact .inr rfl
  | some i =>
    have := (List.findIdx?_eq_some_iff_getElem.1 h).1
    exact .inl ⟨show (-1 : Int) ≤ (i : Int) by omega, show (i : Int) < (l.length : Int) by omega⟩
theorem idx_neg {α : Type} {p : α → Bool} {l : List α} (h : idx p l < 0) : idx p l = -1 ∧ ∀ y ∈ l, p y = false := by
  have h1 := idx_nonneg p l
  rw [decide_eq_false (by omega)] at h1
  have h2 : ∀ y ∈ l, p y = false := fun y hy => by
    have := (List.any_eq_false.1 h1.symm) y hy
    simpa using this
  exact ⟨idx_not h2, h2⟩
theorem idx_pos {α : Type} {p : α → Bool} {l : List α} (h : 0 ≤ idx p l) : ∃ (k : Nat) (x : α), idx p l = k ∧ l[k]? = some x ∧ p x = true ∧ ∀ y ∈ l.take k, p y = false := by
  have h1 := idx_nonneg p l
  rw [decide_eq_true h] at h1
  obtain ⟨k, x, hk, hp, hn, he⟩ := idx_found h1.symm
  exact ⟨k, x, he, hk, hp, hn⟩

/-! ### free ports -/
def ports : List Int := [1000, 1001, 1002, 1003, 1004, 1005, 1006, 1007]
def used (l : List Mp) (n : Int) : Bool := l.any (sameP n)
theorem ports_get {k : Nat} (h : k < 8) : ports[k]? = some (1000 + (k : Int)) := by
  match k, h with
  | 0, _ => rfl
  | 1, _ => rfl
  | 2, _ => rfl
  | 3, _ => rfl
  | 4, _ => rfl
  | 5, _ => rfl
  | 6, _ => rfl
  | 7, _ => rfl
theorem mem_ports {n : Int} : n ∈ ports ↔ 1000 ≤ n ∧ n ≤ 1007 := by
  unfold ports
  simp only [List.mem_cons, List.not_mem_nil, or_false]
  omega
def par (want n : Int) : Bool := n % 2 == want % 2
def first (o : Option Int) : Int := o.getD (-1)
def freeP (l : List Mp) (want : Int) : Int :=
  if inR want 1000 1007 && !used l want then want
  else match ports.find? (fun n => par want n && !used l n) with
    | some n => n
    | none => first (ports.find? fun n => !used l n)
theorem find_at {α : Type} {p : α → Bool} {l : List α} {k : Nat} {x : α} (h : l[k]? = some x) (hp : p x = true) (hn : ∀ y ∈ l.take k, p y = false) : l.find? p = some x := by
  have e : l = l.take k ++ x :: l.drop (k + 1) := by
    conv => lhs; rw [← List.take_append_drop k l, drop_cons h]
  rw [e, List.find?_append, List.find?_eq_none.2 (by intro y hy; rw [hn y hy]; simp), List.find?_cons, hp]
  rfl
theorem find_none {α : Type} {p : α → Bool} {l : List α} (hn : ∀ y ∈ l, p y = false) : l.find? p = none := List.find?_eq_none.2 (by intro y hy; rw [hn y hy]; simp)
theorem byP_used (l : List Mp) (n : Int) : decide (0 ≤ byP l n) = used l n := idx_nonneg _ _
theorem byP_free (l : List Mp) (n : Int) : decide (byP l n < 0) = !used l n := by
  rw [← byP_used, ← decide_not]
  exact decide_eq_decide.2 (by omega)
theorem first_snoc {p : Int → Bool} {k : Nat} (h : k < 8) : first ((ports.take (k + 1)).find? p) = if 0 ≤ first ((ports.take k).find? p) then first ((ports.take k).find? p) else if p (1000 + (k : Int)) then 1000 + (k : Int) else -1 := by
  rw [take_succ (ports_get h), List.find?_append]
  cases h1 : (ports.take k).find? p with
  | none =>
    simp only [Option.none_or, first, Option.getD_none]
    rw [List.find?_cons]
    cases p (1000 + (k : Int)) <;> simp
  | some n =>
    have hm := mem_ports.1 (List.mem_of_mem_take (List.mem_of_find?_eq_some h1))
    simp only [Option.some_or, first, Option.getD_some]
    exact (if_pos (show 0 ≤ n by omega)).symm
end Go.Proofs.Ytlgfmnognhojnaa
