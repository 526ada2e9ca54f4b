/- Ports and ends of tables, free ports: the program's functions and the reference's, walked. -/
import Derived.Test.YtlgfmnognhojnaaMv
namespace Go.Proofs.Ytlgfmnognhojnaa
open Go.RowKit

def outP (l : List Mp) (a q : Int) : Int := if vM l then (match l.find? (sameE a q) with | some x => x.p | none => -1) else -1
def zeroMp : Mp := ⟨0, 0, 0, 0⟩
def insO (l : List Mp) (p : Int) : Bool := vM l && used l p
def insE (l : List Mp) (p : Int) : Mp := if insO l p then (l.find? (sameP p)).getD zeroMp else zeroMp
theorem find_idx {α : Type} {p : α → Bool} {l : List α} {k : Nat} {x : α} (h : l[k]? = some x) (hp : p x = true) (hn : ∀ y ∈ l.take k, p y = false) : l.find? p = some x := find_at h hp hn
theorem outP_bad {l : List Mp} {a q : Int} (h : vM l = false) : outP l a q = -1 := by unfold outP; rw [h]; rfl
theorem outP_none {l : List Mp} {a q : Int} (h : byE l a q < 0) : outP l a q = -1 := by
  unfold outP
  rw [find_none (idx_neg h).2]
  split <;> rfl
theorem outP_some {l : List Mp} {a q : Int} {k : Nat} {x : Mp} (hv : vM l = true) (h : l[k]? = some x) (hp : sameE a q x = true) (hn : ∀ y ∈ l.take k, sameE a q y = false) : outP l a q = x.p := by
  unfold outP
  rw [hv, find_at h hp hn]
  rfl
theorem insO_bad {l : List Mp} {p : Int} (h : vM l = false) : insO l p = false := by unfold insO; rw [h]; rfl
theorem insO_none {l : List Mp} {p : Int} (h : byP l p < 0) : insO l p = false := by
  unfold insO
  rw [show used l p = false from by rw [← byP_used]; exact decide_eq_false (by omega)]
  simp
theorem insE_no {l : List Mp} {p : Int} (h : insO l p = false) : insE l p = zeroMp := by unfold insE; rw [h]; rfl
theorem ins_some {l : List Mp} {p : Int} {k : Nat} {x : Mp} (hv : vM l = true) (h : l[k]? = some x) (hp : sameP p x = true) (hn : ∀ y ∈ l.take k, sameP p y = false) : insO l p = true ∧ insE l p = x := by
  have : insO l p = true := by
    unfold insO used
    rw [hv, List.any_eq_true.2 ⟨x, List.mem_of_getElem? h, hp⟩]
    rfl
  refine ⟨this, ?_⟩
  unfold insE
  rw [this, find_at h hp hn]
  rfl
theorem first_lo (p : Int → Bool) (k : Nat) : first ((ports.take k).find? p) = -1 ∨ 1000 ≤ first ((ports.take k).find? p) := by
  cases h : (ports.take k).find? p with
  | none => exact .inl rfl
  | some n => exact .inr (mem_ports.1 (List.mem_of_mem_take (List.mem_of_find?_eq_some h))).1
theorem first_skip {p : Int → Bool} {k : Nat} (h : k < 8) (hp : p (1000 + (k : Int)) = false) : first ((ports.take (k + 1)).find? p) = first ((ports.take k).find? p) := by
  rw [first_snoc h, hp]
  rcases first_lo p k with e | e
  · rw [e]; rfl
  · rw [if_pos (show 0 ≤ first ((ports.take k).find? p) by omega)]
theorem first_hold {p : Int → Bool} {k : Nat} (h : k < 8) (h0 : 0 ≤ first ((ports.take k).find? p)) : first ((ports.take (k + 1)).find? p) = first ((ports.take k).find? p) := by
  rw [first_snoc h, if_pos h0]
theorem first_new {p : Int → Bool} {k : Nat} (h : k < 8) (h0 : first ((ports.take k).find? p) < 0) (hp : p (1000 + (k : Int)) = true) : first ((ports.take (k + 1)).find? p) = 1000 + (k : Int) := by
  rw [first_snoc h, if_neg (by omega), hp]
  rfl
theorem freeP_want {l : List Mp} {want : Int} (h1 : inR want 1000 1007 = true) (h2 : used l want = false) : freeP l want = want := by unfold freeP; rw [h1, h2]; rfl
theorem freeP_par {l : List Mp} {want n : Int} (h : (inR want 1000 1007 && !used l want) = false) (hn : ports.find? (fun n => par want n && !used l n) = some n) : freeP l want = n := by unfold freeP; rw [h, hn]; rfl
theorem freeP_any {l : List Mp} {want : Int} (h : (inR want 1000 1007 && !used l want) = false) (hn : ports.find? (fun n => par want n && !used l n) = none) : freeP l want = first (ports.find? fun n => !used l n) := by unfold freeP; rw [h, hn]; rfl
end Go.Proofs.Ytlgfmnognhojnaa
