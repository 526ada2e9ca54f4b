/- MapEnd: the reference's, walked. -/
import Derived.Test.YtnkdhpbbiilekaaMa
namespace Go.Proofs.Ytnkdhpbbiilekaa
open Go.RowKit
def mapR (l : List Mp) (a q now : Int) : List Mp × Int × Bool :=
  match l.findIdx? (sameE a q) with
  | some k => (l.set k ⟨((l[k]?).getD zeroMp).a, ((l[k]?).getD zeroMp).q, ((l[k]?).getD zeroMp).p, max ((l[k]?).getD zeroMp).l now⟩, ((l[k]?).getD zeroMp).p, true)
  | none => if freeP l q < 0 then ([], -1, false) else (l ++ [⟨a, q, freeP l q, now⟩], freeP l q, true)
def mapV (l : List Mp) (a q now : Int) : List Mp × Int × Bool := if vM l && ((isW a && isW q) && inR now 0 10000) then mapR l a q now else ([], -1, false)
theorem findIdx_at {α : Type} {p : α → Bool} {l : List α} {k : Nat} {x : α} (h : l[k]? = some x) (hp : p x = true) (hn : ∀ y ∈ l.take k, p y = false) : l.findIdx? p = some k := by
  have := idx_at h hp hn
  unfold idx at this
  cases hf : l.findIdx? p with
  | none => rw [hf] at this; simp at this
  | some i => rw [hf] at this; simp at this; rw [Int.ofNat_inj.1 this]
theorem map_found {l : List Mp} {a q now : Int} {k : Nat} {x : Mp} (h : l[k]? = some x) (hp : sameE a q x = true) (hn : ∀ y ∈ l.take k, sameE a q y = false) : mapR l a q now = (l.set k ⟨x.a, x.q, x.p, max x.l now⟩, x.p, true) := by
  unfold mapR
  rw [findIdx_at h hp hn]
  simp only [h, Option.getD_some]
theorem findIdx_no {α : Type} {p : α → Bool} {l : List α} (h : ∀ y ∈ l, p y = false) : l.findIdx? p = none := by
  rw [List.findIdx?_eq_none_iff]; exact h
theorem map_none {l : List Mp} {a q now : Int} (h : byE l a q < 0) (hf : freeP l q < 0) : mapR l a q now = ([], -1, false) := by
  unfold mapR
  rw [findIdx_no (idx_neg h).2]
  exact if_pos hf
theorem map_new {l : List Mp} {a q now : Int} (h : byE l a q < 0) (hf : 0 ≤ freeP l q) : mapR l a q now = (l ++ [⟨a, q, freeP l q, now⟩], freeP l q, true) := by
  unfold mapR
  rw [findIdx_no (idx_neg h).2]
  exact if_neg (by omega)
theorem freeP_hi (l : List Mp) (want : Int) : -1 ≤ freeP l want ∧ freeP l want ≤ 1007 := by
  unfold freeP
  split
  · next h =>
    simp only [Bool.and_eq_true] at h
    have := of_decide_eq_true h.1
    omega
  · cases h : ports.find? (fun n => par want n && !used l n) with
    | some n => have := mem_ports.1 (List.mem_of_find?_eq_some h); simp only []; omega
    | none =>
      simp only []
      cases h2 : ports.find? (fun n => !used l n) with
      | some n => have := mem_ports.1 (List.mem_of_find?_eq_some h2); simp only [first, Option.getD_some]; omega
      | none => simp [first]
end Go.Proofs.Ytnkdhpbbiilekaa
