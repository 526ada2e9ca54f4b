/- MapEnd, TouchPort: the program's, walked. -/
import Derived.Test.YtnkdhpbbiilekaaMk
namespace Go.Proofs.Ytnkdhpbbiilekaa
open Go.RowKit
theorem Bl.outB {α : Type} {enc : α → List Value} {k B g m : Nat} {e : TypeId} {w : World} {L : List α} (h : Bl enc k e w g m L) (hB : B ≤ g) : Out enc k B w (some ⟨g, 0, none⟩) L.length L := ⟨h.sl, fun _ => ⟨g, 0, rfl, hB, h.lt, fun j => h.frozen j⟩⟩
theorem Ow.noneNil {α : Type} {enc : α → List Value} {k B c : Nat} {e : TypeId} {w : World} {A : Option Addr} {l : List α} (h : Ow enc k e B w A c l) : A = none → l = [] := by
  rintro rfl
  rcases h with ⟨_, _, h⟩ | ⟨g, h, _⟩
  · exact h
  · cases h
def touchR (l : List Mp) (p now : Int) : List Mp :=
  match l.findIdx? (sameP p) with
  | some k => l.set k ⟨((l[k]?).getD zeroMp).a, ((l[k]?).getD zeroMp).q, ((l[k]?).getD zeroMp).p, max ((l[k]?).getD zeroMp).l now⟩
  | none => []
def touchO (l : List Mp) (p now : Int) : Bool := vM l && (inR now 0 10000 && used l p)
def touchV (l : List Mp) (p now : Int) : List Mp := if touchO l p now then touchR l p now else []
theorem touch_found {l : List Mp} {p now : Int} {k : Nat} {x : Mp} (h : l[k]? = some x) (hp : sameP p x = true) (hn : ∀ y ∈ l.take k, sameP p y = false) : touchR l p now = l.set k ⟨x.a, x.q, x.p, max x.l now⟩ := by
  unfold touchR
  rw [findIdx_at h hp hn]
  simp only [h, Option.getD_some]
end Go.Proofs.Ytnkdhpbbiilekaa
