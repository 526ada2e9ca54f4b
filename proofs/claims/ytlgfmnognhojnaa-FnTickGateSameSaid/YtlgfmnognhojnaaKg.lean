/- The generators of packets, walked. -/
import Derived.Test.YtlgfmnognhojnaaKf
import Derived.Test.YtlgfmnognhojnaaMg
namespace Go.Proofs.Ytlgfmnognhojnaa
open Go.RowKit
theorem encI_eq : encI1 = encI := rfl
/-- A result laid in six cells. -/
theorem six_stores {w : World} {g : Nat} {k fa fp ta tp : Int} {s : Value} {k0 fa0 fp0 ta0 tp0 : Int} {s0 : Value} (h : PkAt w g k0 fa0 fp0 ta0 tp0 s0) :
    PkAt ((((((w.setCell ⟨g, 0, none⟩ (.int .i64 k)).setCell ⟨g, 1, none⟩ (.int .i64 fa)).setCell ⟨g, 2, none⟩ (.int .i64 fp)).setCell ⟨g, 3, none⟩ (.int .i64 ta)).setCell ⟨g, 4, none⟩ (.int .i64 tp)).setCell ⟨g, 5, none⟩ s) g k fa fp ta tp s :=
  (((((h.set 0 (.int .i64 k) rfl).set 1 (.int .i64 fa) rfl).set 2 (.int .i64 fp) rfl).set 3 (.int .i64 ta) rfl).set 4 (.int .i64 tp) rfl).set 5 s rfl
theorem grown_six {w0 w : World} {b : Nat} {row : Option Nat} (h : w0.grownBy w row) (hb : w0.heap.size ≤ b) (u0 u1 u2 u3 u4 u5 : Value) :
    w0.grownBy ((((((w.setCell ⟨b, 0, none⟩ u0).setCell ⟨b, 1, none⟩ u1).setCell ⟨b, 2, none⟩ u2).setCell ⟨b, 3, none⟩ u3).setCell ⟨b, 4, none⟩ u4).setCell ⟨b, 5, none⟩ u5) row :=
  grown_setCell (grown_setCell (grown_setCell (grown_setCell (grown_setCell (grown_setCell h (.inr hb) _) (.inr hb) _) (.inr hb) _) (.inr hb) _) (.inr hb) _) (.inr hb) _
theorem below_six {w0 w : World} {B b : Nat} (h : Below B w0 w) (hb : B ≤ b) (u0 u1 u2 u3 u4 u5 : Value) :
    Below B w0 ((((((w.setCell ⟨b, 0, none⟩ u0).setCell ⟨b, 1, none⟩ u1).setCell ⟨b, 2, none⟩ u2).setCell ⟨b, 3, none⟩ u3).setCell ⟨b, 4, none⟩ u4).setCell ⟨b, 5, none⟩ u5) :=
  (((((h.setCell hb _).setCell hb _).setCell hb _).setCell hb _).setCell hb _).setCell hb _
theorem Rd.six {w : World} {g N b : Nat} (h : Rd w g N) (hb : g < b) (u0 u1 u2 u3 u4 u5 : Value) :
    Rd ((((((w.setCell ⟨b, 0, none⟩ u0).setCell ⟨b, 1, none⟩ u1).setCell ⟨b, 2, none⟩ u2).setCell ⟨b, 3, none⟩ u3).setCell ⟨b, 4, none⟩ u4).setCell ⟨b, 5, none⟩ u5) g N :=
  (((((h.setCell hb _).setCell hb _).setCell hb _).setCell hb _).setCell hb _).setCell hb _
theorem ow_six {α : Type} {enc : α → List Value} {k : Nat} {e : TypeId} {B c b : Nat} {w : World} {A : Option Addr} {l : List α} (h : Ow enc k e B w A c l) (hb : blk A ≠ some b) (u0 u1 u2 u3 u4 u5 : Value) :
    Ow enc k e B ((((((w.setCell ⟨b, 0, none⟩ u0).setCell ⟨b, 1, none⟩ u1).setCell ⟨b, 2, none⟩ u2).setCell ⟨b, 3, none⟩ u3).setCell ⟨b, 4, none⟩ u4).setCell ⟨b, 5, none⟩ u5) A c l := by
  refine h.of_heap fun g hg => ?_
  have hne : b ≠ g := by rintro rfl; exact hb hg
  rw [Below.heap_setCell _ _ _ _ hne.symm, Below.heap_setCell _ _ _ _ hne.symm, Below.heap_setCell _ _ _ _ hne.symm, Below.heap_setCell _ _ _ _ hne.symm, Below.heap_setCell _ _ _ _ hne.symm, Below.heap_setCell _ _ _ _ hne.symm]
theorem ow_one {α : Type} {enc : α → List Value} {k : Nat} {e : TypeId} {B c b : Nat} {w : World} {A : Option Addr} {l : List α} (h : Ow enc k e B w A c l) (hb : blk A ≠ some b) (j : Nat) (u : Value) :
    Ow enc k e B (w.setCell ⟨b, j, none⟩ u) A c l := by
  refine h.of_heap fun g hg => ?_
  have hne : b ≠ g := by rintro rfl; exact hb hg
  rw [Below.heap_setCell _ _ _ _ hne.symm]
end Go.Proofs.Ytlgfmnognhojnaa
