/- What comes in, opened: slices of structs of integers, structs of integers. -/
import Derived.Test.YtnkdhpbbiilekaaRows
import Derived.Test.YtnkdhpbbiilekaaRe
import Derived.ChangeSlices
import Derived.ProofKit
import Derived.OpenShut
import Derived.ShutString
import Derived.ChangeOld
import Derived.Deep.Slices
import Derived.Deep.Strs
import Derived.Lib.SmallJoins
namespace Go.Proofs.Ytnkdhpbbiilekaa
open Go.ChangeShapes Go.WideShapes Go.ChangeAt Go.RowKit

theorem own : ownKnob Try.prog.godebug = none := by kernel_rfl
theorem laidOut : laidOutB Try.prog = true := by kernel_rfl
theorem cellsInt : Try.prog.cellsOf 3 = 1 := by kernel_rfl
section
variable {H : Type} {enc : TypeId × Value → H} {w : World} {base : Nat} {spare : Nat → Bool} {held : Bool} {fuel : Nat} {cs : List Value} {x : DataW H × List MemPlace}
theorem cellsLEnd : Try.prog.cellsOf 35 = 2 := by kernel_rfl
theorem tr_end (h : DataW.trod enc Try.prog w base spare held fuel 35 cs = some x) : ∃ a q, cs = [.int .i64 a, .int .i64 q] := by
  obtain ⟨y0, y1, n, _, hl, h0, h1⟩ := trod_struct2 Try.underlying35 h
  rw [cellsLEnd] at hl
  match cs, hl with
  | [c0, c1], _ =>
    simp only [cellsInt] at h0 h1
    obtain ⟨a, e0, _⟩ := DataW.trod_int Try.underlying3 h0
    obtain ⟨q, e1, _⟩ := DataW.trod_int Try.underlying3 h1
    simp at e0 e1
    exact ⟨a, q, by rw [e0, e1]⟩
theorem slice_bytes {A : Option Addr} {n c : Nat} (h : DataW.trod enc Try.prog w base spare held fuel 22 [.slice A n c] = some x) : c ≤ maxLen ∧ ∃ l : List Int, l.length = n ∧ CodeIn w A c l := by
  rcases open_ints Try.underlying22 Try.underlying5 (by kernel_rfl) h with ⟨hcs, _⟩ | ⟨a, len, cap, zs, hcs, _, hl, hm, hz, _, hx, hw⟩
  · simp at hcs
    obtain ⟨rfl, rfl, rfl⟩ := hcs
    exact ⟨Nat.zero_le _, [], rfl, Nat.zero_le _, Sl.nil, by simp⟩
  · simp at hcs
    obtain ⟨rfl, rfl, rfl⟩ := hcs
    have hnz : n ≤ zs.length := by rw [hz]; split <;> omega
    have hlen : (zs.take n).length = n := by rw [List.length_take]; omega
    have each : ∀ i y, (zs.take n)[i]? = some y → w.cell? (a.add i) = some (.int .u8 y) := by
      intro i y hy
      rw [List.getElem?_take] at hy
      split at hy
      · have hi := lt_of_get hy
        have := hx i hi
        rw [List.getD_eq_getElem?_getD, hy] at this
        exact this
      · cases hy
    obtain ⟨b, o, s⟩ := a
    have hspot : n ≠ 0 → s = none ∧ b < w.heap.size := by
      intro hn
      have c0 := each 0 _ (List.getElem?_eq_getElem (by omega))
      simp only [Addr.add, if_true] at c0
      have hs := World.cell?_spot c0
      simp only [] at hs
      subst hs
      exact ⟨rfl, by have := World.block_lt_of_cell? _ _ c0; simpa using this⟩
    refine ⟨hm, zs.take n, hlen, hm, ⟨by omega, fun hne => ?_⟩, ?_⟩
    · obtain ⟨rfl, hlt⟩ := hspot (by rintro rfl; simp at hne)
      refine ⟨b, o, rfl, hlt, ?_⟩
      intro i y hi j u hu
      match j, hu with
      | 0, hu =>
        simp [encB] at hu
        subst hu
        have := each i y hi
        rw [Addr.add_lit] at this
        simpa using this
    · intro z hz
      have := hw z (List.mem_of_mem_take hz)
      simp [Lit.wf, IntKind.min, IntKind.max, IntKind.signed, IntKind.bits] at this
      omega
end
end Go.Proofs.Ytnkdhpbbiilekaa
