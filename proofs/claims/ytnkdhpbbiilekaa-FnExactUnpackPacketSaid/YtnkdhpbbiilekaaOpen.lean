/- What comes in, opened: slices of structs of integers, structs of integers. -/
import Derived.Test.YtnkdhpbbiilekaaRows
import Derived.Test.YtnkdhpbbiilekaaRe
import Derived.ChangeSlices
import Derived.ProofKit
import Derived.OpenShut
import Derived.ShutString
import Derived.ChangeOld
import Derived.Deep.Slices
import Derived.Deep.Strs
import Derived.Lib.SmallJoins
namespace Go.Proofs.Ytnkdhpbbiilekaa
open Go.ChangeShapes Go.WideShapes Go.ChangeAt Go.RowKit

theorem own : ownKnob Try.prog.godebug = none := by kernel_rfl
theorem laidOut : laidOutB Try.prog = true := by kernel_rfl
theorem cellsInt : Try.prog.cellsOf 3 = 1 := by kernel_rfl
section
variable {H : Type} {enc : TypeId × Value → H} {w : World} {base : Nat} {spare : Nat → Bool} {held : Bool} {fuel : Nat} {cs : List Value} {x : DataW H × List MemPlace}
theorem cellsLEnd : Try.prog.cellsOf 35 = 2 := by kernel_rfl
set_option maxRecDepth 20000 in
theorem tr_end (h : DataW.trod enc Try.prog w base spare held fuel 35 cs = some x) : ∃ a q, cs = [.int .i64 a, .int .i64 q] := by
  obtain ⟨y0, y1, n, _, hl, h0, h1⟩ := trod_struct2 Try.underlying35 h
  rw [cellsLEnd] at hl
  match cs, hl with
  | [c0, c1], _ =>
    simp only [cellsInt] at h0 h1
    obtain ⟨a, e0, _⟩ := DataW.trod_int Try.underlying3 h0
    obtain ⟨q, e1, _⟩ := DataW.trod_int Try.underlying3 h1
    simp at e0 e1
    exact ⟨a, q, by rw [e0, e1]⟩
theorem ints_open (h : DataW.trod enc Try.prog w base spare held fuel 25 cs = some x) : ∃ (A : Option Addr) (n c : Nat), cs = [.slice A n c] ∧ c ≤ maxLen ∧ ∃ l : List Int, l.length = n ∧ Sl encI 1 w A c l := by
  rcases open_ints Try.underlying25 Try.underlying3 (by kernel_rfl) h with ⟨hcs, _⟩ | ⟨a, n, c, zs, hcs, _, hl, hm, hz, _, hx, hw⟩
  · exact ⟨none, 0, 0, hcs, Nat.zero_le _, [], rfl, Sl.nil⟩
  · have hnz : n ≤ zs.length := by rw [hz]; split <;> omega
    have hlen : (zs.take n).length = n := by rw [List.length_take]; omega
    have each : ∀ i y, (zs.take n)[i]? = some y → w.cell? (a.add i) = some (.int .i64 y) := by
      intro i y hy
      rw [List.getElem?_take] at hy
      split at hy
      · have hi := lt_of_get hy
        have := hx i hi
        rw [List.getD_eq_getElem?_getD, hy] at this
        exact this
      · cases hy
    obtain ⟨b, o, s⟩ := a
    have hspot : n ≠ 0 → s = none ∧ b < w.heap.size := by
      intro hn
      have c0 := each 0 _ (List.getElem?_eq_getElem (by omega))
      simp only [Addr.add, if_true] at c0
      have hs := World.cell?_spot c0
      simp only [] at hs
      subst hs
      exact ⟨rfl, by have := World.block_lt_of_cell? _ _ c0; simpa using this⟩
    refine ⟨some ⟨b, o, s⟩, n, c, hcs, hm, zs.take n, hlen, by omega, fun hne => ?_⟩
    obtain ⟨rfl, hlt⟩ := hspot (by rintro rfl; simp at hne)
    refine ⟨b, o, rfl, hlt, ?_⟩
    intro i y hi j u hu
    match j, hu with
    | 0, hu =>
      simp [encI] at hu
      subst hu
      have := each i y hi
      rw [Addr.add_lit] at this
      simpa using this
theorem slice_ints {A : Option Addr} {n c : Nat} (h : DataW.trod enc Try.prog w base spare held fuel 25 [.slice A n c] = some x) : c ≤ maxLen ∧ ∃ l : List Int, l.length = n ∧ Sl encI 1 w A c l := by
  obtain ⟨A', n', c', e, hm, l, hl, hs⟩ := ints_open h
  simp at e
  obtain ⟨rfl, rfl, rfl⟩ := e
  exact ⟨hm, l, hl, hs⟩
theorem cellsLPk : Try.prog.cellsOf 37 = 6 := by kernel_rfl
theorem cellsInts : Try.prog.cellsOf 25 = 1 := by kernel_rfl
set_option maxRecDepth 20000 in
theorem tr_pk (h : DataW.trod enc Try.prog w base spare held fuel 37 cs = some x) : ∃ (k fa fp ta tp : Int) (A : Option Addr) (n c : Nat), cs = [.int .i64 k, .int .i64 fa, .int .i64 fp, .int .i64 ta, .int .i64 tp, .slice A n c] ∧ c ≤ maxLen ∧ ∃ l : List Int, l.length = n ∧ Sl encI 1 w A c l := by
  obtain ⟨y0, y1, y2, y3, n, _, hl, h0, h1, h2, h3⟩ := Go.Joins.trod_struct4 Try.underlying37 h
  rw [cellsLPk] at hl
  match cs, hl with
  | [c0, c1, c2, c3, c4, c5], _ =>
    simp only [cellsInt, cellsLEnd, cellsInts] at h0 h1 h2 h3
    obtain ⟨k, e0, _⟩ := DataW.trod_int Try.underlying3 h0
    obtain ⟨fa, fp, e1⟩ := tr_end h1
    obtain ⟨ta, tp, e2⟩ := tr_end h2
    obtain ⟨A, n, c, e3, hm, l, hll, hs⟩ := ints_open h3
    simp at e0 e1 e2 e3
    exact ⟨k, fa, fp, ta, tp, A, n, c, by rw [e0, e1.1, e1.2, e2.1, e2.2, e3], hm, l, hll, hs⟩
theorem slice_bytes {A : Option Addr} {n c : Nat} (h : DataW.trod enc Try.prog w base spare held fuel 22 [.slice A n c] = some x) : c ≤ maxLen ∧ ∃ l : List Int, l.length = n ∧ CodeIn w A c l := by
  rcases open_ints Try.underlying22 Try.underlying5 (by kernel_rfl) h with ⟨hcs, _⟩ | ⟨a, len, cap, zs, hcs, _, hl, hm, hz, _, hx, hw⟩
  · simp at hcs
    obtain ⟨rfl, rfl, rfl⟩ := hcs
    exact ⟨Nat.zero_le _, [], rfl, Nat.zero_le _, Sl.nil, by simp⟩
  · simp at hcs
    obtain ⟨rfl, rfl, rfl⟩ := hcs
    have hnz : n ≤ zs.length := by rw [hz]; split <;> omega
    have hlen : (zs.take n).length = n := by rw [List.length_take]; omega
    have each : ∀ i y, (zs.take n)[i]? = some y → w.cell? (a.add i) = some (.int .u8 y) := by
      intro i y hy
      rw [List.getElem?_take] at hy
      split at hy
      · have hi := lt_of_get hy
        have := hx i hi
        rw [List.getD_eq_getElem?_getD, hy] at this
        exact this
      · cases hy
    obtain ⟨b, o, s⟩ := a
    have hspot : n ≠ 0 → s = none ∧ b < w.heap.size := by
      intro hn
      have c0 := each 0 _ (List.getElem?_eq_getElem (by omega))
      simp only [Addr.add, if_true] at c0
      have hs := World.cell?_spot c0
      simp only [] at hs
      subst hs
      exact ⟨rfl, by have := World.block_lt_of_cell? _ _ c0; simpa using this⟩
    refine ⟨hm, zs.take n, hlen, hm, ⟨by omega, fun hne => ?_⟩, ?_⟩
    · obtain ⟨rfl, hlt⟩ := hspot (by rintro rfl; simp at hne)
      refine ⟨b, o, rfl, hlt, ?_⟩
      intro i y hi j u hu
      match j, hu with
      | 0, hu =>
        simp [encB] at hu
        subst hu
        have := each i y hi
        rw [Addr.add_lit] at this
        simpa using this
    · intro z hz
      have := hw z (List.mem_of_mem_take hz)
      simp [Lit.wf, IntKind.min, IntKind.max, IntKind.signed, IntKind.bits] at this
      omega
end
end Go.Proofs.Ytnkdhpbbiilekaa
