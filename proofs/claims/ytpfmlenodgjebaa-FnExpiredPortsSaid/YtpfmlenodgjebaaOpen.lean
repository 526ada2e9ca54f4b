/- What comes in, opened: slices of structs of integers, structs of integers. -/
import Derived.Test.YtpfmlenodgjebaaRows
import Derived.Test.YtpfmlenodgjebaaRe
import Derived.ChangeSlices
import Derived.ProofKit
import Derived.OpenShut
import Derived.ShutString
import Derived.ChangeOld
import Derived.Deep.Slices
import Derived.Deep.Strs
import Derived.Lib.SmallJoins
namespace Go.Proofs.Ytpfmlenodgjebaa
open Go.ChangeShapes Go.WideShapes Go.ChangeAt Go.RowKit

theorem own : ownKnob Try.prog.godebug = none := by kernel_rfl
theorem laidOut : laidOutB Try.prog = true := by kernel_rfl
theorem cellsInt : Try.prog.cellsOf 3 = 1 := by kernel_rfl
section
variable {H : Type} {enc : TypeId × Value → H} {w : World} {base : Nat} {spare : Nat → Bool} {held : Bool} {fuel : Nat} {cs : List Value} {x : DataW H × List MemPlace}
theorem cellsLEnd : Try.prog.cellsOf 42 = 2 := by kernel_rfl
theorem tr_end (h : DataW.trod enc Try.prog w base spare held fuel 42 cs = some x) : ∃ a q, cs = [.int .i64 a, .int .i64 q] := by
  obtain ⟨y0, y1, n, _, hl, h0, h1⟩ := trod_struct2 Try.underlying42 h
  rw [cellsLEnd] at hl
  match cs, hl with
  | [c0, c1], _ =>
    simp only [cellsInt] at h0 h1
    obtain ⟨a, e0, _⟩ := DataW.trod_int Try.underlying3 h0
    obtain ⟨q, e1, _⟩ := DataW.trod_int Try.underlying3 h1
    simp at e0 e1
    exact ⟨a, q, by rw [e0, e1]⟩
theorem cellsLMt : Try.prog.cellsOf 72 = 4 := by kernel_rfl
theorem tr_mt (h : DataW.trod enc Try.prog w base spare held fuel 72 cs = some x) : ∃ a q p t, cs = [.int .i64 a, .int .i64 q, .int .i64 p, .int .i64 t] := by
  obtain ⟨y0, y1, y2, n, _, hl, h0, h1, h2⟩ := Go.Deep.trod_struct3 Try.underlying72 h
  rw [cellsLMt] at hl
  match cs, hl with
  | [c0, c1, c2, c3], _ =>
    simp only [cellsInt, cellsLEnd] at h0 h1 h2
    obtain ⟨a, q, e0⟩ := tr_end h0
    obtain ⟨p, e1, _⟩ := DataW.trod_int Try.underlying3 h1
    obtain ⟨t, e2, _⟩ := DataW.trod_int Try.underlying3 h2
    simp at e0 e1 e2
    exact ⟨a, q, p, t, by rw [e0.1, e0.2, e1, e2]⟩
theorem slice_mps {A : Option Addr} {n c : Nat} (h : DataW.trod enc Try.prog w base spare held fuel 41 [.slice A n c] = some x) : c ≤ maxLen ∧ ∃ l : List Mp, l.length = n ∧ Sl encM 4 w A c l := by
  rcases Go.Deep.open_slice Try.underlying41 h with ⟨hcs, _⟩ | ⟨a, len, cap, m, k, D, Pl, hcs, _, hl, hm, hmm, _, hx⟩
  · simp at hcs
    obtain ⟨rfl, rfl, rfl⟩ := hcs
    exact ⟨Nat.zero_le _, [], rfl, Sl.nil⟩
  · simp at hcs
    obtain ⟨rfl, rfl, rfl⟩ := hcs
    have hnm : n ≤ m := by rw [hmm]; split <;> omega
    have each : ∀ i, i < n → ∃ y : Mp, w.cell? (a.add (i * 4)) = some (.int .i64 y.a) ∧ w.cell? (a.add (i * 4 + 1)) = some (.int .i64 y.q) ∧ w.cell? (a.add (i * 4 + 2)) = some (.int .i64 y.p) ∧ w.cell? (a.add (i * 4 + 3)) = some (.int .i64 y.l) := by
      intro i hi
      obtain ⟨cs', h1, h2⟩ := hx i (by omega)
      rw [cellsLMt] at h1
      obtain ⟨_, hlen, hcell⟩ := World.cells?_some h1
      obtain ⟨a', q, p, t, rfl⟩ := tr_mt h2
      have e0 := hcell 0 (by omega)
      have e1 := hcell 1 (by omega)
      have e2 := hcell 2 (by omega)
      have e3 := hcell 3 (by omega)
      rw [Go.Deep.add_add] at e0 e1 e2 e3
      exact ⟨⟨a', q, p, t⟩, by simpa using e0, by simpa using e1, by simpa using e2, by simpa using e3⟩
    have : Inhabited Mp := ⟨⟨0, 0, 0, 0⟩⟩
    obtain ⟨f, hf⟩ := Go.Deep.choose_lt each
    refine ⟨hm, (List.range n).map f, by simp, by simpa using hl, fun hne => ?_⟩
    have hn0 : 0 < n := by
      rcases Nat.eq_zero_or_pos n with h0 | h0
      · subst h0; exact absurd rfl hne
      · exact h0
    obtain ⟨b, o, s⟩ := a
    have c0 := (hf 0 hn0).1
    simp only [Nat.zero_mul, Addr.add, if_true] at c0
    have hs := World.cell?_spot c0
    simp only [] at hs
    subst hs
    refine ⟨b, o, rfl, by have := World.block_lt_of_cell? _ _ c0; simpa using this, ?_⟩
    intro i y hi j u hu
    have hin : i < n := by have := lt_of_get hi; simpa using this
    have hy : f i = y := by simpa [hin] using hi
    subst hy
    obtain ⟨d0, d1, d2, d3⟩ := hf i hin
    rw [Addr.add_lit] at d0 d1 d2 d3
    match j, hu with
    | 0, hu => simp [encM] at hu; subst hu; simpa using d0
    | 1, hu => simp [encM] at hu; subst hu; simpa [Nat.add_assoc] using d1
    | 2, hu => simp [encM] at hu; subst hu; simpa [Nat.add_assoc] using d2
    | 3, hu => simp [encM] at hu; subst hu; simpa [Nat.add_assoc] using d3
theorem slice_bytes {A : Option Addr} {n c : Nat} (h : DataW.trod enc Try.prog w base spare held fuel 22 [.slice A n c] = some x) : c ≤ maxLen ∧ ∃ l : List Int, l.length = n ∧ CodeIn w A c l := by
  rcases open_ints Try.underlying22 Try.underlying5 (by kernel_rfl) h with ⟨hcs, _⟩ | ⟨a, len, cap, zs, hcs, _, hl, hm, hz, _, hx, hw⟩
  · simp at hcs
    obtain ⟨rfl, rfl, rfl⟩ := hcs
    exact ⟨Nat.zero_le _, [], rfl, Nat.zero_le _, Sl.nil, by simp⟩
  · simp at hcs
    obtain ⟨rfl, rfl, rfl⟩ := hcs
    have hnz : n ≤ zs.length := by rw [hz]; split <;> omega
    have hlen : (zs.take n).length = n := by rw [List.length_take]; omega
    have each : ∀ i y, (zs.take n)[i]? = some y → w.cell? (a.add i) = some (.int .u8 y) := by
      intro i y hy
      rw [List.getElem?_take] at hy
      split at hy
      · have hi := lt_of_get hy
        have := hx i hi
        rw [List.getD_eq_getElem?_getD, hy] at this
        exact this
      · cases hy
    obtain ⟨b, o, s⟩ := a
    have hspot : n ≠ 0 → s = none ∧ b < w.heap.size := by
      intro hn
      have c0 := each 0 _ (List.getElem?_eq_getElem (by omega))
      simp only [Addr.add, if_true] at c0
      have hs := World.cell?_spot c0
      simp only [] at hs
      subst hs
      exact ⟨rfl, by have := World.block_lt_of_cell? _ _ c0; simpa using this⟩
    refine ⟨hm, zs.take n, hlen, hm, ⟨by omega, fun hne => ?_⟩, ?_⟩
    · obtain ⟨rfl, hlt⟩ := hspot (by rintro rfl; simp at hne)
      refine ⟨b, o, rfl, hlt, ?_⟩
      intro i y hi j u hu
      match j, hu with
      | 0, hu =>
        simp [encB] at hu
        subst hu
        have := each i y hi
        rw [Addr.add_lit] at this
        simpa using this
    · intro z hz
      have := hw z (List.mem_of_mem_take hz)
      simp [Lit.wf, IntKind.min, IntKind.max, IntKind.signed, IntKind.bits] at this
      omega
end
end Go.Proofs.Ytpfmlenodgjebaa
