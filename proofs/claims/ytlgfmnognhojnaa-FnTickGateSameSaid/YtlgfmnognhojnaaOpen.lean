/- What comes in, opened: slices of structs of integers, structs of integers. -/
import Derived.Test.YtlgfmnognhojnaaRows
import Derived.Test.YtlgfmnognhojnaaRe
import Derived.ChangeSlices
import Derived.ProofKit
import Derived.OpenShut
import Derived.ShutString
import Derived.ChangeOld
import Derived.Deep.Slices
import Derived.Deep.Strs
import Derived.Lib.SmallJoins
namespace Go.Proofs.Ytlgfmnognhojnaa
open Go.ChangeShapes Go.WideShapes Go.ChangeAt Go.RowKit

theorem own : ownKnob Try.prog.godebug = none := by kernel_rfl
theorem laidOut : laidOutB Try.prog = true := by kernel_rfl
theorem cellsInt : Try.prog.cellsOf 3 = 1 := by kernel_rfl
section
variable {H : Type} {enc : TypeId × Value → H} {w : World} {base : Nat} {spare : Nat → Bool} {held : Bool} {fuel : Nat} {cs : List Value} {x : DataW H × List MemPlace}
theorem cellsLEnd : Try.prog.cellsOf 99 = 2 := by kernel_rfl
set_option maxRecDepth 20000 in
theorem tr_end (h : DataW.trod enc Try.prog w base spare held fuel 99 cs = some x) : ∃ a q, cs = [.int .i64 a, .int .i64 q] := by
  obtain ⟨y0, y1, n, _, hl, h0, h1⟩ := trod_struct2 Try.underlying99 h
  rw [cellsLEnd] at hl
  match cs, hl with
  | [c0, c1], _ =>
    simp only [cellsInt] at h0 h1
    obtain ⟨a, e0, _⟩ := DataW.trod_int Try.underlying3 h0
    obtain ⟨q, e1, _⟩ := DataW.trod_int Try.underlying3 h1
    simp at e0 e1
    exact ⟨a, q, by rw [e0, e1]⟩
theorem cellsLCt : Try.prog.cellsOf 104 = 3 := by kernel_rfl
set_option maxRecDepth 20000 in
theorem tr_ct (h : DataW.trod enc Try.prog w base spare held fuel 104 cs = some x) : ∃ p a q, cs = [.int .i64 p, .int .i64 a, .int .i64 q] := by
  obtain ⟨y0, y1, n, _, hl, h0, h1⟩ := trod_struct2 Try.underlying104 h
  rw [cellsLCt] at hl
  match cs, hl with
  | [c0, c1, c2], _ =>
    simp only [cellsInt, cellsLEnd] at h0 h1
    obtain ⟨p, e0, _⟩ := DataW.trod_int Try.underlying3 h0
    obtain ⟨a, q, e1⟩ := tr_end h1
    simp at e0 e1
    exact ⟨p, a, q, by rw [e0, e1.1, e1.2]⟩
theorem slice_cts {A : Option Addr} {n c : Nat} (h : DataW.trod enc Try.prog w base spare held fuel 40 [.slice A n c] = some x) : c ≤ maxLen ∧ ∃ l : List Ct, l.length = n ∧ Sl encC 3 w A c l := by
  rcases Go.Deep.open_slice Try.underlying40 h with ⟨hcs, _⟩ | ⟨a, len, cap, m, k, D, Pl, hcs, _, hl, hm, hmm, _, hx⟩
  · simp at hcs
    obtain ⟨rfl, rfl, rfl⟩ := hcs
    exact ⟨Nat.zero_le _, [], rfl, Sl.nil⟩
  · simp at hcs
    obtain ⟨rfl, rfl, rfl⟩ := hcs
    have hnm : n ≤ m := by rw [hmm]; split <;> omega
    have each : ∀ i, i < n → ∃ y : Ct, w.cell? (a.add (i * 3)) = some (.int .i64 y.p) ∧ w.cell? (a.add (i * 3 + 1)) = some (.int .i64 y.a) ∧ w.cell? (a.add (i * 3 + 2)) = some (.int .i64 y.q) := by
      intro i hi
      obtain ⟨cs', h1, h2⟩ := hx i (by omega)
      rw [cellsLCt] at h1
      obtain ⟨_, hlen, hcell⟩ := World.cells?_some h1
      obtain ⟨p, a', q, rfl⟩ := tr_ct h2
      have e0 := hcell 0 (by omega)
      have e1 := hcell 1 (by omega)
      have e2 := hcell 2 (by omega)
      rw [Go.Deep.add_add] at e0 e1 e2
      exact ⟨⟨p, a', q⟩, by simpa using e0, by simpa using e1, by simpa using e2⟩
    have : Inhabited Ct := ⟨⟨0, 0, 0⟩⟩
    obtain ⟨f, hf⟩ := Go.Deep.choose_lt each
    refine ⟨hm, (List.range n).map f, by simp, by simpa using hl, fun hne => ?_⟩
    have hn0 : 0 < n := by
      rcases Nat.eq_zero_or_pos n with h0 | h0
      · subst h0; exact absurd rfl hne
      · exact h0
    obtain ⟨b, o, s⟩ := a
    have c0 := (hf 0 hn0).1
    simp only [Nat.zero_mul, Addr.add, if_true] at c0
    have hs := World.cell?_spot c0
    simp only [] at hs
    subst hs
    refine ⟨b, o, rfl, by have := World.block_lt_of_cell? _ _ c0; simpa using this, ?_⟩
    intro i y hi j u hu
    have hin : i < n := by have := lt_of_get hi; simpa using this
    have hy : f i = y := by simpa [hin] using hi
    subst hy
    obtain ⟨d0, d1, d2⟩ := hf i hin
    rw [Addr.add_lit] at d0 d1 d2
    match j, hu with
    | 0, hu => simp [encC] at hu; subst hu; simpa using d0
    | 1, hu => simp [encC] at hu; subst hu; simpa [Nat.add_assoc] using d1
    | 2, hu => simp [encC] at hu; subst hu; simpa [Nat.add_assoc] using d2
theorem cellsLMt : Try.prog.cellsOf 101 = 4 := by kernel_rfl
set_option maxRecDepth 20000 in
theorem tr_mt (h : DataW.trod enc Try.prog w base spare held fuel 101 cs = some x) : ∃ a q p t, cs = [.int .i64 a, .int .i64 q, .int .i64 p, .int .i64 t] := by
  obtain ⟨y0, y1, y2, n, _, hl, h0, h1, h2⟩ := Go.Deep.trod_struct3 Try.underlying101 h
  rw [cellsLMt] at hl
  match cs, hl with
  | [c0, c1, c2, c3], _ =>
    simp only [cellsInt, cellsLEnd] at h0 h1 h2
    obtain ⟨a, q, e0⟩ := tr_end h0
    obtain ⟨p, e1, _⟩ := DataW.trod_int Try.underlying3 h1
    obtain ⟨t, e2, _⟩ := DataW.trod_int Try.underlying3 h2
    simp at e0 e1 e2
    exact ⟨a, q, p, t, by rw [e0.1, e0.2, e1, e2]⟩
theorem slice_mps {A : Option Addr} {n c : Nat} (h : DataW.trod enc Try.prog w base spare held fuel 39 [.slice A n c] = some x) : c ≤ maxLen ∧ ∃ l : List Mp, l.length = n ∧ Sl encM 4 w A c l := by
  rcases Go.Deep.open_slice Try.underlying39 h with ⟨hcs, _⟩ | ⟨a, len, cap, m, k, D, Pl, hcs, _, hl, hm, hmm, _, hx⟩
  · simp at hcs
    obtain ⟨rfl, rfl, rfl⟩ := hcs
    exact ⟨Nat.zero_le _, [], rfl, Sl.nil⟩
  · simp at hcs
    obtain ⟨rfl, rfl, rfl⟩ := hcs
    have hnm : n ≤ m := by rw [hmm]; split <;> omega
    have each : ∀ i, i < n → ∃ y : Mp, w.cell? (a.add (i * 4)) = some (.int .i64 y.a) ∧ w.cell? (a.add (i * 4 + 1)) = some (.int .i64 y.q) ∧ w.cell? (a.add (i * 4 + 2)) = some (.int .i64 y.p) ∧ w.cell? (a.add (i * 4 + 3)) = some (.int .i64 y.l) := by
      intro i hi
      obtain ⟨cs', h1, h2⟩ := hx i (by omega)
      rw [cellsLMt] at h1
      obtain ⟨_, hlen, hcell⟩ := World.cells?_some h1
      obtain ⟨a', q, p, t, rfl⟩ := tr_mt h2
      have e0 := hcell 0 (by omega)
      have e1 := hcell 1 (by omega)
      have e2 := hcell 2 (by omega)
      have e3 := hcell 3 (by omega)
      rw [Go.Deep.add_add] at e0 e1 e2 e3
      exact ⟨⟨a', q, p, t⟩, by simpa using e0, by simpa using e1, by simpa using e2, by simpa using e3⟩
    have : Inhabited Mp := ⟨⟨0, 0, 0, 0⟩⟩
    obtain ⟨f, hf⟩ := Go.Deep.choose_lt each
    refine ⟨hm, (List.range n).map f, by simp, by simpa using hl, fun hne => ?_⟩
    have hn0 : 0 < n := by
      rcases Nat.eq_zero_or_pos n with h0 | h0
      · subst h0; exact absurd rfl hne
      · exact h0
    obtain ⟨b, o, s⟩ := a
    have c0 := (hf 0 hn0).1
    simp only [Nat.zero_mul, Addr.add, if_true] at c0
    have hs := World.cell?_spot c0
    simp only [] at hs
    subst hs
    refine ⟨b, o, rfl, by have := World.block_lt_of_cell? _ _ c0; simpa using this, ?_⟩
    intro i y hi j u hu
    have hin : i < n := by have := lt_of_get hi; simpa using this
    have hy : f i = y := by simpa [hin] using hi
    subst hy
    obtain ⟨d0, d1, d2, d3⟩ := hf i hin
    rw [Addr.add_lit] at d0 d1 d2 d3
    match j, hu with
    | 0, hu => simp [encM] at hu; subst hu; simpa using d0
    | 1, hu => simp [encM] at hu; subst hu; simpa [Nat.add_assoc] using d1
    | 2, hu => simp [encM] at hu; subst hu; simpa [Nat.add_assoc] using d2
    | 3, hu => simp [encM] at hu; subst hu; simpa [Nat.add_assoc] using d3
theorem trod_struct7 {P : Program} {t : TypeId} {f0 f1 f2 f3 f4 f5 f6 : Field} (ht : P.underlying t = some (.struct #[f0, f1, f2, f3, f4, f5, f6])) (h : DataW.trod enc P w base spare held fuel t cs = some x) :
    ∃ y0 y1 y2 y3 y4 y5 y6 n, cs.length = P.cellsOf t ∧ DataW.trod enc P w base spare held n f0.type ((cs.drop f0.offset).take (P.cellsOf f0.type)) = some y0 ∧
      DataW.trod enc P w base spare held n f1.type ((cs.drop f1.offset).take (P.cellsOf f1.type)) = some y1 ∧ DataW.trod enc P w base spare held n f2.type ((cs.drop f2.offset).take (P.cellsOf f2.type)) = some y2 ∧
      DataW.trod enc P w base spare held n f3.type ((cs.drop f3.offset).take (P.cellsOf f3.type)) = some y3 ∧ DataW.trod enc P w base spare held n f4.type ((cs.drop f4.offset).take (P.cellsOf f4.type)) = some y4 ∧
      DataW.trod enc P w base spare held n f5.type ((cs.drop f5.offset).take (P.cellsOf f5.type)) = some y5 ∧ DataW.trod enc P w base spare held n f6.type ((cs.drop f6.offset).take (P.cellsOf f6.type)) = some y6 := by
  obtain ⟨xs, n, _, rfl, hl, hlen, hf⟩ := DataW.trod_struct ht h
  match xs, hlen with
  | [y0, y1, y2, y3, y4, y5, y6], _ => exact ⟨y0, y1, y2, y3, y4, y5, y6, n, hl, by simpa using hf 0 f0 rfl, by simpa using hf 1 f1 rfl, by simpa using hf 2 f2 rfl, by simpa using hf 3 f3 rfl, by simpa using hf 4 f4 rfl, by simpa using hf 5 f5 rfl, by simpa using hf 6 f6 rfl⟩
theorem cts_open (h : DataW.trod enc Try.prog w base spare held fuel 40 cs = some x) : ∃ (A : Option Addr) (n c : Nat), cs = [.slice A n c] ∧ c ≤ maxLen ∧ ∃ l : List Ct, l.length = n ∧ Sl encC 3 w A c l := by
  have h' := h
  rcases Go.Deep.open_slice Try.underlying40 h with ⟨hcs, _⟩ | ⟨a, len, cap, m, k, D, Pl, hcs, _⟩
  · rw [hcs] at h'; exact ⟨none, 0, 0, hcs, slice_cts h'⟩
  · rw [hcs] at h'; exact ⟨some a, len, cap, hcs, slice_cts h'⟩
theorem mps_open (h : DataW.trod enc Try.prog w base spare held fuel 39 cs = some x) : ∃ (A : Option Addr) (n c : Nat), cs = [.slice A n c] ∧ c ≤ maxLen ∧ ∃ l : List Mp, l.length = n ∧ Sl encM 4 w A c l := by
  have h' := h
  rcases Go.Deep.open_slice Try.underlying39 h with ⟨hcs, _⟩ | ⟨a, len, cap, m, k, D, Pl, hcs, _⟩
  · rw [hcs] at h'; exact ⟨none, 0, 0, hcs, slice_mps h'⟩
  · rw [hcs] at h'; exact ⟨some a, len, cap, hcs, slice_mps h'⟩
theorem cellsLNet : Try.prog.cellsOf 38 = 2 := by kernel_rfl
theorem cellsLCts : Try.prog.cellsOf 40 = 1 := by kernel_rfl
theorem cellsLMps : Try.prog.cellsOf 39 = 1 := by kernel_rfl
theorem cellsLGt : Try.prog.cellsOf 42 = 8 := by kernel_rfl
set_option maxRecDepth 20000 in
theorem tr_net (h : DataW.trod enc Try.prog w base spare held fuel 38 cs = some x) : ∃ a q, cs = [.int .i64 a, .int .i64 q] := by
  obtain ⟨y0, y1, n, _, hl, h0, h1⟩ := trod_struct2 Try.underlying38 h
  rw [cellsLNet] at hl
  match cs, hl with
  | [c0, c1], _ =>
    simp only [cellsInt] at h0 h1
    obtain ⟨a, e0, _⟩ := DataW.trod_int Try.underlying3 h0
    obtain ⟨q, e1, _⟩ := DataW.trod_int Try.underlying3 h1
    simp at e0 e1
    exact ⟨a, q, by rw [e0, e1]⟩
set_option maxRecDepth 20000 in
theorem tr_gate (h : DataW.trod enc Try.prog w base spare held fuel 42 cs = some x) : ∃ (b n o : Int) (At : Option Addr) (nt ct : Nat) (Ac : Option Addr) (nc cc : Nat) (f hh t : Int), cs = [.int .i64 b, .int .i64 n, .int .i64 o, .slice At nt ct, .slice Ac nc cc, .int .i64 f, .int .i64 hh, .int .i64 t] ∧ ct ≤ maxLen ∧ cc ≤ maxLen ∧ (∃ T : List Mp, T.length = nt ∧ Sl encM 4 w At ct T) ∧ ∃ C : List Ct, C.length = nc ∧ Sl encC 3 w Ac cc C := by
  obtain ⟨y0, y1, y2, y3, y4, y5, y6, n, hl, h0, h1, h2, h3, h4, h5, h6⟩ := trod_struct7 Try.underlying42 h
  rw [cellsLGt] at hl
  match cs, hl with
  | [c0, c1, c2, c3, c4, c5, c6, c7], _ =>
    simp only [cellsInt, cellsLNet, cellsLCts, cellsLMps] at h0 h1 h2 h3 h4 h5 h6
    obtain ⟨b, n, e0⟩ := tr_net h0
    obtain ⟨o, e1, _⟩ := DataW.trod_int Try.underlying3 h1
    obtain ⟨At, nt, ct, e2, hm2, T, hT, sT⟩ := mps_open h2
    obtain ⟨Ac, nc, cc, e3, hm3, C, hC, sC⟩ := cts_open h3
    obtain ⟨f, e4, _⟩ := DataW.trod_int Try.underlying3 h4
    obtain ⟨hh, e5, _⟩ := DataW.trod_int Try.underlying3 h5
    obtain ⟨t, e6, _⟩ := DataW.trod_int Try.underlying3 h6
    simp at e0 e1 e2 e3 e4 e5 e6
    exact ⟨b, n, o, At, nt, ct, Ac, nc, cc, f, hh, t, by rw [e0.1, e0.2, e1, e2, e3, e4, e5, e6], hm2, hm3, ⟨T, hT, sT⟩, C, hC, sC⟩
theorem slice_bytes {A : Option Addr} {n c : Nat} (h : DataW.trod enc Try.prog w base spare held fuel 22 [.slice A n c] = some x) : c ≤ maxLen ∧ ∃ l : List Int, l.length = n ∧ CodeIn w A c l := by
  rcases open_ints Try.underlying22 Try.underlying5 (by kernel_rfl) h with ⟨hcs, _⟩ | ⟨a, len, cap, zs, hcs, _, hl, hm, hz, _, hx, hw⟩
  · simp at hcs
    obtain ⟨rfl, rfl, rfl⟩ := hcs
    exact ⟨Nat.zero_le _, [], rfl, Nat.zero_le _, Sl.nil, by simp⟩
  · simp at hcs
    obtain ⟨rfl, rfl, rfl⟩ := hcs
    have hnz : n ≤ zs.length := by rw [hz]; split <;> omega
    have hlen : (zs.take n).length = n := by rw [List.length_take]; omega
    have each : ∀ i y, (zs.take n)[i]? = some y → w.cell? (a.add i) = some (.int .u8 y) := by
      intro i y hy
      rw [List.getElem?_take] at hy
      split at hy
      · have hi := lt_of_get hy
        have := hx i hi
        rw [List.getD_eq_getElem?_getD, hy] at this
        exact this
      · cases hy
    obtain ⟨b, o, s⟩ := a
    have hspot : n ≠ 0 → s = none ∧ b < w.heap.size := by
      intro hn
      have c0 := each 0 _ (List.getElem?_eq_getElem (by omega))
      simp only [Addr.add, if_true] at c0
      have hs := World.cell?_spot c0
      simp only [] at hs
      subst hs
      exact ⟨rfl, by have := World.block_lt_of_cell? _ _ c0; simpa using this⟩
    refine ⟨hm, zs.take n, hlen, hm, ⟨by omega, fun hne => ?_⟩, ?_⟩
    · obtain ⟨rfl, hlt⟩ := hspot (by rintro rfl; simp at hne)
      refine ⟨b, o, rfl, hlt, ?_⟩
      intro i y hi j u hu
      match j, hu with
      | 0, hu =>
        simp [encB] at hu
        subst hu
        have := each i y hi
        rw [Addr.add_lit] at this
        simpa using this
    · intro z hz
      have := hw z (List.mem_of_mem_take hz)
      simp [Lit.wf, IntKind.min, IntKind.max, IntKind.signed, IntKind.bits] at this
      omega
end
end Go.Proofs.Ytlgfmnognhojnaa
