/- The generators of gates, walked. -/
import Derived.Test.YtlgfmnognhojnaaGg
import Derived.Test.YtlgfmnognhojnaaGi
import Derived.Test.YtlgfmnognhojnaaMg
import Derived.Deep.DeepCutAuto
import Derived.IntWalk
namespace Go.Proofs.Ytlgfmnognhojnaa
open Go.RowKit
/-- Blocks of w outside of lo..hi lie in w' as they did. -/
structure Agr (w w' : World) (lo hi : Nat) : Prop where
  os : w'.os = w.os
  tape : w'.tape = w.tape
  output : w'.output = w.output
  size : w.heap.size ≤ w'.heap.size
  block : ∀ i, i < w.heap.size → ¬ (lo ≤ i ∧ i < hi) → w'.heap[i]? = w.heap[i]?
section
variable {w w' w0 : World} {lo hi : Nat}
theorem Agr.refl (w : World) (lo hi : Nat) : Agr w w lo hi := ⟨rfl, rfl, rfl, Nat.le_refl _, fun _ _ _ => rfl⟩
theorem Agr.drew (h : Agr w w' lo hi) : Agr w w'.drew lo hi := ⟨h.os, h.tape, h.output, h.size, h.block⟩
theorem Agr.alloc (h : Agr w w' lo hi) (x : Obj) : Agr w (w'.alloc x) lo hi :=
  ⟨h.os, h.tape, h.output, by rw [alloc_size]; have := h.size; omega, fun i hi hn => (Below.heap_alloc _ _ _ (Nat.lt_of_lt_of_le hi h.size)).trans (h.block i hi hn)⟩
theorem Agr.set (h : Agr w w' lo hi) {a : Addr} (ha : (lo ≤ a.block ∧ a.block < hi) ∨ w.heap.size ≤ a.block) (u : Value) : Agr w (w'.setCell a u) lo hi :=
  ⟨h.os, h.tape, h.output, by rw [setCell_size]; exact h.size, fun i hi hn => (Below.heap_setCell _ _ _ _ (by rintro rfl; rcases ha with ha | ha <;> omega)).trans (h.block i hi hn)⟩
theorem Agr.grown {row : Option Nat} (h : Agr w w' lo hi) (hg : w0.grownBy w row) (hlo : w0.heap.size ≤ lo) : w0.grownBy w' row :=
  ⟨h.os.trans hg.os, h.tape.trans hg.tape, h.output.trans hg.output, Nat.le_trans hg.size h.size, fun i hi hne => (h.block i (Nat.lt_of_lt_of_le hi hg.size) (by omega)).trans (hg.block i hi hne)⟩
theorem Agr.rd {g N : Nat} (h : Agr w w' lo hi) (hr : Rd w g N) (hg : g < lo) : Rd w' g N := hr.of h.size fun i hi => h.block i (Nat.lt_of_le_of_lt hi hr.lt) (by omega)
theorem Out.of_heap {α : Type} {enc : α → List Value} {k B c : Nat} {A : Option Addr} {l : List α} (h : Out enc k B w A c l) (hs : w.heap.size ≤ w'.heap.size) (hb : ∀ g, Go.Proofs.Ytlgfmnognhojnaa.blk A = some g → l ≠ [] → w'.heap[g]? = w.heap[g]?) : Out enc k B w' A c l := by
  rcases Nat.eq_zero_or_pos l.length with h0 | h0
  · obtain rfl := List.eq_nil_of_length_eq_zero h0
    exact ⟨Sl.nil h.1.1, Fr.nil⟩
  · obtain ⟨b, o, e, hB, hlt, hf⟩ := h.2 h0
    subst e
    obtain ⟨b', o', e', hb', hrow⟩ := h.1.base h0
    injection e' with e'
    injection e' with e1 e2
    subst e1
    subst e2
    have hbb := hb b rfl (List.ne_nil_of_length_pos h0)
    refine ⟨⟨h.1.1, fun _ => ⟨b, o, rfl, Nat.lt_of_lt_of_le hb' hs, fun i x hi j v hv => ?_⟩⟩, fun _ => ⟨b, o, rfl, hB, Nat.lt_of_lt_of_le hlt hs, fun q => by rw [← hf q]; unfold World.frozen?; rw [hbb]⟩⟩
    have := hrow i x hi j v hv
    unfold World.cell? at this ⊢
    rw [hbb]
    exact this
theorem Agr.out {α : Type} {enc : α → List Value} {k c : Nat} {A : Option Addr} {l : List α} (h : Agr w w' lo hi) (ho : Out enc k hi w A c l) : Out enc k hi w' A c l :=
  ho.of_heap h.size fun g hg hne => h.block g (ho.span g hg hne).2 (by have := (ho.span g hg hne).1; omega)
theorem Out.away {α : Type} {enc : α → List Value} {k B c g : Nat} {A : Option Addr} {l : List α} (h : Out enc k B w A c l) (hg : w.grownBy w' (some g)) (hlt : g < B) : Out enc k B w' A c l :=
  h.grown hg (fun b hb => by injection hb with hb; omega)
theorem BlAt.new' {p : Nat} {cs : Array Value} {t : TypeId} (hp : p = w.heap.size) : BlAt (w.alloc (.cells cs t)) p cs := by
  subst hp
  exact BlAt.new _ _ _
theorem out_eightN {α : Type} {enc : α → List Value} {k B c b : Nat} {A : Option Addr} {l : List α} (h : Out enc k B w A c l) (hn : ∀ x, Go.Proofs.Ytlgfmnognhojnaa.blk A = some x → l ≠ [] → x ≠ b) (u0 u1 u2 u3 u4 u5 u6 u7 : Value) : Out enc k B ((((((((w.setCell ⟨b, 0, none⟩ u0).setCell ⟨b, 1, none⟩ u1).setCell ⟨b, 2, none⟩ u2).setCell ⟨b, 3, none⟩ u3).setCell ⟨b, 4, none⟩ u4).setCell ⟨b, 5, none⟩ u5).setCell ⟨b, 6, none⟩ u6).setCell ⟨b, 7, none⟩ u7) A c l :=
  ((((((((h.farN (fun x hx hne => (hn x hx hne).symm) _).farN (fun x hx hne => (hn x hx hne).symm) _).farN (fun x hx hne => (hn x hx hne).symm) _).farN (fun x hx hne => (hn x hx hne).symm) _).farN (fun x hx hne => (hn x hx hne).symm) _).farN (fun x hx hne => (hn x hx hne).symm) _).farN (fun x hx hne => (hn x hx hne).symm) _).farN (fun x hx hne => (hn x hx hne).symm) _)
theorem eight0 {b : Nat} {u0 u1 u2 u3 u4 u5 u6 u7 : Value} (h : BlAt w b #[.int .i64 0, .int .i64 0, .int .i64 0, .slice none 0 0, .slice none 0 0, .int .i64 0, .int .i64 0, .int .i64 0]) : BlAt ((((((((w.setCell ⟨b, 0, none⟩ u0).setCell ⟨b, 1, none⟩ u1).setCell ⟨b, 2, none⟩ u2).setCell ⟨b, 3, none⟩ u3).setCell ⟨b, 4, none⟩ u4).setCell ⟨b, 5, none⟩ u5).setCell ⟨b, 6, none⟩ u6).setCell ⟨b, 7, none⟩ u7) b #[u0, u1, u2, u3, u4, u5, u6, u7] := eight_stores h
end
/-- What the generator's loop keeps: the reader, its gate's block, the block of its result. -/
structure GSt (w0 wr : World) (g N B : Nat) (b n o f h t : Int) (T : List Mp) (C : List Ct) (At Ac : Option Addr) (ct cc : Nat) : Prop where
  rd : Rd wr g N
  gr : w0.grownBy wr (some g)
  bo : BlAt wr B #[.int .i64 b, .int .i64 n, .int .i64 o, .slice At T.length ct, .slice Ac C.length cc, .int .i64 f, .int .i64 h, .int .i64 t]
  bz : BlAt wr w0.heap.size #[.int .i64 0, .int .i64 0, .int .i64 0, .slice none 0 0, .slice none 0 0, .int .i64 0, .int .i64 0, .int .i64 0]
  lT : T.length ≤ 10
  lC : C.length ≤ 12
  t0 : -1 ≤ t
  t1 : t ≤ 10001
  oT : Out encM 4 (w0.heap.size + 1) wr At ct T
  oC : Out encC 3 (w0.heap.size + 1) wr Ac cc C
  nT : ∀ x, Go.Proofs.Ytlgfmnognhojnaa.blk At = some x → T ≠ [] → x ≠ B
  nC : ∀ x, Go.Proofs.Ytlgfmnognhojnaa.blk Ac = some x → C ≠ [] → x ≠ B
  gw : g < w0.heap.size
  wB : w0.heap.size < B
def GS (w0 wr : World) (g N B : Nat) : Prop := ∃ (b n o f h t : Int) (T : List Mp) (C : List Ct) (At Ac : Option Addr) (ct cc : Nat), GSt w0 wr g N B b n o f h t T C At Ac ct cc ∧ C.length ≤ 10
section
variable {w0 wr Wf : World} {g N B : Nat} {b n o f h t : Int} {T : List Mp} {C : List Ct} {At Ac : Option Addr} {ct cc : Nat}
theorem GSt.grown {M : Nat} (s : GSt w0 wr g N B b n o f h t T C At Ac ct cc) (hg : wr.grownBy Wf (some g)) (hr : Rd Wf g M) : GSt w0 Wf g M B b n o f h t T C At Ac ct cc :=
  ⟨hr, grown_trans s.gr hg (.inl rfl), s.bo.grown hg (by have := s.gw; have := s.wB; simp; omega), s.bz.grown hg (by have := s.gw; simp; omega), s.lT, s.lC, s.t0, s.t1, s.oT.away hg (by have := s.gw; omega), s.oC.away hg (by have := s.gw; omega), s.nT, s.nC, s.gw, s.wB⟩
theorem GSt.mono {M : Nat} (s : GSt w0 wr g N B b n o f h t T C At Ac ct cc) (hNM : N ≤ M) : GSt w0 wr g M B b n o f h t T C At Ac ct cc :=
  ⟨s.rd.mono hNM, s.gr, s.bo, s.bz, s.lT, s.lC, s.t0, s.t1, s.oT, s.oC, s.nT, s.nC, s.gw, s.wB⟩
/-- A new gate is laid over the loop's one. -/
theorem GSt.over {b' n' o' f' h' t' : Int} {T' : List Mp} {C' : List Ct} {At' Ac' : Option Addr} {ct' cc' : Nat} (s : GSt w0 wr g N B b n o f h t T C At Ac ct cc) (lT : T'.length ≤ 10) (lC : C'.length ≤ 12) (t0 : -1 ≤ t') (t1 : t' ≤ 10001) (oT : Out encM 4 (w0.heap.size + 1) wr At' ct' T') (oC : Out encC 3 (w0.heap.size + 1) wr Ac' cc' C') (nT : ∀ x, Go.Proofs.Ytlgfmnognhojnaa.blk At' = some x → T' ≠ [] → x ≠ B) (nC : ∀ x, Go.Proofs.Ytlgfmnognhojnaa.blk Ac' = some x → C' ≠ [] → x ≠ B) :
    GSt w0 ((((((((wr.setCell ⟨B, 0, none⟩ (.int .i64 b')).setCell ⟨B, 1, none⟩ (.int .i64 n')).setCell ⟨B, 2, none⟩ (.int .i64 o')).setCell ⟨B, 3, none⟩ (.slice At' T'.length ct')).setCell ⟨B, 4, none⟩ (.slice Ac' C'.length cc')).setCell ⟨B, 5, none⟩ (.int .i64 f')).setCell ⟨B, 6, none⟩ (.int .i64 h')).setCell ⟨B, 7, none⟩ (.int .i64 t')) g N B b' n' o' f' h' t' T' C' At' Ac' ct' cc' := by
  have hB := s.wB
  have hg := s.gw
  have hgB : g < B := by omega
  refine ⟨?_, ?_, eight_stores s.bo, BlAt.far8 s.bz (by omega) _ _ _ _ _ _ _ _, lT, lC, t0, t1, out_eightN oT nT _ _ _ _ _ _ _ _, out_eightN oC nC _ _ _ _ _ _ _ _, nT, nC, s.gw, s.wB⟩
  · exact (((((((s.rd.setCell hgB _).setCell hgB _).setCell hgB _).setCell hgB _).setCell hgB _).setCell hgB _).setCell hgB _).setCell hgB _
  · have hle : w0.heap.size ≤ B := Nat.le_of_lt hB
    exact grown_setCell (grown_setCell (grown_setCell (grown_setCell (grown_setCell (grown_setCell (grown_setCell (grown_setCell s.gr (.inr hle) _) (.inr hle) _) (.inr hle) _) (.inr hle) _) (.inr hle) _) (.inr hle) _) (.inr hle) _) (.inr hle) _
/-- What a call's new gate leaves behind the region: its block, whether it is to be taken. -/
def Cut5 (w0 : World) (g N B : Nat) (b n o f h t : Int) (T : List Mp) (C : List Ct) (At Ac : Option Addr) (ct cc : Nat) (s6 s7 : Value) (wx : World) : Prop := ∃ (g6 : Nat) (r : Bool) (b' n' o' f' h' t' : Int) (T' : List Mp) (C' : List Ct) (At' Ac' : Option Addr) (ct' cc' : Nat), s6 = .pointer (some ⟨g6, 0, none⟩) ∧ s7 = .bool r ∧ GSt w0 wx g N B b n o f h t T C At Ac ct cc ∧ BlAt wx g6 #[.int .i64 b', .int .i64 n', .int .i64 o', .slice At' T'.length ct', .slice Ac' C'.length cc', .int .i64 f', .int .i64 h', .int .i64 t'] ∧ T'.length ≤ 10 ∧ C'.length ≤ 10 ∧ -1 ≤ t' ∧ t' ≤ 10001 ∧ Out encM 4 (w0.heap.size + 1) wx At' ct' T' ∧ Out encC 3 (w0.heap.size + 1) wx Ac' cc' C' ∧ (∀ x, Go.Proofs.Ytlgfmnognhojnaa.blk At' = some x → T' ≠ [] → x ≠ B) ∧ (∀ x, Go.Proofs.Ytlgfmnognhojnaa.blk Ac' = some x → C' ≠ [] → x ≠ B)
theorem meet5 {w6 : World} {M B6 g6 : Nat} {r : Bool} {b' n' o' f' h' t' : Int} {T' : List Mp} {C' : List Ct} {At' Ac' : Option Addr} {ct' cc' : Nat} (s : GSt w0 wr g N B b n o f h t T C At Ac ct cc) (hB : B < wr.heap.size) (hB6 : wr.heap.size ≤ B6) (F : Agr w6 Wf wr.heap.size B6) (hg : wr.grownBy w6 (some g)) (hr : Rd w6 g M) (hb : BlAt Wf g6 #[.int .i64 b', .int .i64 n', .int .i64 o', .slice At' T'.length ct', .slice Ac' C'.length cc', .int .i64 f', .int .i64 h', .int .i64 t'])
    (l1 : T'.length ≤ 10) (l2 : C'.length ≤ 10) (h0 : 0 ≤ t') (h1 : t' ≤ 10000) (o1 : Out encM 4 B6 w6 At' ct' T') (o2 : Out encC 3 B6 w6 Ac' cc' C') :
    Cut5 w0 g M B b n o f h t T C At Ac ct cc (.pointer (some ⟨g6, 0, none⟩)) (.bool r) Wf := by
  have hgB : g < wr.heap.size := by have := s.gw; have := s.wB; omega
  exact ⟨g6, r, b', n', o', f', h', t', T', C', At', Ac', ct', cc', rfl, rfl, s.grown (F.grown hg (Nat.le_refl _)) (F.rd hr hgB), hb, l1, l2, by omega, by omega, (F.out o1).mono (by have := s.wB; omega), (F.out o2).mono (by have := s.wB; omega), fun x hx hne => by have := (o1.span x hx hne).1; omega, fun x hx hne => by have := (o2.span x hx hne).1; omega⟩
end
theorem cells6 {w : World} {g : Nat} {v0 v1 v2 v3 v4 v5 : Value} (h : BlAt w g #[v0, v1, v2, v3, v4, v5]) : w.cell? ⟨g, 0, none⟩ = some v0 ∧ w.cell? ⟨g, 1, none⟩ = some v1 ∧ w.cell? ⟨g, 2, none⟩ = some v2 ∧ w.cell? ⟨g, 3, none⟩ = some v3 ∧ w.cell? ⟨g, 4, none⟩ = some v4 ∧ w.cell? ⟨g, 5, none⟩ = some v5 :=
  ⟨h.cell rfl, h.cell rfl, h.cell rfl, h.cell rfl, h.cell rfl, h.cell rfl⟩
theorem frees6 {w : World} {g : Nat} {cs : Array Value} (h : BlAt w g cs) : w.frozen? ⟨g, 0, none⟩ = false ∧ w.frozen? ⟨g, 1, none⟩ = false ∧ w.frozen? ⟨g, 2, none⟩ = false ∧ w.frozen? ⟨g, 3, none⟩ = false ∧ w.frozen? ⟨g, 4, none⟩ = false ∧ w.frozen? ⟨g, 5, none⟩ = false :=
  ⟨h.free 0, h.free 1, h.free 2, h.free 3, h.free 4, h.free 5⟩
theorem BlAt.far6' {w : World} {g b : Nat} {cs : Array Value} (hb : b ≠ g) (h : BlAt w g cs) (u0 u1 u2 u3 u4 u5 : Value) : BlAt ((((((w.setCell ⟨b, 0, none⟩ u0).setCell ⟨b, 1, none⟩ u1).setCell ⟨b, 2, none⟩ u2).setCell ⟨b, 3, none⟩ u3).setCell ⟨b, 4, none⟩ u4).setCell ⟨b, 5, none⟩ u5) g cs := h.far6 hb _ _ _ _ _ _
theorem BlAt.far8' {w : World} {g b : Nat} {cs : Array Value} (hb : b ≠ g) (h : BlAt w g cs) (u0 u1 u2 u3 u4 u5 u6 u7 : Value) : BlAt ((((((((w.setCell ⟨b, 0, none⟩ u0).setCell ⟨b, 1, none⟩ u1).setCell ⟨b, 2, none⟩ u2).setCell ⟨b, 3, none⟩ u3).setCell ⟨b, 4, none⟩ u4).setCell ⟨b, 5, none⟩ u5).setCell ⟨b, 6, none⟩ u6).setCell ⟨b, 7, none⟩ u7) g cs := h.far8 hb _ _ _ _ _ _ _ _
theorem BlAt.grown' {w w' : World} {g : Nat} {cs : Array Value} {row : Option Nat} (hg : w.grownBy w' row) (hne : some g ≠ row) (h : BlAt w g cs) : BlAt w' g cs := h.grown hg hne
theorem Agr.set' {w w' : World} {lo hi : Nat} {a : Addr} (ha : (lo ≤ a.block ∧ a.block < hi) ∨ w.heap.size ≤ a.block) (h : Agr w w' lo hi) (u : Value) : Agr w (w'.setCell a u) lo hi := h.set ha u
theorem Agr.six {w w' : World} {lo hi b : Nat} (hb : (lo ≤ b ∧ b < hi) ∨ w.heap.size ≤ b) (h : Agr w w' lo hi) (u0 u1 u2 u3 u4 u5 : Value) : Agr w ((((((w'.setCell ⟨b, 0, none⟩ u0).setCell ⟨b, 1, none⟩ u1).setCell ⟨b, 2, none⟩ u2).setCell ⟨b, 3, none⟩ u3).setCell ⟨b, 4, none⟩ u4).setCell ⟨b, 5, none⟩ u5) lo hi :=
  ((((((h.set (a := ⟨b, 0, none⟩) hb _).set (a := ⟨b, 1, none⟩) hb _).set (a := ⟨b, 2, none⟩) hb _).set (a := ⟨b, 3, none⟩) hb _).set (a := ⟨b, 4, none⟩) hb _).set (a := ⟨b, 5, none⟩) hb _)
theorem Agr.eight {w w' : World} {lo hi b : Nat} (hb : (lo ≤ b ∧ b < hi) ∨ w.heap.size ≤ b) (h : Agr w w' lo hi) (u0 u1 u2 u3 u4 u5 u6 u7 : Value) : Agr w ((((((((w'.setCell ⟨b, 0, none⟩ u0).setCell ⟨b, 1, none⟩ u1).setCell ⟨b, 2, none⟩ u2).setCell ⟨b, 3, none⟩ u3).setCell ⟨b, 4, none⟩ u4).setCell ⟨b, 5, none⟩ u5).setCell ⟨b, 6, none⟩ u6).setCell ⟨b, 7, none⟩ u7) lo hi :=
  ((((((((h.set (a := ⟨b, 0, none⟩) hb _).set (a := ⟨b, 1, none⟩) hb _).set (a := ⟨b, 2, none⟩) hb _).set (a := ⟨b, 3, none⟩) hb _).set (a := ⟨b, 4, none⟩) hb _).set (a := ⟨b, 5, none⟩) hb _).set (a := ⟨b, 6, none⟩) hb _).set (a := ⟨b, 7, none⟩) hb _)
section
variable {X Y w' : World} {row : Option Nat} {cs : Array Value} {t : TypeId} {x : Obj} {p : Nat}
theorem newO (hg : (X.alloc (.cells cs t)).grownBy w' row) (hp : p = X.heap.size) (hne : some p ≠ row) : BlAt w' p cs := (BlAt.new' hp).grown hg hne
theorem newI (hg : ((X.alloc (.cells cs t)).alloc x).grownBy w' row) (hp : p = X.heap.size) (hne : some p ≠ row) : BlAt w' p cs := ((BlAt.new' hp).alloc x).grown hg hne
theorem newO2 (hg : ((X.alloc x).alloc (.cells cs t)).grownBy w' row) (hp : p = X.heap.size + 1) (hne : some p ≠ row) : BlAt w' p cs := (BlAt.new' (by rw [hp, alloc_size])).grown hg hne
theorem newOD (hg : (X.alloc (.cells cs t)).drew.grownBy w' row) (hp : p = X.heap.size) (hne : some p ≠ row) : BlAt w' p cs := newO (X := X) (t := t) ⟨hg.os, hg.tape, hg.output, hg.size, hg.block⟩ hp hne
theorem newID (hg : ((X.alloc (.cells cs t)).alloc x).drew.grownBy w' row) (hp : p = X.heap.size) (hne : some p ≠ row) : BlAt w' p cs := newI (X := X) (t := t) (x := x) ⟨hg.os, hg.tape, hg.output, hg.size, hg.block⟩ hp hne
theorem newO2D (hg : ((X.alloc x).alloc (.cells cs t)).drew.grownBy w' row) (hp : p = X.heap.size + 1) (hne : some p ≠ row) : BlAt w' p cs := newO2 (X := X) (t := t) (x := x) ⟨hg.os, hg.tape, hg.output, hg.size, hg.block⟩ hp hne
end
theorem grownOfBelow {w w' : World} (h : Below w.heap.size w w') (g : Nat) : w.grownBy w' (some g) := grown_below (World.grownBy.refl _ _) h
theorem neOf {w : World} {p q : Nat} {cs cs' : Array Value} (_ : BlAt w p cs) (_ : BlAt w q cs') (h : p ≠ q) : p ≠ q := h
theorem imp_cut {p q : Prop} (h : p) (k : p → q) : q := k h
theorem drew_size (w : World) : w.drew.heap.size = w.heap.size := rfl
theorem grown_drew {a w : World} {row : Option Nat} (h : a.grownBy w row) : a.grownBy w.drew row := ⟨h.os, h.tape, h.output, h.size, h.block⟩
theorem BlAt.drew {w : World} {g : Nat} {cs : Array Value} (h : BlAt w g cs) : BlAt w.drew g cs := h
theorem Sl.drew {α : Type} {enc : α → List Value} {k c : Nat} {w : World} {A : Option Addr} {l : List α} (h : Sl enc k w A c l) : Sl enc k w.drew A c l := h
theorem Sl.alloc {α : Type} {enc : α → List Value} {k c : Nat} {w : World} {A : Option Addr} {l : List α} (h : Sl enc k w A c l) (x : Obj) : Sl enc k (w.alloc x) A c l := h.below ((Below.refl _ _).alloc (Nat.le_refl _) x)
theorem tickV_fit {G : Gt} {now : Int} {b' n' o' f' h' t' : Int} {T' : List Mp} {C' : List Ct} (h : tickV G now = ⟨b', n', o', T', C', f', h', t'⟩) : T'.length ≤ 10 ∧ C'.length ≤ 10 ∧ 0 ≤ t' ∧ t' ≤ 10000 := by
  unfold tickV at h
  split at h
  · next hr =>
    have hk := tick_ok hr
    have hH := (okG_iff.1 hk).1
    rw [h] at hH
    exact ⟨Nat.le_trans ((vM_iff T').1 hH.T).1 (by omega), ((vC_iff C').1 hH.C).1, inR_iff.1 hH.t⟩
  · unfold zeroG at h
    simp only [Gt.mk.injEq] at h
    obtain ⟨_, _, _, rfl, rfl, _, _, rfl⟩ := h
    exact ⟨by simp, by simp, by omega, by omega⟩
set_option maxHeartbeats 2000000 in
theorem insideEnd_ (g N : Nat) (w : World) (hN : N ≤ 800000) (hr : Rd w g N) :
    Calls Try.prog 94 #[.pointer (some ⟨g, 0, none⟩)] w (fun e w' => ∃ a q : Int, e = .returned (.agg #[.int .i64 a, .int .i64 q]) ∧ Rd w' g (N + 2) ∧ w.grownBy w' (some g)) := by
  have hlt := hr.lt
  have HR := Lib.hid (hr.alloc (.cells #[.int .i64 0, .int .i64 0] 62))
  have E0 := Lib.hid (Bl.lit2 w 0 0 62)
  have HG0 := Lib.hid (grown_alloc (World.grownBy.refl w (some g)) (.cells #[.int .i64 0, .int .i64 0] 62))
  clear hr
  go_enter Try.func94, Try.ntmps94
  go_wp2_with fail
  refine (pick_ g _ 4 _ (by omega) (by omega) (by omega) HR.out).mono ?_
  rintro e w1 ⟨a, rfl, ha0, ha1, _, hr1, hg1⟩
  have ha1 := ha1 (by omega)
  have HR1 := Lib.hid hr1
  have HG1 := Lib.hid hg1
  clear hr1 hg1
  go_wp2_with fail
  refine (one_lit g _ [1000, 1001, 80, 5000, 1003] rfl (by simp) rfl (by simp) (by simp) (by omega) HR1.out).mono ?_
  rintro e w2 ⟨q, rfl, hq, hr2, hg2⟩
  have hg04 := grown_trans HG1.out hg2 (.inl rfl)
  have hbl := E0.out.grown hg04 (by simp; omega)
  obtain ⟨⟨x0, x1⟩, f0, f1⟩ := hbl.two
  have HR4 := Lib.hid hr2
  have HG4 := Lib.hid (grown_trans HG0.out hg04 (.inl rfl))
  have hz4 : w.heap.size < w2.heap.size := by have := hg04.size; simp at this; omega
  clear hr2 hg2 hq hg04 hbl
  go_wp2
  refine bodyPost_ret (v := .agg #[.int .i64 (2560 + a), .int .i64 q]) (by simp [results, Try.results94, go_sem, x0, x1]) rfl ⟨2560 + a, q, rfl, ?_, ?_⟩
  · exact (HR4.out.setCell (by simpa using hlt) _).setCell (by simpa using hlt) _
  · exact grown_setCell (grown_setCell HG4.out (.inr (by simp)) _) (.inr (by simp)) _
set_option maxHeartbeats 2000000 in
theorem farEnd_ (g N : Nat) (w : World) (hN : N ≤ 800000) (hr : Rd w g N) :
    Calls Try.prog 95 #[.pointer (some ⟨g, 0, none⟩)] w (fun e w' => ∃ a q : Int, e = .returned (.agg #[.int .i64 a, .int .i64 q]) ∧ Rd w' g (N + 2) ∧ w.grownBy w' (some g)) := by
  have hlt := hr.lt
  have HR := Lib.hid (hr.alloc (.cells #[.int .i64 0, .int .i64 0] 62))
  have E0 := Lib.hid (Bl.lit2 w 0 0 62)
  have HG0 := Lib.hid (grown_alloc (World.grownBy.refl w (some g)) (.cells #[.int .i64 0, .int .i64 0] 62))
  clear hr
  go_enter Try.func95, Try.ntmps95
  go_wp2_with fail
  refine (one_lit g _ [5000, 7000, 7001] rfl (by simp) rfl (by simp) (by simp) (by omega) HR.out).mono ?_
  rintro e w1 ⟨a, rfl, ha, hr1, hg1⟩
  clear ha
  have HR1 := Lib.hid hr1
  have HG1 := Lib.hid hg1
  clear hr1 hg1
  go_wp2_with fail
  refine (one_lit g _ [80, 443] rfl (by simp) rfl (by simp) (by simp) (by omega) HR1.out).mono ?_
  rintro e w2 ⟨q, rfl, hq, hr2, hg2⟩
  have hg04 := grown_trans HG1.out hg2 (.inl rfl)
  have hbl := E0.out.grown hg04 (by simp; omega)
  obtain ⟨⟨x0, x1⟩, f0, f1⟩ := hbl.two
  have HR4 := Lib.hid hr2
  have HG4 := Lib.hid (grown_trans HG0.out hg04 (.inl rfl))
  have hz4 : w.heap.size < w2.heap.size := by have := hg04.size; simp at this; omega
  clear hr2 hg2 hq hg04 hbl
  go_wp2
  refine bodyPost_ret (v := .agg #[.int .i64 (a), .int .i64 q]) (by simp [results, Try.results95, go_sem, x0, x1]) rfl ⟨a, q, rfl, ?_, ?_⟩
  · exact (HR4.out.setCell (by simpa using hlt) _).setCell (by simpa using hlt) _
  · exact grown_setCell (grown_setCell HG4.out (.inr (by simp)) _) (.inr (by simp)) _
set_option maxRecDepth 8000 in
set_option maxHeartbeats 40000000 in
theorem someGate_ (g N : Nat) (w : World) (hN : N ≤ 500000) (hr : Rd w g N) :
    Calls Try.prog 62 #[.pointer (some ⟨g, 0, none⟩)] w (fun e w' => ∃ (b n o f h t : Int) (T : List Mp) (C : List Ct) (At Ac : Option Addr) (ct cc : Nat), e = .returned (.agg #[.int .i64 b, .int .i64 n, .int .i64 o, .slice At T.length ct, .slice Ac C.length cc, .int .i64 f, .int .i64 h, .int .i64 t]) ∧ T.length ≤ 10 ∧ C.length ≤ 10 ∧ -1 ≤ t ∧ t ≤ 10001 ∧ Out encM 4 (w.heap.size + 1) w' At ct T ∧ Out encC 3 (w.heap.size + 1) w' Ac cc C ∧ Rd w' g (N + 100) ∧ w.grownBy w' (some g)) := by
  have hlt := hr.lt
  obtain ⟨wa, hwa⟩ : ∃ y, y = w.alloc (.cells #[.int .i64 0, .int .i64 0, .int .i64 0, .slice none 0 0, .slice none 0 0, .int .i64 0, .int .i64 0, .int .i64 0] 28) := ⟨_, rfl⟩
  have hza : wa.heap.size = w.heap.size + 1 := by subst hwa; exact alloc_size _ _
  have RA := Lib.hid (show Rd wa g N by subst hwa; exact hr.alloc _)
  have bza : BlAt wa w.heap.size #[.int .i64 0, .int .i64 0, .int .i64 0, .slice none 0 0, .slice none 0 0, .int .i64 0, .int .i64 0, .int .i64 0] := by subst hwa; exact BlAt.new _ _ _
  have ga : w.grownBy wa (some g) := by subst hwa; exact grown_alloc (World.grownBy.refl _ _) _
  have HZA := Lib.hid hza
  have WA := Lib.hid hwa
  have BZA := Lib.hid bza
  have GA := Lib.hid ga
  clear hr hwa hza bza ga
  go_enter Try.func62, Try.ntmps62
  go_wp2_with fail
  rw [← WA.out]
  refine (one_lit g _ [8, 12, 14] rfl HZA.out rfl (by simp) (by simp) (by omega) RA.out).mono ?_
  rintro e w1 ⟨x, rfl, _, hr1, hg1⟩
  have R1 := Lib.hid hr1
  have G1 := Lib.hid (grown_trans GA.out hg1 (.inl rfl))
  have B1 := Lib.hid (BZA.out.grown hg1 (by simp; omega))
  have z1 : w.heap.size < w1.heap.size := by have := hg1.size; rw [HZA.out] at this; omega
  clear hr1 hg1
  go_wp2_with fail
  refine (pick_ g _ 3 _ (by omega) (by omega) (by omega) ((R1.out.alloc _).alloc _)).mono ?_
  rintro e w2 ⟨y, rfl, hy0, hy1, _, hr2, hg2⟩
  have R2 := Lib.hid hr2
  have G2 := Lib.hid (grown_trans (grown_alloc (grown_alloc G1.out _) _) hg2 (.inl rfl))
  have B2 := Lib.hid (((B1.out.alloc _).alloc _).grown hg2 (by simp; omega))
  have z2 : w1.heap.size < w2.heap.size := by have := hg2.size; simp only [alloc_size] at this; omega
  clear hr2 hg2 hy0 hy1
  go_wp2_with fail
  refine (one_lit g _ [20, 50, 100, 500] rfl (by simp) rfl (by simp) (by simp) (by omega) R2.out).mono ?_
  rintro e w3 ⟨z, rfl, _, hr3, hg3⟩
  have R3 := Lib.hid hr3
  have G3 := Lib.hid (grown_trans G2.out hg3 (.inl rfl))
  have B3 := Lib.hid (B2.out.grown hg3 (by simp; omega))
  have z3 : w2.heap.size ≤ w3.heap.size := hg3.size
  clear hr3 hg3
  obtain ⟨w4, hw4⟩ : ∃ q, q = w3.alloc (.cells #[.int .i64 2560, .int .i64 x, .int .i64 51457, .slice (some ⟨w1.heap.size, 0, none⟩) 0 0, .slice (some ⟨w1.heap.size + 1, 0, none⟩) 0 0, .int .i64 y, .int .i64 z, .int .i64 0] 28) := ⟨_, rfl⟩
  have hz4 : w4.heap.size = w3.heap.size + 1 := by subst hw4; exact alloc_size _ _
  have R4 := Lib.hid (show Rd w4 g (N + 3) by subst hw4; exact R3.out.alloc _)
  have G4 := Lib.hid (show w.grownBy w4 (some g) by subst hw4; exact grown_alloc G3.out _)
  have B4 := Lib.hid (show BlAt w4 w.heap.size #[.int .i64 0, .int .i64 0, .int .i64 0, .slice none 0 0, .slice none 0 0, .int .i64 0, .int .i64 0, .int .i64 0] by subst hw4; exact B3.out.alloc _)
  have O4 := Lib.hid (show BlAt w4 w3.heap.size #[.int .i64 2560, .int .i64 x, .int .i64 51457, .slice (some ⟨w1.heap.size, 0, none⟩) 0 0, .slice (some ⟨w1.heap.size + 1, 0, none⟩) 0 0, .int .i64 y, .int .i64 z, .int .i64 0] by subst hw4; exact BlAt.new _ _ _)
  have HZ4 := Lib.hid hz4
  have W4 := Lib.hid hw4
  clear hw4 hz4
  go_wp2_with fail
  rw [← W4.out]
  refine (one_lit g _ [4, 6, 2, 8, 0, 12] rfl HZ4.out rfl (by simp) (by simp) (by omega) R4.out).mono ?_
  rintro e w5 ⟨mm, rfl, hm, hr5, hg5⟩
  have hmm : 0 ≤ mm ∧ mm ≤ 12 := by simp at hm; omega
  obtain ⟨m0, rfl⟩ : ∃ k : Nat, mm = (k : Int) := ⟨mm.toNat, by omega⟩
  have hm12 : m0 ≤ 12 := by omega
  have z5 : w3.heap.size < w5.heap.size := by have := hg5.size; rw [HZ4.out] at this; omega
  have hw3 : w.heap.size < w3.heap.size := by omega
  have S5 := Lib.hid (show GSt w w5 g (N + 4) w3.heap.size 2560 x 51457 y z 0 [] [] (some ⟨w1.heap.size, 0, none⟩) (some ⟨w1.heap.size + 1, 0, none⟩) 0 0 from
    ⟨hr5, grown_trans G4.out hg5 (.inl rfl), O4.out.grown hg5 (by simp; omega), B4.out.grown hg5 (by simp; omega), by simp, by simp, by omega, by omega, ⟨Sl.nil, Fr.nil⟩, ⟨Sl.nil, Fr.nil⟩, fun _ _ h => absurd rfl h, fun _ _ h => absurd rfl h, hlt, hw3⟩)
  clear hr5 hg5 hm hmm
  go_wp2
  go_loopw [4] (fun n wr => ∃ m : Nat, m ≤ 12 ∧ n = .int .i64 m ∧ w3.heap.size < wr.heap.size ∧ GS w wr g (N + 4 + 5 * (12 - m)) w3.heap.size) (fun n _ => (intOf n).toNat)
  case atStart => exact ⟨m0, hm12, rfl, z5, _, _, _, _, _, _, _, _, _, _, _, _, S5.out.mono (by omega), by simp⟩
  case round =>
    obtain ⟨m, hm, rfl, hzr, b, n, o, f, h, t, T, C, At, Ac, ct, cc, st, hC10⟩ := hrel
    have ST := Lib.hid st
    clear st
    by_cases hm0 : 0 < m
    · have BOX := Lib.hid ST.out.bo
      have sb : BlAt wr w3.heap.size #[.int .i64 b, .int .i64 n, .int .i64 o, .slice At T.length ct, .slice Ac C.length cc, .int .i64 f, .int .i64 h, .int .i64 t] := BOX.out
      have s0 : BlAt wr.drew w3.heap.size #[.int .i64 b, .int .i64 n, .int .i64 o, .slice At T.length ct, .slice Ac C.length cc, .int .i64 f, .int .i64 h, .int .i64 t] := BOX.out
      have OT := Lib.hid ST.out.oT
      have OC := Lib.hid ST.out.oC
      have RDX := Lib.hid ST.out.rd
      have hlT : T.length ≤ 10 := ST.out.lT
      have x0 : ∀ W, BlAt W w3.heap.size #[.int .i64 b, .int .i64 n, .int .i64 o, .slice At T.length ct, .slice Ac C.length cc, .int .i64 f, .int .i64 h, .int .i64 t] → W.cell? ⟨w3.heap.size, 0, none⟩ = some (.int .i64 b) := fun W h => (gcells h).1
      have x1 : ∀ W, BlAt W w3.heap.size #[.int .i64 b, .int .i64 n, .int .i64 o, .slice At T.length ct, .slice Ac C.length cc, .int .i64 f, .int .i64 h, .int .i64 t] → W.cell? ⟨w3.heap.size, 1, none⟩ = some (.int .i64 n) := fun W h => (gcells h).2.1
      have x2 : ∀ W, BlAt W w3.heap.size #[.int .i64 b, .int .i64 n, .int .i64 o, .slice At T.length ct, .slice Ac C.length cc, .int .i64 f, .int .i64 h, .int .i64 t] → W.cell? ⟨w3.heap.size, 2, none⟩ = some (.int .i64 o) := fun W h => (gcells h).2.2.1
      have x3 : ∀ W, BlAt W w3.heap.size #[.int .i64 b, .int .i64 n, .int .i64 o, .slice At T.length ct, .slice Ac C.length cc, .int .i64 f, .int .i64 h, .int .i64 t] → W.cell? ⟨w3.heap.size, 3, none⟩ = some (.slice At T.length ct) := fun W h => (gcells h).2.2.2.1
      have x4 : ∀ W, BlAt W w3.heap.size #[.int .i64 b, .int .i64 n, .int .i64 o, .slice At T.length ct, .slice Ac C.length cc, .int .i64 f, .int .i64 h, .int .i64 t] → W.cell? ⟨w3.heap.size, 4, none⟩ = some (.slice Ac C.length cc) := fun W h => (gcells h).2.2.2.2.1
      have x5 : ∀ W, BlAt W w3.heap.size #[.int .i64 b, .int .i64 n, .int .i64 o, .slice At T.length ct, .slice Ac C.length cc, .int .i64 f, .int .i64 h, .int .i64 t] → W.cell? ⟨w3.heap.size, 5, none⟩ = some (.int .i64 f) := fun W h => (gcells h).2.2.2.2.2.1
      have x6 : ∀ W, BlAt W w3.heap.size #[.int .i64 b, .int .i64 n, .int .i64 o, .slice At T.length ct, .slice Ac C.length cc, .int .i64 f, .int .i64 h, .int .i64 t] → W.cell? ⟨w3.heap.size, 6, none⟩ = some (.int .i64 h) := fun W h => (gcells h).2.2.2.2.2.2.1
      have x7 : ∀ W, BlAt W w3.heap.size #[.int .i64 b, .int .i64 n, .int .i64 o, .slice At T.length ct, .slice Ac C.length cc, .int .i64 f, .int .i64 h, .int .i64 t] → W.cell? ⟨w3.heap.size, 7, none⟩ = some (.int .i64 t) := fun W h => (gcells h).2.2.2.2.2.2.2
      go_upto_region 5 with fail
      go_cut [6, 7] (Cut5 w g (N + 4 + 5 * (12 - m) + 4) w3.heap.size b n o f h t T C At Ac ct cc)
      case first =>
        go_region_held3 (fun W => BlAt W w3.heap.size #[.int .i64 b, .int .i64 n, .int .i64 o, .slice At T.length ct, .slice Ac C.length cc, .int .i64 f, .int .i64 h, .int .i64 t]) (first | with_reducible exact s0 | (repeat (first | (with_reducible assumption) | (with_reducible refine BlAt.drew ?_) | ((with_reducible refine BlAt.far8' ?_ ?_ _ _ _ _ _ _ _ _); focus (omega)) | ((with_reducible refine BlAt.far6' ?_ ?_ _ _ _ _ _ _); focus (omega)) | (with_reducible refine BlAt.alloc ?_ _)))) (first | (go_at_call 94; refine (insideEnd_ g (N + 4 + 5 * (12 - m)) _ (by omega) (by repeat (first | with_reducible exact RDX.out | with_reducible refine Rd.drew_ ?_ | with_reducible refine Rd.alloc ?_ _))).mono ?_; rintro e w6 ⟨ea, eq, rfl, hr6, hg6⟩; have k6 : wr.grownBy w6 (some g) := grown_trans (by repeat (first | with_reducible exact World.grownBy.refl _ _ | with_reducible refine grown_drew ?_ | with_reducible refine grown_alloc ?_ _)) hg6 (.inl rfl); have s6 := BOX.out.grown k6 (by simp; omega); have z6 := hg6.size; (try simp only [alloc_size, drew_size] at z6); (first | (have q1 := newO2D hg6 rfl (by simp; omega); have q2 := newID hg6 rfl (by simp; omega)) | (have q1 := newOD hg6 rfl (by simp; omega)) | skip)) | (go_at_call 95; refine (farEnd_ g (N + 4 + 5 * (12 - m) + 2) _ (by omega) (by repeat (first | with_reducible exact hr6 | with_reducible refine Rd.drew_ ?_ | with_reducible refine Rd.alloc ?_ _))).mono ?_; rintro e w7 ⟨fa, fq, rfl, hr7, hg7⟩; have k7 : wr.grownBy w7 (some g) := grown_trans (by repeat (first | with_reducible exact k6 | with_reducible refine grown_drew ?_ | with_reducible refine grown_alloc ?_ _)) hg7 (.inl rfl); have s7 := BOX.out.grown k7 (by simp; omega); have st7 : Sl encM 4 w7 At ct T := (OT.out.away k7 (by omega)).1; have sc7 : Sl encC 3 w7 Ac cc C := (OC.out.away k7 (by omega)).1; have z7 := hg7.size; (try simp only [alloc_size, drew_size] at z7); have k67 : w6.grownBy w7 (some g) := grown_trans (by repeat (first | with_reducible exact World.grownBy.refl _ _ | with_reducible refine grown_drew ?_ | with_reducible refine grown_alloc ?_ _)) hg7 (.inl rfl); (try (have q1 := q1.grown k67 (by simp; omega))); (try (have q2 := q2.grown k67 (by simp; omega))); (first | (have r1 := newO2 hg7 rfl (by simp; omega); have r2 := newI hg7 rfl (by simp; omega)) | (have r1 := newO hg7 rfl (by simp; omega)) | skip)) | (go_at_call 93; refine (spec_SendOut b n o f h t T C At Ac ct cc _ _ 0 _ _ _ _ _ rfl rfl (by omega) (by omega) (by repeat (first | with_reducible exact st7 | with_reducible refine Sl.drew ?_ | with_reducible refine Sl.alloc ?_ _)) (by repeat (first | with_reducible exact sc7 | with_reducible refine Sl.drew ?_ | with_reducible refine Sl.alloc ?_ _))).mono ?_; rintro e w8 ⟨k1, k2, k3, k4, k5, A3, n3, c3, b', n', o', f', h', t', T', C', A1, A2, c1, c2, r', rfl, l1, l2, t0', t1', o1, o2, hb8⟩; have k8 : wr.grownBy w8 (some g) := grown_below (by repeat (first | with_reducible exact k7 | with_reducible refine grown_drew ?_ | with_reducible refine grown_alloc ?_ _)) hb8; have s8 := BOX.out.grown k8 (by simp; omega); have hr8 : Rd w8 g (N + 4 + 5 * (12 - m) + 4) := Rd.below_ (by repeat (first | with_reducible exact hr7 | with_reducible refine Rd.drew_ ?_ | with_reducible refine Rd.alloc ?_ _)) hb8; have z8 := hb8.size; (try simp only [alloc_size, drew_size] at z8); have k78 : w7.grownBy w8 (some g) := grown_below (by repeat (first | with_reducible exact World.grownBy.refl _ _ | with_reducible refine grown_drew ?_ | with_reducible refine grown_alloc ?_ _)) hb8; have k8b := grownOfBelow hb8 g; (first | (have s1 := newO2 k8b rfl (by simp; omega); have s2 := newI k8b rfl (by simp; omega)) | (have s1 := newO k8b rfl (by simp; omega)) | skip); (try (have q1 := q1.grown k78 (by simp; omega))); (try (have q2 := q2.grown k78 (by simp; omega))); (try (have r1 := r1.grown k78 (by simp; omega))); (try (have r2 := r2.grown k78 (by simp; omega))); (try (have mq1q2 := neOf q1 q2 (by omega); have nq1q2 := mq1q2.symm)); (try (have mq1r1 := neOf q1 r1 (by omega); have nq1r1 := mq1r1.symm)); (try (have mq1s1 := neOf q1 s1 (by omega); have nq1s1 := mq1s1.symm)); (try (have mr1r2 := neOf r1 r2 (by omega); have nr1r2 := mr1r2.symm)); (try (have mr1s1 := neOf r1 s1 (by omega); have nr1s1 := mr1s1.symm)); (try (have ms1s2 := neOf s1 s2 (by omega); have ns1s2 := ms1s2.symm)); (try (obtain ⟨a0, a1, a2, a3, a4, a5⟩ := cells6 q1; obtain ⟨e0, e1, e2, e3, e4, e5⟩ := frees6 q1; have la := q1.lt)); (try (obtain ⟨c0, c1', c2', c3', c4, c5, c6, c7⟩ := gcells q1; obtain ⟨d0, d1, d2, d3, d4, d5, d6, d7⟩ := gfrees q1; have lg := q1.lt)); (try (obtain ⟨a0, a1, a2, a3, a4, a5⟩ := cells6 q2; obtain ⟨e0, e1, e2, e3, e4, e5⟩ := frees6 q2; have la := q2.lt)); (try (obtain ⟨c0, c1', c2', c3', c4, c5, c6, c7⟩ := gcells q2; obtain ⟨d0, d1, d2, d3, d4, d5, d6, d7⟩ := gfrees q2; have lg := q2.lt)); (try (obtain ⟨a0, a1, a2, a3, a4, a5⟩ := cells6 r1; obtain ⟨e0, e1, e2, e3, e4, e5⟩ := frees6 r1; have la := r1.lt)); (try (obtain ⟨c0, c1', c2', c3', c4, c5, c6, c7⟩ := gcells r1; obtain ⟨d0, d1, d2, d3, d4, d5, d6, d7⟩ := gfrees r1; have lg := r1.lt)); (try (obtain ⟨a0, a1, a2, a3, a4, a5⟩ := cells6 r2; obtain ⟨e0, e1, e2, e3, e4, e5⟩ := frees6 r2; have la := r2.lt)); (try (obtain ⟨c0, c1', c2', c3', c4, c5, c6, c7⟩ := gcells r2; obtain ⟨d0, d1, d2, d3, d4, d5, d6, d7⟩ := gfrees r2; have lg := r2.lt)); (try (obtain ⟨a0, a1, a2, a3, a4, a5⟩ := cells6 s1; obtain ⟨e0, e1, e2, e3, e4, e5⟩ := frees6 s1; have la := s1.lt)); (try (obtain ⟨c0, c1', c2', c3', c4, c5, c6, c7⟩ := gcells s1; obtain ⟨d0, d1, d2, d3, d4, d5, d6, d7⟩ := gfrees s1; have lg := s1.lt)); (try (obtain ⟨a0, a1, a2, a3, a4, a5⟩ := cells6 s2; obtain ⟨e0, e1, e2, e3, e4, e5⟩ := frees6 s2; have la := s2.lt)); (try (obtain ⟨c0, c1', c2', c3', c4, c5, c6, c7⟩ := gcells s2; obtain ⟨d0, d1, d2, d3, d4, d5, d6, d7⟩ := gfrees s2; have lg := s2.lt))))
        all_goals
          go_wp2_with fail
          go_meet
          refine meet5 (b' := b') (n' := n') (o' := o') (f' := f') (h' := h') (t' := t') ST.out hzr ?_ ?_ k8 hr8 ?_ l1 l2 t0' t1' o1 o2
          · (first | omega | ((simp only [alloc_size, drew_size]); omega))
          · (repeat (first | (with_reducible exact Agr.refl _ _ _) | (with_reducible refine Agr.drew ?_) | (with_reducible refine Agr.alloc ?_ _) | ((with_reducible refine Agr.eight ?_ ?_ _ _ _ _ _ _ _ _); focus (first | omega | ((simp only [alloc_size, drew_size]); omega))) | ((with_reducible refine Agr.six ?_ ?_ _ _ _ _ _ _); focus (first | omega | ((simp only [alloc_size, drew_size]); omega)))))
          · (repeat (first | (with_reducible assumption) | ((with_reducible refine BlAt.new' ?_); first | with_reducible rfl | (simp only [alloc_size, drew_size, setCell_size]; done) | (simp; done) | rfl) | (with_reducible refine eight0 ?_) | ((with_reducible refine BlAt.far6' ?_ ?_ _ _ _ _ _ _); focus (first | omega | ((simp only [alloc_size, drew_size]); omega))) | (with_reducible refine BlAt.drew ?_) | (with_reducible refine BlAt.alloc ?_ _) | (with_reducible refine BlAt.below_ ?_ hb8) | ((with_reducible refine BlAt.grown' hg7 ?_ ?_); focus (simp; omega)) | ((with_reducible refine BlAt.grown' hg6 ?_ ?_); focus (simp; omega))))
      case rest =>
        obtain ⟨g6, r, b', n', o', f', h', t', T', C', At', Ac', ct', cc', rfl, rfl, st6, hb6, l1, l2, h0, h1, o1, o2, n1, n2⟩ := hcut
        have ST6 := Lib.hid st6
        have BG6 := Lib.hid hb6
        have O1 := Lib.hid o1
        have O2 := Lib.hid o2
        have N1 := Lib.hid n1
        have N2 := Lib.hid n2
        clear st6 hb6 o1 o2 n1 n2 x0 x1 x2 x3 x4 x5 x6 x7 s0 sb BOX OT OC RDX
        go_upto_if 40 with fail
        go_cut [] (fun wx => GS w wx g (N + 4 + 5 * (12 - m) + 4) w3.heap.size)
        case first =>
          cases r
          · go_wp2_with fail
            go_meet
            exact ⟨b, n, o, f, h, t, T, C, At, Ac, ct, cc, ST6.out, hC10⟩
          · have bo6 := ST6.out.bo
            have bb6 := BG6.out
            obtain ⟨x0, x1, x2, x3, x4, x5, x6, x7⟩ := gcells (bb6)
            obtain ⟨y0, y1, y2, y3, y4, y5, y6, y7⟩ := gcells (bo6)
            obtain ⟨q0, q1, q2, q3, q4, q5, q6, q7⟩ := gfrees (bo6)
            clear bo6 bb6
            go_wp2_with fail
            go_meet
            exact ⟨b', n', o', f', h', t', T', C', At', Ac', ct', cc', ST6.out.over l1 (by omega) h0 h1 O1.out O2.out N1.out N2.out, l2⟩
        case rest =>
          clear l1 l2 h0 h1 O1 O2 N1 N2 BG6 ST6 ST hlT hC10
          clear b n o f h t T C At Ac ct cc b' n' o' f' h' t' T' C' At' Ac' ct' cc'
          obtain ⟨b, n, o, f, h, t, T, C, At, Ac, ct, cc, st, hC10⟩ := hcut
          have ST := Lib.hid st
          have BOX := Lib.hid st.bo
          have OT := Lib.hid st.oT
          have OC := Lib.hid st.oC
          have RDX := Lib.hid st.rd
          have hlT : T.length ≤ 10 := st.lT
          have ht0 : -1 ≤ t := st.t0
          have ht1 : t ≤ 10001 := st.t1
          have hzc : w3.heap.size < wc.heap.size := st.bo.lt
          have sb : BlAt wc w3.heap.size #[.int .i64 b, .int .i64 n, .int .i64 o, .slice At T.length ct, .slice Ac C.length cc, .int .i64 f, .int .i64 h, .int .i64 t] := st.bo
          have s0 : BlAt wc.drew w3.heap.size #[.int .i64 b, .int .i64 n, .int .i64 o, .slice At T.length ct, .slice Ac C.length cc, .int .i64 f, .int .i64 h, .int .i64 t] := st.bo
          clear st
          have x0 : ∀ W, BlAt W w3.heap.size #[.int .i64 b, .int .i64 n, .int .i64 o, .slice At T.length ct, .slice Ac C.length cc, .int .i64 f, .int .i64 h, .int .i64 t] → W.cell? ⟨w3.heap.size, 0, none⟩ = some (.int .i64 b) := fun W h => (gcells h).1
          have x1 : ∀ W, BlAt W w3.heap.size #[.int .i64 b, .int .i64 n, .int .i64 o, .slice At T.length ct, .slice Ac C.length cc, .int .i64 f, .int .i64 h, .int .i64 t] → W.cell? ⟨w3.heap.size, 1, none⟩ = some (.int .i64 n) := fun W h => (gcells h).2.1
          have x2 : ∀ W, BlAt W w3.heap.size #[.int .i64 b, .int .i64 n, .int .i64 o, .slice At T.length ct, .slice Ac C.length cc, .int .i64 f, .int .i64 h, .int .i64 t] → W.cell? ⟨w3.heap.size, 2, none⟩ = some (.int .i64 o) := fun W h => (gcells h).2.2.1
          have x3 : ∀ W, BlAt W w3.heap.size #[.int .i64 b, .int .i64 n, .int .i64 o, .slice At T.length ct, .slice Ac C.length cc, .int .i64 f, .int .i64 h, .int .i64 t] → W.cell? ⟨w3.heap.size, 3, none⟩ = some (.slice At T.length ct) := fun W h => (gcells h).2.2.2.1
          have x4 : ∀ W, BlAt W w3.heap.size #[.int .i64 b, .int .i64 n, .int .i64 o, .slice At T.length ct, .slice Ac C.length cc, .int .i64 f, .int .i64 h, .int .i64 t] → W.cell? ⟨w3.heap.size, 4, none⟩ = some (.slice Ac C.length cc) := fun W h => (gcells h).2.2.2.2.1
          have x5 : ∀ W, BlAt W w3.heap.size #[.int .i64 b, .int .i64 n, .int .i64 o, .slice At T.length ct, .slice Ac C.length cc, .int .i64 f, .int .i64 h, .int .i64 t] → W.cell? ⟨w3.heap.size, 5, none⟩ = some (.int .i64 f) := fun W h => (gcells h).2.2.2.2.2.1
          have x6 : ∀ W, BlAt W w3.heap.size #[.int .i64 b, .int .i64 n, .int .i64 o, .slice At T.length ct, .slice Ac C.length cc, .int .i64 f, .int .i64 h, .int .i64 t] → W.cell? ⟨w3.heap.size, 6, none⟩ = some (.int .i64 h) := fun W h => (gcells h).2.2.2.2.2.2.1
          have x7 : ∀ W, BlAt W w3.heap.size #[.int .i64 b, .int .i64 n, .int .i64 o, .slice At T.length ct, .slice Ac C.length cc, .int .i64 f, .int .i64 h, .int .i64 t] → W.cell? ⟨w3.heap.size, 7, none⟩ = some (.int .i64 t) := fun W h => (gcells h).2.2.2.2.2.2.2
          go_upto_region 8 with fail
          go_cut [8, 9] (Cut5 w g (N + 4 + 5 * (12 - m) + 5) w3.heap.size b n o f h t T C At Ac ct cc)
          case first =>
            go_region_held3 (fun W => BlAt W w3.heap.size #[.int .i64 b, .int .i64 n, .int .i64 o, .slice At T.length ct, .slice Ac C.length cc, .int .i64 f, .int .i64 h, .int .i64 t]) (first | with_reducible exact s0 | (repeat (first | (with_reducible assumption) | (with_reducible refine BlAt.drew ?_) | ((with_reducible refine BlAt.far8' ?_ ?_ _ _ _ _ _ _ _ _); focus (omega)) | ((with_reducible refine BlAt.far6' ?_ ?_ _ _ _ _ _ _); focus (omega)) | (with_reducible refine BlAt.alloc ?_ _)))) (first | (go_at_call 63; refine (pick_ g (N + 4 + 5 * (12 - m) + 4) 15 _ (by omega) (by omega) (by omega) (by repeat (first | with_reducible exact RDX.out | with_reducible refine Rd.drew_ ?_ | with_reducible refine Rd.alloc ?_ _))).mono ?_; rintro e w6 ⟨dt, rfl, hd0, hd1, _, hr6, hg6⟩; have hd1 := hd1 (by omega); have hwr : IntKind.i64.wrap (t + dt) = t + dt := IntWalk.i64_in _ (by omega); have k6 : wc.grownBy w6 (some g) := grown_trans (by repeat (first | with_reducible exact World.grownBy.refl _ _ | with_reducible refine grown_drew ?_ | with_reducible refine grown_alloc ?_ _)) hg6 (.inl rfl); have s6 := BOX.out.grown k6 (by simp; omega); have st6 : Sl encM 4 w6 At ct T := (OT.out.away k6 (by omega)).1; have sc6 : Sl encC 3 w6 Ac cc C := (OC.out.away k6 (by omega)).1; have z6 := hg6.size; (try simp only [alloc_size, drew_size] at z6); (first | (have q1 := newO2D hg6 rfl (by simp; omega); have q2 := newID hg6 rfl (by simp; omega)) | (have q1 := newOD hg6 rfl (by simp; omega)) | skip)) | (go_at_call 10; obtain ⟨xx, hxx⟩ : ∃ x, tickV ⟨b, n, o, T, C, f, h, t⟩ (t + dt) = x := ⟨_, rfl⟩; obtain ⟨b', n', o', f', h', t', T', C', rfl⟩ : ∃ b' n' o' f' h' t' T' C', xx = ⟨b', n', o', T', C', f', h', t'⟩ := ⟨xx.b, xx.n, xx.o, xx.f, xx.h, xx.t, xx.T, xx.C, rfl⟩; have HXX := Lib.hid hxx; obtain ⟨l1, l2, t0', t1'⟩ := tickV_fit hxx; clear hxx; refine (spec_TickGate b n o f h t T C At Ac ct cc _ _ _ rfl rfl (by omega) (by omega) (by repeat (first | with_reducible exact st6 | with_reducible refine Sl.drew ?_ | with_reducible refine Sl.alloc ?_ _)) (by repeat (first | with_reducible exact sc6 | with_reducible refine Sl.drew ?_ | with_reducible refine Sl.alloc ?_ _)) (t + dt) _ b' n' o' f' h' t' T' C' _ _ rfl HXX.out rfl rfl).mono ?_; rintro e w8 ⟨A1, c1, A2, c2, rfl, o1, o2, hb8⟩; have k8 : wc.grownBy w8 (some g) := grown_below (by repeat (first | with_reducible exact k6 | with_reducible refine grown_drew ?_ | with_reducible refine grown_alloc ?_ _)) hb8; have s8 := BOX.out.grown k8 (by simp; omega); have hr8 : Rd w8 g (N + 4 + 5 * (12 - m) + 5) := Rd.below_ (by repeat (first | with_reducible exact hr6 | with_reducible refine Rd.drew_ ?_ | with_reducible refine Rd.alloc ?_ _)) hb8; have z8 := hb8.size; (try simp only [alloc_size, drew_size] at z8); have k68 : w6.grownBy w8 (some g) := grown_below (by repeat (first | with_reducible exact World.grownBy.refl _ _ | with_reducible refine grown_drew ?_ | with_reducible refine grown_alloc ?_ _)) hb8; have k8b := grownOfBelow hb8 g; (first | (have r1 := newO2 k8b rfl (by simp; omega); have r2 := newI k8b rfl (by simp; omega)) | (have r1 := newO k8b rfl (by simp; omega)) | skip); (try (have q1 := q1.grown k68 (by simp; omega))); (try (obtain ⟨a0, a1, a2, a3, a4, a5⟩ := cells6 q1; obtain ⟨e0, e1, e2, e3, e4, e5⟩ := frees6 q1; have la := q1.lt)); (try (obtain ⟨c0, c1', c2', c3', c4, c5, c6, c7⟩ := gcells q1; obtain ⟨d0, d1, d2, d3, d4, d5, d6, d7⟩ := gfrees q1; have lg := q1.lt)); (try (obtain ⟨a0, a1, a2, a3, a4, a5⟩ := cells6 r1; obtain ⟨e0, e1, e2, e3, e4, e5⟩ := frees6 r1; have la := r1.lt)); (try (obtain ⟨c0, c1', c2', c3', c4, c5, c6, c7⟩ := gcells r1; obtain ⟨d0, d1, d2, d3, d4, d5, d6, d7⟩ := gfrees r1; have lg := r1.lt))))
            all_goals
              try clear hwr
              go_wp2_with fail
              go_meet
              refine meet5 (b' := b') (n' := n') (o' := o') (f' := f') (h' := h') (t' := t') ST.out hzc ?_ ?_ k8 hr8 ?_ l1 l2 t0' t1' o1 o2
              · (first | omega | ((simp only [alloc_size, drew_size]); omega))
              · (repeat (first | (with_reducible exact Agr.refl _ _ _) | (with_reducible refine Agr.drew ?_) | (with_reducible refine Agr.alloc ?_ _) | ((with_reducible refine Agr.eight ?_ ?_ _ _ _ _ _ _ _ _); focus (first | omega | ((simp only [alloc_size, drew_size]); omega))) | ((with_reducible refine Agr.six ?_ ?_ _ _ _ _ _ _); focus (first | omega | ((simp only [alloc_size, drew_size]); omega)))))
              · (repeat (first | (with_reducible assumption) | ((with_reducible refine BlAt.new' ?_); first | with_reducible rfl | (simp only [alloc_size, drew_size, setCell_size]; done) | (simp; done) | rfl) | (with_reducible refine eight0 ?_) | ((with_reducible refine BlAt.far6' ?_ ?_ _ _ _ _ _ _); focus (first | omega | ((simp only [alloc_size, drew_size]); omega))) | (with_reducible refine BlAt.drew ?_) | (with_reducible refine BlAt.alloc ?_ _) | (with_reducible refine BlAt.below_ ?_ hb8) | ((with_reducible refine BlAt.grown' hg6 ?_ ?_); focus (simp; omega))))
          case rest =>
            obtain ⟨g6, r, b', n', o', f', h', t', T', C', At', Ac', ct', cc', rfl, rfl, st6, hb6, l1, l2, h0, h1, o1, o2, n1, n2⟩ := hcut
            have ST6 := Lib.hid st6
            have BG6 := Lib.hid hb6
            have O1 := Lib.hid o1
            have O2 := Lib.hid o2
            have N1 := Lib.hid n1
            have N2 := Lib.hid n2
            have hz6 := st6.bo.lt
            clear st6 hb6 o1 o2 n1 n2 x0 x1 x2 x3 x4 x5 x6 x7 s0 sb BOX OT OC RDX
            cases r
            · go_wp2
              go_roundw
              case rel => exact ⟨m - 1, by omega, by go_num, hz6, b, n, o, f, h, t, T, C, At, Ac, ct, cc, ST6.out.mono (by omega), hC10⟩
              case measure => simp [intOf]; omega
            · have bo6 := ST6.out.bo
              have bb6 := BG6.out
              obtain ⟨x0, x1, x2, x3, x4, x5, x6, x7⟩ := gcells (bb6)
              obtain ⟨y0, y1, y2, y3, y4, y5, y6, y7⟩ := gcells (bo6)
              obtain ⟨q0, q1, q2, q3, q4, q5, q6, q7⟩ := gfrees (bo6)
              clear bo6 bb6
              go_wp2
              go_roundw
              case rel => exact ⟨m - 1, by omega, by go_num, by simpa using hz6, b', n', o', f', h', t', T', C', At', Ac', ct', cc', (ST6.out.over l1 (by omega) h0 h1 O1.out O2.out N1.out N2.out).mono (by omega), l2⟩
              case measure => simp [intOf]; omega
    · have BZ := ST.out.bz
      have BO := ST.out.bo
      obtain ⟨z0, z1, z2, z3, z4, z5, z6, z7⟩ := gcells (BZ)
      obtain ⟨q0, q1, q2, q3, q4, q5, q6, q7⟩ := gfrees (BZ)
      obtain ⟨x0, x1, x2, x3, x4, x5, x6, x7⟩ := gcells (BO)
      clear BZ BO
      go_wp2
      refine bodyPost_ret (v := .agg #[.int .i64 b, .int .i64 n, .int .i64 o, .slice At T.length ct, .slice Ac C.length cc, .int .i64 f, .int .i64 h, .int .i64 t]) (by simp [results, Try.results62, go_sem, z0, z1, z2, z3, z4, z5, z6, z7]) rfl ⟨b, n, o, f, h, t, T, C, At, Ac, ct, cc, rfl, ST.out.lT, hC10, ST.out.t0, ST.out.t1, ?_, ?_, ?_, ?_⟩
      · exact out_eightB ST.out.oT (by omega) _ _ _ _ _ _ _ _
      · exact out_eightB ST.out.oC (by omega) _ _ _ _ _ _ _ _
      · exact ((((((((ST.out.rd.setCell hlt _).setCell hlt _).setCell hlt _).setCell hlt _).setCell hlt _).setCell hlt _).setCell hlt _).setCell hlt _).mono (by omega)
      · have hle : w.heap.size ≤ w.heap.size := Nat.le_refl _
        exact grown_setCell (grown_setCell (grown_setCell (grown_setCell (grown_setCell (grown_setCell (grown_setCell (grown_setCell ST.out.gr (.inr hle) _) (.inr hle) _) (.inr hle) _) (.inr hle) _) (.inr hle) _) (.inr hle) _) (.inr hle) _) (.inr hle) _
end Go.Proofs.Ytlgfmnognhojnaa
