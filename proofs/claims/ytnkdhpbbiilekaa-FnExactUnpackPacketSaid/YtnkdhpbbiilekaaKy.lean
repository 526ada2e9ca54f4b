/- What the exact walks on packets need besides: where a slice lies, marks, contracts with both outcomes in one. -/
import Derived.Test.YtnkdhpbbiilekaaKx
import Derived.Test.YtnkdhpbbiilekaaKv
namespace Go.Proofs.Ytnkdhpbbiilekaa
open Go.RowKit
theorem Out.span {α : Type} {enc : α → List Value} {k B c : Nat} {w : World} {A : Option Addr} {l : List α} (h : Out enc k B w A c l) : ∀ g, Go.Proofs.Ytnkdhpbbiilekaa.blk A = some g → l ≠ [] → B ≤ g ∧ g < w.heap.size := by
  intro g hg hne
  have h0 : 0 < l.length := List.length_pos_iff.2 hne
  refine ⟨h.2.blkB h0 g hg, ?_⟩
  obtain ⟨b, o, rfl, hb, _⟩ := h.1.base h0
  simp [Go.Proofs.Ytnkdhpbbiilekaa.blk] at hg
  omega
theorem Out.grownM {α : Type} {enc : α → List Value} {k B c : Nat} {w w' : World} {A : Option Addr} {l : List α} {row : Option Nat} (h : Out enc k B w A c l) (hg : w.grownBy w' row) (hne : ∀ g, Go.Proofs.Ytnkdhpbbiilekaa.blk A = some g → l ≠ [] → row ≠ some g) : Out enc k B w' A c l := by
  rcases Nat.eq_zero_or_pos l.length with h0 | h0
  · obtain rfl := List.eq_nil_of_length_eq_zero h0
    exact ⟨Sl.nil h.1.1, Fr.nil⟩
  · obtain ⟨b, o, rfl, hb, hrow⟩ := h.1.base h0
    have hb2 := hne b rfl (List.ne_nil_of_length_pos h0)
    have hbb := hg.block b hb (fun e => hb2 e.symm)
    refine ⟨⟨h.1.1, fun _ => ⟨b, o, rfl, Nat.lt_of_lt_of_le hb hg.size, hrow.grown hg hb (fun e => hb2 e.symm)⟩⟩, fun hn => ?_⟩
    obtain ⟨b', o', e, hB, _, hf⟩ := h.2 hn
    injection e with e
    injection e with e1 e2
    subst e1
    subst e2
    exact ⟨b, o, rfl, hB, Nat.lt_of_lt_of_le hb hg.size, fun q => by rw [← hf q]; unfold World.frozen?; rw [hbb]⟩
theorem markZ {A : Option Addr} {c n B : Nat} {l : List Int} {w : World} {k : Int} (hn : n = l.length) (hl : l.length ≤ 4000000) (hk0 : 0 ≤ k) (hk1 : k ≤ 100000000) (h : Out encI 1 B w A c l) :
    Calls Try.prog 33 #[.slice A n c, .int .i64 k] w (fun e w' => e = .returned (.int .i64 (k + n)) ∧ Sl encI 1 w' A c (markI k n) ∧ ∃ row, w.grownBy w' row ∧ ∀ g, row = some g → Go.Proofs.Ytnkdhpbbiilekaa.blk A = some g ∧ l ≠ []) := by
  rcases Nat.eq_zero_or_pos l.length with h0 | h0
  · rw [hn, h0]
    refine (laws_markIntS0 w).mono ?_
    rintro e w' ⟨rfl, rfl⟩
    exact ⟨by simp, Sl.nil, none, World.grownBy.refl _ _, by simp⟩
  · refine (markIn hn hl hk0 hk1 h.1 h.2).mono ?_
    rintro e w' ⟨rfl, h1, row, h2, h3⟩
    exact ⟨rfl, h1, row, h2, fun g hg => ⟨(h3 g hg).2, List.ne_nil_of_length_pos h0⟩⟩
theorem markPk {k fa fp ta tp : Int} {A : Option Addr} {c n B : Nat} {d : List Int} {q : Int} {w : World} (hn : n = d.length) (hl : d.length ≤ 4000000) (hk0 : 0 ≤ q) (hk1 : q ≤ 100000000) (h : Out encI 1 B w A c d) :
    Calls Try.prog 26 #[.agg #[.int .i64 k, .int .i64 fa, .int .i64 fp, .int .i64 ta, .int .i64 tp, .slice A n c], .int .i64 q] w (fun e w' => e = .returned (.int .i64 (q + n)) ∧ Sl encI 1 w' A c (markI q n) ∧ ∃ row, w.grownBy w' row ∧ ∀ g, row = some g → Go.Proofs.Ytnkdhpbbiilekaa.blk A = some g ∧ d ≠ []) := by
  subst hn
  have hb0 := (Below.refl w.heap.size w).alloc (Nat.le_refl _) (.cells #[.int .i64 k, .int .i64 fa, .int .i64 fp, .int .i64 ta, .int .i64 tp, .slice A d.length c] 27)
  have HO := Lib.hid (h.below hb0)
  clear h hb0
  go_enter Try.func26, Try.ntmps26
  go_wp2_with (first | (go_at_call 33; refine (markZ rfl hl hk0 hk1 HO.out).mono ?_; rintro e w' ⟨rfl, h1, row, hg, hr⟩))
  go_ret
  exact ⟨rfl, h1, row, grown_trans (grown_alloc (World.grownBy.refl _ _) _) hg (.inl rfl), hr⟩
section
variable {k fa fp ta tp k' fa' fp' ta' tp' : Int} {d D : List Int} {A : Option Addr} {c n m : Nat} {w : World} {r : Bool}
theorem impl_RVU (hr : okPk ⟨k, fa, fp, ta, tp, d⟩ = r) (hx : revV ⟨k, fa, fp, ta, tp, d⟩ = ⟨k', fa', fp', ta', tp', D⟩) (hm : D.length = m) (hn : n = d.length) (hl : d.length ≤ 2000000) (hs : Sl encI 1 w A c d) :
    Calls Try.prog 16 #[.agg #[.int .i64 k, .int .i64 fa, .int .i64 fp, .int .i64 ta, .int .i64 tp, .slice A n c]] w (fun e w' => ∃ A' c', e = .returned (.tuple #[.agg #[.int .i64 k', .int .i64 fa', .int .i64 fp', .int .i64 ta', .int .i64 tp', .slice A' m c'], .bool r]) ∧ Out encI 1 w.heap.size w' A' c' D ∧ Below w.heap.size w w') := by
  unfold revV at hx
  rw [hr] at hx
  subst hm
  cases r
  · simp only [Bool.false_eq_true, if_false, zeroPk, Pk.mk.injEq] at hx
    obtain ⟨rfl, rfl, rfl, rfl, rfl, rfl⟩ := hx
    refine (impl_ReversePacket_bad k fa fp ta tp d A c n w hn hl hs hr).mono ?_
    rintro e w' ⟨rfl, hb⟩
    exact ⟨none, 0, rfl, ⟨Sl.nil, Fr.nil⟩, hb⟩
  · simp only [if_true, swapPk, Pk.mk.injEq] at hx
    obtain ⟨rfl, rfl, rfl, rfl, rfl, rfl⟩ := hx
    refine (impl_ReversePacket_ok k fa fp ta tp d A c n w hn hl hs hr).mono ?_
    rintro e w' ⟨A', rfl, ho, hb⟩
    subst hn
    exact ⟨A', _, rfl, ho, hb⟩
theorem spec_RVU (hr : okPk ⟨k, fa, fp, ta, tp, d⟩ = r) (hx : revV ⟨k, fa, fp, ta, tp, d⟩ = ⟨k', fa', fp', ta', tp', D⟩) (hm : D.length = m) (hn : n = d.length) (hl : d.length ≤ 2000000) (hs : Sl encI 1 w A c d) :
    Calls Try.prog 17 #[.agg #[.int .i64 k, .int .i64 fa, .int .i64 fp, .int .i64 ta, .int .i64 tp, .slice A n c]] w (fun e w' => ∃ A' c', e = .returned (.tuple #[.agg #[.int .i64 k', .int .i64 fa', .int .i64 fp', .int .i64 ta', .int .i64 tp', .slice A' m c'], .bool r]) ∧ Out encI 1 w.heap.size w' A' c' D ∧ Below w.heap.size w w') := by
  unfold revV at hx
  rw [hr] at hx
  subst hm
  cases r
  · simp only [Bool.false_eq_true, if_false, zeroPk, Pk.mk.injEq] at hx
    obtain ⟨rfl, rfl, rfl, rfl, rfl, rfl⟩ := hx
    refine (spec_ReversePacket_bad k fa fp ta tp d A c n w hn hl hs hr).mono ?_
    rintro e w' ⟨rfl, hb⟩
    exact ⟨none, 0, rfl, ⟨Sl.nil, Fr.nil⟩, hb⟩
  · simp only [if_true, swapPk, Pk.mk.injEq] at hx
    obtain ⟨rfl, rfl, rfl, rfl, rfl, rfl⟩ := hx
    refine (spec_ReversePacket_ok k fa fp ta tp d A c n w hn hl hs hr).mono ?_
    rintro e w' ⟨A', c', rfl, ho, hb⟩
    subst hn
    exact ⟨A', c', rfl, ho.out, hb⟩
end
section
variable {k fa fp ta tp : Int} {l D : List Int} {A : Option Addr} {c n m : Nat} {w : World} {r : Bool}
theorem impl_UPU (ho : unpackO l = r) (hx : unpackP l = ⟨k, fa, fp, ta, tp, D⟩) (hm : D.length = m) (hn : n = l.length) (hl : l.length ≤ 2000000) (hcm : c ≤ 9223372036854775807) (hs : Sl encI 1 w A c l) :
    Calls Try.prog 35 #[.slice A n c] w (fun e w' => ∃ A' c', e = .returned (.tuple #[.agg #[.int .i64 k, .int .i64 fa, .int .i64 fp, .int .i64 ta, .int .i64 tp, .slice A' m c'], .bool r]) ∧ Out encI 1 w.heap.size w' A' c' D ∧ Below w.heap.size w w') := by
  cases r
  · unfold unpackP at hx
    rw [ho] at hx
    simp only [Bool.false_eq_true, if_false, zeroPk, Pk.mk.injEq] at hx
    obtain ⟨rfl, rfl, rfl, rfl, rfl, rfl⟩ := hx
    subst hm
    refine (impl_UP0 ho hn hl hcm hs).mono ?_
    rintro e w' ⟨rfl, hb⟩
    exact ⟨none, 0, rfl, ⟨Sl.nil, Fr.nil⟩, hb⟩
  · exact impl_UP1 ho hx hm hn hl hcm hs
theorem spec_UPU (ho : unpackO l = r) (hx : unpackP l = ⟨k, fa, fp, ta, tp, D⟩) (hm : D.length = m) (hn : n = l.length) (hl : l.length ≤ 2000000) (hcm : c ≤ 9223372036854775807) (hs : Sl encI 1 w A c l) :
    Calls Try.prog 37 #[.slice A n c] w (fun e w' => ∃ A' c', e = .returned (.tuple #[.agg #[.int .i64 k, .int .i64 fa, .int .i64 fp, .int .i64 ta, .int .i64 tp, .slice A' m c'], .bool r]) ∧ Out encI 1 w.heap.size w' A' c' D ∧ Below w.heap.size w w') := by
  cases r
  · unfold unpackP at hx
    rw [ho] at hx
    simp only [Bool.false_eq_true, if_false, zeroPk, Pk.mk.injEq] at hx
    obtain ⟨rfl, rfl, rfl, rfl, rfl, rfl⟩ := hx
    subst hm
    refine (spec_UP0 ho hn hl hcm hs).mono ?_
    rintro e w' ⟨rfl, hb⟩
    exact ⟨none, 0, rfl, ⟨Sl.nil, Fr.nil⟩, hb⟩
  · exact spec_UP1 ho hx hm hn hl hcm hs
end
theorem unpackP_len (l : List Int) : (unpackP l).d.length ≤ l.length := by
  unfold unpackP
  split
  · unfold mkPk
    show (l.drop 6).length ≤ l.length
    rw [List.length_drop]
    omega
  · exact Nat.zero_le _
end Go.Proofs.Ytnkdhpbbiilekaa
