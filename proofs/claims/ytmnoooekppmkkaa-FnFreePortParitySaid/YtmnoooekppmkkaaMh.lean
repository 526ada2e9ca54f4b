/- The draws of tables, walked: the arguments of the statements on tables. -/
import Derived.Test.YtmnoooekppmkkaaMg
import Derived.StillTailTactics
namespace Go.Proofs.Ytmnoooekppmkkaa
open Go.RowKit
theorem Rd.drew_ {w : World} {g N : Nat} (h : Rd w g N) : Rd w.drew g N := h
set_option maxHeartbeats 2000000 in
theorem DrawValidTable_ (A : Option Addr) (c : Nat) (l : List Int) (w : World) (hi : CodeIn w A c l) :
    Calls Try.prog 24 #[.slice A l.length c] w (fun e w' => ∃ (A : Option Addr) (c : Nat) (l : List Mp), e = .returned (.slice A l.length c) ∧ l.length ≤ 10 ∧ Ow encM 4 42 w.heap.size w' A c l ∧ Below w.heap.size w w') := by
  have HI := Lib.hid hi
  clear hi
  go_enter Try.func24, Try.ntmps24
  go_wp2_with fail
  refine (newReader_at _ _ _ w rfl HI.out).mono ?_
  rintro e w2 ⟨rfl, hr, hb, hlt⟩
  have HR := Lib.hid hr
  have HB := Lib.hid hb
  clear hr hb
  go_wp2_with fail
  refine (anyTable_ _ 0 _ (by omega) HR.out).mono ?_
  rintro e w3 ⟨A1, c1, l1, rfl, hl1, ho, hr, hg⟩
  have HR3 := Lib.hid hr
  have HG3 := Lib.hid hg
  have HO3 := Lib.hid ho
  have hz := hg.size
  clear hr hg ho
  have HBB := Lib.hid (below_app HB.out HG3.out (Nat.le_of_lt hlt) (fun g h => by injection h with h; omega))
  go_wp2
  go_ret
  exact ⟨A1, c1, l1, rfl, hl1, HO3.out.base (Nat.le_of_lt hlt), HBB.out⟩
set_option maxHeartbeats 2000000 in
theorem DrawInsideEnd_ (A : Option Addr) (c : Nat) (l : List Int) (w : World) (hi : CodeIn w A c l) :
    Calls Try.prog 27 #[.slice A l.length c] w (fun e w' => ∃ (A : Option Addr) (c : Nat) (l : List Mp) (p : Int), e = .returned (.tuple #[.slice A l.length c, .int .i64 p]) ∧ l.length ≤ 10 ∧ Ow encM 4 42 w.heap.size w' A c l ∧ Below w.heap.size w w') := by
  have HI := Lib.hid hi
  clear hi
  go_enter Try.func27, Try.ntmps27
  go_wp2_with fail
  refine (newReader_at _ _ _ w rfl HI.out).mono ?_
  rintro e w2 ⟨rfl, hr, hb, hlt⟩
  have HR := Lib.hid hr
  have HB := Lib.hid hb
  clear hr hb
  go_wp2_with fail
  refine (anyTable_ _ 0 _ (by omega) HR.out).mono ?_
  rintro e w3 ⟨A1, c1, l1, rfl, hl1, ho, hr, hg⟩
  have HR3 := Lib.hid hr
  have HG3 := Lib.hid hg
  have HO3 := Lib.hid ho
  have hz := hg.size
  clear hr hg ho
  go_wp2_with fail
  refine (pick_ _ _ 10 _ (by omega) (by omega) (by omega) HR3.out).mono ?_
  rintro e w4 ⟨x, rfl, hx0, hx1, hx2, hr, hg⟩
  have hx1 := hx1 (by omega)
  have HR4 := Lib.hid hr
  have HG4 := Lib.hid (grown_trans HG3.out hg (.inl rfl))
  have HO4 := Lib.hid (ow_away HO3.out hg hlt)
  clear hr hg
  have HBB := Lib.hid (below_app HB.out HG4.out (Nat.le_of_lt hlt) (fun g h => by injection h with h; omega))
  go_wp2
  go_ret2
  exact ⟨A1, c1, l1, _, rfl, hl1, HO4.out.base (Nat.le_of_lt hlt), HBB.out⟩
set_option maxHeartbeats 2000000 in
theorem DrawFreePort_ (A : Option Addr) (c : Nat) (l : List Int) (w : World) (hi : CodeIn w A c l) :
    Calls Try.prog 31 #[.slice A l.length c] w (fun e w' => ∃ (A : Option Addr) (c : Nat) (l : List Mp) (p : Int), e = .returned (.tuple #[.slice A l.length c, .int .i64 p]) ∧ l.length ≤ 10 ∧ (-1 ≤ p ∧ p ≤ 65536) ∧ Ow encM 4 42 w.heap.size w' A c l ∧ Below w.heap.size w w') := by
  have HI := Lib.hid hi
  clear hi
  go_enter Try.func31, Try.ntmps31
  go_wp2_with fail
  refine (newReader_at _ _ _ w rfl HI.out).mono ?_
  rintro e w2 ⟨rfl, hr, hb, hlt⟩
  have HR := Lib.hid hr
  have HB := Lib.hid hb
  clear hr hb
  go_wp2_with fail
  refine (anyTable_ _ 0 _ (by omega) HR.out).mono ?_
  rintro e w3 ⟨A1, c1, l1, rfl, hl1, ho, hr, hg⟩
  have HR3 := Lib.hid hr
  have HG3 := Lib.hid hg
  have HO3 := Lib.hid ho
  have hz := hg.size
  clear hr hg ho
  go_wp2_with fail
  refine (one_lit _ _ [1000, 1001, 1003, 80, 81, 1007, 1008, 65535, -1, 65536, 0] rfl (by simp) rfl (by simp) (by simp) (by omega) HR3.out).mono ?_
  rintro e w4 ⟨x, rfl, hx, hr, hg⟩
  have hxx : -1 ≤ x ∧ x ≤ 65536 := by simp at hx; omega
  clear hx
  have HR4 := Lib.hid hr
  have HG4 := Lib.hid (grown_trans HG3.out hg (.inl rfl))
  have HO4 := Lib.hid (ow_away HO3.out hg hlt)
  clear hr hg
  have HBB := Lib.hid (below_app HB.out HG4.out (Nat.le_of_lt hlt) (fun g h => by injection h with h; omega))
  go_wp2
  go_ret2
  exact ⟨A1, c1, l1, x, rfl, hl1, hxx, HO4.out.base (Nat.le_of_lt hlt), HBB.out⟩
set_option maxHeartbeats 4000000 in
theorem DrawOutsidePort_ (A : Option Addr) (c : Nat) (l : List Int) (w : World) (hi : CodeIn w A c l) :
    Calls Try.prog 30 #[.slice A l.length c] w (fun e w' => ∃ (A : Option Addr) (c : Nat) (l : List Mp) (a q : Int), e = .returned (.tuple #[.slice A l.length c, .agg #[.int .i64 a, .int .i64 q]]) ∧ l.length ≤ 10 ∧ Ow encM 4 42 w.heap.size w' A c l ∧ Below w.heap.size w w') := by
  have HI := Lib.hid (hi.below ((Below.refl _ _).alloc (Nat.le_refl _) (.cells #[.int .i64 0, .int .i64 0] 25)))
  have BB := Lib.hid (Bl.lit2 w 0 0 25)
  have HBW := Lib.hid (show Below w.heap.size w (w.alloc (.cells #[.int .i64 0, .int .i64 0] 25)) from (Below.refl _ _).alloc (Nat.le_refl _) _)
  clear hi
  go_enter Try.func30, Try.ntmps30
  go_wp2_with fail
  refine (newReader_at (b := w.heap.size + 1) _ _ _ _ (by simp) HI.out).mono ?_
  rintro e w2 ⟨rfl, hr, hb, hlt⟩
  have HR := Lib.hid hr
  have HB2 := Lib.hid (BB.out.below hb (by omega))
  have HW2 := Lib.hid (HBW.out.trans (hb.mono (by omega)))
  clear hr hb
  go_wp2_with fail
  refine (anyTable_ _ 0 _ (by omega) HR.out).mono ?_
  rintro e w3 ⟨A1, c1, l1, rfl, hl1, ho, hr, hg⟩
  have HR3 := Lib.hid hr
  have HG3 := Lib.hid hg
  have HO3 := Lib.hid ho
  have hz := hg.size
  clear hr hg ho
  by_cases h0 : 0 < l1.length
  · go_wp2_with fail
    refine (pick_ _ _ 2 _ (by omega) (by omega) (by omega) HR3.out).mono ?_
    rintro e w4 ⟨x, rfl, hx0, hx1, _, hr, hg⟩
    have HR4 := Lib.hid hr
    have HG4 := Lib.hid (grown_trans HG3.out hg (.inl rfl))
    have HO4 := Lib.hid (ow_away HO3.out hg hlt)
    have hz4 := hg.size
    clear hr hg
    cases hx : (x == 0)
    · go_wp2_with fail
      refine (someEnd_ _ _ _ (by omega) HR4.out).mono ?_
      rintro e w5 ⟨a, q, rfl, _, _, _, _, hr, hg⟩
      have hg5 := grown_trans HG4.out hg (.inl rfl)
      have HO5 := Lib.hid ((ow_away HO4.out hg hlt).base (Nat.le_of_lt hlt))
      have hbl := HB2.out.grown hg5 (by simp)
      have HB5 := Lib.hid (below_app HW2.out hg5 (by omega) (fun g h => by injection h with h; omega))
      obtain ⟨⟨x0, x1⟩, f0, f1⟩ := hbl.two
      have hz5 := hg5.size
      clear hr hg hg5 hbl
      go_wp2
      refine bodyPost_ret (v := .tuple #[.slice A1 l1.length c1, .agg #[.int .i64 a, .int .i64 q]]) (by simp [results, Try.results30, go_sem, x0, x1]) rfl ⟨A1, c1, l1, a, q, rfl, hl1, ?_, ?_⟩
      · exact ((HO5.out.far (by simp) _).far (by simp) _).base (Nat.le_succ _)
      · exact (HB5.out.setCell (Nat.le_refl _) _).setCell (Nat.le_refl _) _
    · obtain ⟨b, o, rfl, hbs, hcr⟩ := HO4.out.sl.base h0
      have hbg : b ≠ w.heap.size + 1 := by have := (HO4.out.blk b rfl).1; omega
      have hbg' : some b ≠ some (w.heap.size + 1) := by simpa using hbg
      have HC := Lib.hid (fun W (h : w4.grownBy W (some (w.heap.size + 1))) (k : Nat) (a q p t : Int) (hx : l1[k]? = some ⟨a, q, p, t⟩) => Row.mt (B := W.heap.size) (hcr.grown h hbs hbg') (Below.refl _ _) (Nat.lt_of_lt_of_le hbs h.size) hx)
      clear hcr hbg'
      have hbl := HB2.out.grown HG4.out (by simp)
      have HBL := Lib.hid hbl
      clear hbl
      go_wp2_with fail
      go_region_with ((go_at_call 45; refine (pick_ _ _ (l1.length : Int) _ (by omega) (by omega) (by omega) (Rd.drew_ HR4.out)).mono ?_; rintro e w5 ⟨y, rfl, hy0, hy1, _, hr5, hg5⟩; have hy1 := hy1 (by omega); obtain ⟨k, rfl⟩ : ∃ k : Nat, y = (k : Int) := ⟨y.toNat, by omega⟩; have hk5 : w4.grownBy w5 (some (w.heap.size + 1)) := grown_trans (grown_drewN (World.grownBy.refl w4 (some (w.heap.size + 1))) 1) hg5 (.inl rfl); have hkl : k < l1.length := (by omega); obtain ⟨a, q, p, t, hxx⟩ := mt_at hkl; obtain ⟨d0, d1, d2, d3⟩ := HC.out w5 hk5 k a q p t hxx; obtain ⟨⟨y0, y1⟩, f0, f1⟩ := (HBL.out.grown hk5 (by simp)).two; clear hxx hr5))
      have HO5 := Lib.hid ((ow_away HO4.out hk5 hlt).base (Nat.le_of_lt hlt))
      have hg25 := grown_trans HG4.out hk5 (.inl rfl)
      have HB5 := Lib.hid (below_app HW2.out hg25 (by omega) (fun g h => by injection h with h; omega))
      have hz5 := hg25.size
      clear hg25 hk5 hg5
      go_wp2
      refine bodyPost_ret (v := .tuple #[.slice (some ⟨b, o, none⟩) l1.length c1, .agg #[.int .i64 a, .int .i64 q]]) (by simp [results, Try.results30, go_sem, y0, y1]) rfl ⟨some ⟨b, o, none⟩, c1, l1, a, q, rfl, hl1, ?_, ?_⟩
      · exact ((HO5.out.far (by simp) _).far (by simp) _).base (Nat.le_succ _)
      · exact (HB5.out.setCell (Nat.le_refl _) _).setCell (Nat.le_refl _) _
  · go_wp2_with fail
    refine (someEnd_ _ _ _ (by omega) HR3.out).mono ?_
    rintro e w5 ⟨a, q, rfl, _, _, _, _, hr, hg⟩
    have hg5 := grown_trans HG3.out hg (.inl rfl)
    have HO5 := Lib.hid ((ow_away HO3.out hg hlt).base (Nat.le_of_lt hlt))
    have hbl := HB2.out.grown hg5 (by simp)
    have HB5 := Lib.hid (below_app HW2.out hg5 (by omega) (fun g h => by injection h with h; omega))
    obtain ⟨⟨x0, x1⟩, f0, f1⟩ := hbl.two
    have hz5 := hg5.size
    clear hr hg hg5 hbl
    go_wp2
    refine bodyPost_ret (v := .tuple #[.slice A1 l1.length c1, .agg #[.int .i64 a, .int .i64 q]]) (by simp [results, Try.results30, go_sem, x0, x1]) rfl ⟨A1, c1, l1, a, q, rfl, hl1, ?_, ?_⟩
    · exact ((HO5.out.far (by simp) _).far (by simp) _).base (Nat.le_succ _)
    · exact (HB5.out.setCell (Nat.le_refl _) _).setCell (Nat.le_refl _) _
end Go.Proofs.Ytmnoooekppmkkaa
