/- The draws of tables, walked: the arguments of the statements on tables. -/
import Derived.Test.YtpfmlenodgjebaaMg
import Derived.StillTailTactics
namespace Go.Proofs.Ytpfmlenodgjebaa
open Go.RowKit
theorem Rd.drew_ {w : World} {g N : Nat} (h : Rd w g N) : Rd w.drew g N := h
theorem someHold_ (g N : Nat) (w : World) (hN : N ≤ 900000) (hr : Rd w g N) :
    Calls Try.prog 77 #[.pointer (some ⟨g, 0, none⟩)] w (fun e w' => ∃ x : Int, e = .returned (.int .i64 x) ∧ 0 ≤ x ∧ x ≤ 501 ∧ Rd w' g (N + 1) ∧ w.grownBy w' (some g)) := by
  have HR := Lib.hid hr
  clear hr
  go_enter Try.func77, Try.ntmps77
  go_wp2_with fail
  refine (one_lit g N [20, 50, 10, 1, 100, 500, 0, 501] rfl (by simp) rfl (by simp) (by simp) (by omega) HR.out).mono ?_
  rintro e w2 ⟨x, rfl, hx, hr2, hg2⟩
  have hx2 : 0 ≤ x ∧ x ≤ 501 := by simp at hx; omega
  go_wp2
  go_ret
  exact ⟨x, rfl, hx2.1, hx2.2, hr2, hg2⟩
set_option maxHeartbeats 2000000 in
theorem DrawFreePort_ (A : Option Addr) (c : Nat) (l : List Int) (w : World) (hi : CodeIn w A c l) :
    Calls Try.prog 23 #[.slice A l.length c] w (fun e w' => ∃ (A : Option Addr) (c : Nat) (l : List Mp) (p : Int), e = .returned (.tuple #[.slice A l.length c, .int .i64 p]) ∧ l.length ≤ 10 ∧ (-1 ≤ p ∧ p ≤ 65536) ∧ Ow encM 4 37 w.heap.size w' A c l ∧ Below w.heap.size w w') := by
  have HI := Lib.hid hi
  clear hi
  go_enter Try.func23, Try.ntmps23
  go_wp2_with fail
  refine (newReader_at _ _ _ w rfl HI.out).mono ?_
  rintro e w2 ⟨rfl, hr, hb, hlt⟩
  have HR := Lib.hid hr
  have HB := Lib.hid hb
  clear hr hb
  go_wp2_with fail
  refine (anyTable_ _ 0 _ (by omega) HR.out).mono ?_
  rintro e w3 ⟨A1, c1, l1, rfl, hl1, ho, hr, hg⟩
  have HR3 := Lib.hid hr
  have HG3 := Lib.hid hg
  have HO3 := Lib.hid ho
  have hz := hg.size
  clear hr hg ho
  go_wp2_with fail
  refine (one_lit _ _ [1000, 1001, 1003, 80, 81, 1007, 1008, 65535, -1, 65536, 0] rfl (by simp) rfl (by simp) (by simp) (by omega) HR3.out).mono ?_
  rintro e w4 ⟨x, rfl, hx, hr, hg⟩
  have hxx : -1 ≤ x ∧ x ≤ 65536 := by simp at hx; omega
  clear hx
  have HR4 := Lib.hid hr
  have HG4 := Lib.hid (grown_trans HG3.out hg (.inl rfl))
  have HO4 := Lib.hid (ow_away HO3.out hg hlt)
  clear hr hg
  have HBB := Lib.hid (below_app HB.out HG4.out (Nat.le_of_lt hlt) (fun g h => by injection h with h; omega))
  go_wp2
  go_ret2
  exact ⟨A1, c1, l1, x, rfl, hl1, hxx, HO4.out.base (Nat.le_of_lt hlt), HBB.out⟩
set_option maxHeartbeats 2000000 in
theorem DrawNextExpiry_ (A : Option Addr) (c : Nat) (l : List Int) (w : World) (hi : CodeIn w A c l) :
    Calls Try.prog 41 #[.slice A l.length c] w (fun e w' => ∃ (A : Option Addr) (c : Nat) (l : List Mp) (h : Int), e = .returned (.tuple #[.slice A l.length c, .int .i64 h]) ∧ l.length ≤ 10 ∧ (0 ≤ h ∧ h ≤ 501) ∧ Ow encM 4 37 w.heap.size w' A c l ∧ Below w.heap.size w w') := by
  have HI := Lib.hid hi
  clear hi
  go_enter Try.func41, Try.ntmps41
  go_wp2_with fail
  refine (newReader_at _ _ _ w rfl HI.out).mono ?_
  rintro e w2 ⟨rfl, hr, hb, hlt⟩
  have HR := Lib.hid hr
  have HB := Lib.hid hb
  clear hr hb
  go_wp2_with fail
  refine (anyTable_ _ 0 _ (by omega) HR.out).mono ?_
  rintro e w3 ⟨A1, c1, l1, rfl, hl1, ho, hr, hg⟩
  have HR3 := Lib.hid hr
  have HG3 := Lib.hid hg
  have HO3 := Lib.hid ho
  have hz := hg.size
  clear hr hg ho
  go_wp2_with fail
  refine (someHold_ _ _ _ (by omega) HR3.out).mono ?_
  rintro e w4 ⟨x, rfl, hx0, hx1, hr, hg⟩
  have HR4 := Lib.hid hr
  have HG4 := Lib.hid (grown_trans HG3.out hg (.inl rfl))
  have HO4 := Lib.hid (ow_away HO3.out hg hlt)
  clear hr hg
  have HBB := Lib.hid (below_app HB.out HG4.out (Nat.le_of_lt hlt) (fun g h => by injection h with h; omega))
  go_wp2
  go_ret2
  exact ⟨A1, c1, l1, x, rfl, hl1, ⟨hx0, hx1⟩, HO4.out.base (Nat.le_of_lt hlt), HBB.out⟩
set_option maxHeartbeats 2000000 in
theorem DrawExpireTable_ (A : Option Addr) (c : Nat) (l : List Int) (w : World) (hi : CodeIn w A c l) :
    Calls Try.prog 51 #[.slice A l.length c] w (fun e w' => ∃ (A : Option Addr) (c : Nat) (l : List Mp) (n h : Int), e = .returned (.tuple #[.slice A l.length c, .int .i64 n, .int .i64 h]) ∧ l.length ≤ 10 ∧ (-1 ≤ n ∧ n ≤ 10001) ∧ (0 ≤ h ∧ h ≤ 501) ∧ Ow encM 4 37 w.heap.size w' A c l ∧ Below w.heap.size w w') := by
  have HI := Lib.hid hi
  clear hi
  go_enter Try.func51, Try.ntmps51
  go_wp2_with fail
  refine (newReader_at _ _ _ w rfl HI.out).mono ?_
  rintro e w2 ⟨rfl, hr, hb, hlt⟩
  have HR := Lib.hid hr
  have HB := Lib.hid hb
  clear hr hb
  go_wp2_with fail
  refine (anyTable_ _ 0 _ (by omega) HR.out).mono ?_
  rintro e w3 ⟨A1, c1, l1, rfl, hl1, ho, hr, hg⟩
  have HR3 := Lib.hid hr
  have HG3 := Lib.hid hg
  have HO3 := Lib.hid ho
  have hz := hg.size
  clear hr hg ho
  go_wp2_with fail
  refine (one_lit _ _ [50, 100, 80, 0, 10000, 10001, -1, 60] rfl (by simp) rfl (by simp) (by simp) (by omega) HR3.out).mono ?_
  rintro e w4 ⟨n, rfl, hn, hr, hg⟩
  have hnn : -1 ≤ n ∧ n ≤ 10001 := by simp at hn; omega
  clear hn
  have HR4 := Lib.hid hr
  have HG4 := Lib.hid (grown_trans HG3.out hg (.inl rfl))
  have HO4 := Lib.hid (ow_away HO3.out hg hlt)
  clear hr hg
  go_wp2_with fail
  refine (someHold_ _ _ _ (by omega) HR4.out).mono ?_
  rintro e w5 ⟨x, rfl, hx0, hx1, hr, hg⟩
  have HR5 := Lib.hid hr
  have HG5 := Lib.hid (grown_trans HG4.out hg (.inl rfl))
  have HO5 := Lib.hid (ow_away HO4.out hg hlt)
  clear hr hg
  have HBB := Lib.hid (below_app HB.out HG5.out (Nat.le_of_lt hlt) (fun g h => by injection h with h; omega))
  go_wp2
  go_ret3
  exact ⟨A1, c1, l1, n, x, rfl, hl1, hnn, ⟨hx0, hx1⟩, HO5.out.base (Nat.le_of_lt hlt), HBB.out⟩
theorem DrawExpiredPorts_ (A : Option Addr) (c : Nat) (l : List Int) (w : World) (hi : CodeIn w A c l) :
    Calls Try.prog 52 #[.slice A l.length c] w (fun e w' => ∃ (A : Option Addr) (c : Nat) (l : List Mp) (n h : Int), e = .returned (.tuple #[.slice A l.length c, .int .i64 n, .int .i64 h]) ∧ l.length ≤ 10 ∧ (-1 ≤ n ∧ n ≤ 10001) ∧ (0 ≤ h ∧ h ≤ 501) ∧ Ow encM 4 37 w.heap.size w' A c l ∧ Below w.heap.size w w') := by
  have HI := Lib.hid hi
  clear hi
  go_enter Try.func52, Try.ntmps52
  go_wp2_with fail
  refine (DrawExpireTable_ _ _ _ w HI.out).mono ?_
  rintro e w2 ⟨A1, c1, l1, n, x, rfl, h1, h2, h3, h4, h5⟩
  have H4 := Lib.hid h4
  have H5 := Lib.hid h5
  clear h4 h5
  go_wp2
  go_ret3
  exact ⟨A1, c1, l1, n, x, rfl, h1, h2, h3, H4.out, H5.out⟩
set_option maxHeartbeats 2000000 in
theorem DrawTouchPort_ (A : Option Addr) (c : Nat) (l : List Int) (w : World) (hi : CodeIn w A c l) :
    Calls Try.prog 48 #[.slice A l.length c] w (fun e w' => ∃ (A : Option Addr) (c : Nat) (l : List Mp) (p n : Int), e = .returned (.tuple #[.slice A l.length c, .int .i64 p, .int .i64 n]) ∧ l.length ≤ 10 ∧ (0 ≤ n ∧ n ≤ 10001) ∧ Ow encM 4 37 w.heap.size w' A c l ∧ Below w.heap.size w w') := by
  have HI := Lib.hid hi
  clear hi
  go_enter Try.func48, Try.ntmps48
  go_wp2_with fail
  refine (newReader_at _ _ _ w rfl HI.out).mono ?_
  rintro e w2 ⟨rfl, hr, hb, hlt⟩
  have HR := Lib.hid hr
  have HB := Lib.hid hb
  clear hr hb
  go_wp2_with fail
  refine (anyTable_ _ 0 _ (by omega) HR.out).mono ?_
  rintro e w3 ⟨A1, c1, l1, rfl, hl1, ho, hr, hg⟩
  have HR3 := Lib.hid hr
  have HG3 := Lib.hid hg
  have HO3 := Lib.hid ho
  have hz := hg.size
  clear hr hg ho
  go_wp2_with fail
  refine (pick_ _ _ 6 _ (by omega) (by omega) (by omega) HR3.out).mono ?_
  rintro e w4 ⟨x, rfl, hx0, hx1, hx2, hr, hg⟩
  have hx1 := hx1 (by omega)
  have HR4 := Lib.hid hr
  have HG4 := Lib.hid (grown_trans HG3.out hg (.inl rfl))
  have HO4 := Lib.hid (ow_away HO3.out hg hlt)
  clear hr hg
  go_wp2_with fail
  refine (one_lit _ _ [0, 50, 100, 10000, 10001, 200] rfl (by simp) rfl (by simp) (by simp) (by omega) HR4.out).mono ?_
  rintro e w5 ⟨n, rfl, hn, hr, hg⟩
  have hnn : 0 ≤ n ∧ n ≤ 10001 := by simp at hn; omega
  clear hn
  have HR5 := Lib.hid hr
  have HG5 := Lib.hid (grown_trans HG4.out hg (.inl rfl))
  have HO5 := Lib.hid (ow_away HO4.out hg hlt)
  clear hr hg
  have HBB := Lib.hid (below_app HB.out HG5.out (Nat.le_of_lt hlt) (fun g h => by injection h with h; omega))
  go_wp2
  go_ret3
  exact ⟨A1, c1, l1, _, n, rfl, hl1, hnn, HO5.out.base (Nat.le_of_lt hlt), HBB.out⟩
set_option maxHeartbeats 4000000 in
theorem DrawOutsidePort_ (A : Option Addr) (c : Nat) (l : List Int) (w : World) (hi : CodeIn w A c l) :
    Calls Try.prog 68 #[.slice A l.length c] w (fun e w' => ∃ (A : Option Addr) (c : Nat) (l : List Mp) (a q : Int), e = .returned (.tuple #[.slice A l.length c, .agg #[.int .i64 a, .int .i64 q]]) ∧ l.length ≤ 10 ∧ Ow encM 4 37 w.heap.size w' A c l ∧ Below w.heap.size w w') := by
  have HI := Lib.hid (hi.below ((Below.refl _ _).alloc (Nat.le_refl _) (.cells #[.int .i64 0, .int .i64 0] 28)))
  have BB := Lib.hid (Bl.lit2 w 0 0 28)
  have HBW := Lib.hid (show Below w.heap.size w (w.alloc (.cells #[.int .i64 0, .int .i64 0] 28)) from (Below.refl _ _).alloc (Nat.le_refl _) _)
  clear hi
  go_enter Try.func68, Try.ntmps68
  go_wp2_with fail
  refine (newReader_at (b := w.heap.size + 1) _ _ _ _ (by simp) HI.out).mono ?_
  rintro e w2 ⟨rfl, hr, hb, hlt⟩
  have HR := Lib.hid hr
  have HB2 := Lib.hid (BB.out.below hb (by omega))
  have HW2 := Lib.hid (HBW.out.trans (hb.mono (by omega)))
  clear hr hb
  go_wp2_with fail
  refine (anyTable_ _ 0 _ (by omega) HR.out).mono ?_
  rintro e w3 ⟨A1, c1, l1, rfl, hl1, ho, hr, hg⟩
  have HR3 := Lib.hid hr
  have HG3 := Lib.hid hg
  have HO3 := Lib.hid ho
  have hz := hg.size
  clear hr hg ho
  by_cases h0 : 0 < l1.length
  · go_wp2_with fail
    refine (pick_ _ _ 2 _ (by omega) (by omega) (by omega) HR3.out).mono ?_
    rintro e w4 ⟨x, rfl, hx0, hx1, _, hr, hg⟩
    have HR4 := Lib.hid hr
    have HG4 := Lib.hid (grown_trans HG3.out hg (.inl rfl))
    have HO4 := Lib.hid (ow_away HO3.out hg hlt)
    have hz4 := hg.size
    clear hr hg
    cases hx : (x == 0)
    · go_wp2_with fail
      refine (someEnd_ _ _ _ (by omega) HR4.out).mono ?_
      rintro e w5 ⟨a, q, rfl, _, _, _, _, hr, hg⟩
      have hg5 := grown_trans HG4.out hg (.inl rfl)
      have HO5 := Lib.hid ((ow_away HO4.out hg hlt).base (Nat.le_of_lt hlt))
      have hbl := HB2.out.grown hg5 (by simp)
      have HB5 := Lib.hid (below_app HW2.out hg5 (by omega) (fun g h => by injection h with h; omega))
      obtain ⟨⟨x0, x1⟩, f0, f1⟩ := hbl.two
      have hz5 := hg5.size
      clear hr hg hg5 hbl
      go_wp2
      refine bodyPost_ret (v := .tuple #[.slice A1 l1.length c1, .agg #[.int .i64 a, .int .i64 q]]) (by simp [results, Try.results68, go_sem, x0, x1]) rfl ⟨A1, c1, l1, a, q, rfl, hl1, ?_, ?_⟩
      · exact ((HO5.out.far (by simp) _).far (by simp) _).base (Nat.le_succ _)
      · exact (HB5.out.setCell (Nat.le_refl _) _).setCell (Nat.le_refl _) _
    · obtain ⟨b, o, rfl, hbs, hcr⟩ := HO4.out.sl.base h0
      have hbg : b ≠ w.heap.size + 1 := by have := (HO4.out.blk b rfl).1; omega
      have hbg' : some b ≠ some (w.heap.size + 1) := by simpa using hbg
      have HC := Lib.hid (fun W (h : w4.grownBy W (some (w.heap.size + 1))) (k : Nat) (a q p t : Int) (hx : l1[k]? = some ⟨a, q, p, t⟩) => Row.mt (B := W.heap.size) (hcr.grown h hbs hbg') (Below.refl _ _) (Nat.lt_of_lt_of_le hbs h.size) hx)
      clear hcr hbg'
      have hbl := HB2.out.grown HG4.out (by simp)
      have HBL := Lib.hid hbl
      clear hbl
      go_wp2_with fail
      go_region_with ((go_at_call 69; refine (pick_ _ _ (l1.length : Int) _ (by omega) (by omega) (by omega) (Rd.drew_ HR4.out)).mono ?_; rintro e w5 ⟨y, rfl, hy0, hy1, _, hr5, hg5⟩; have hy1 := hy1 (by omega); obtain ⟨k, rfl⟩ : ∃ k : Nat, y = (k : Int) := ⟨y.toNat, by omega⟩; have hk5 : w4.grownBy w5 (some (w.heap.size + 1)) := grown_trans (grown_drewN (World.grownBy.refl w4 (some (w.heap.size + 1))) 1) hg5 (.inl rfl); have hkl : k < l1.length := (by omega); obtain ⟨a, q, p, t, hxx⟩ := mt_at hkl; obtain ⟨d0, d1, d2, d3⟩ := HC.out w5 hk5 k a q p t hxx; obtain ⟨⟨y0, y1⟩, f0, f1⟩ := (HBL.out.grown hk5 (by simp)).two; clear hxx hr5))
      have HO5 := Lib.hid ((ow_away HO4.out hk5 hlt).base (Nat.le_of_lt hlt))
      have hg25 := grown_trans HG4.out hk5 (.inl rfl)
      have HB5 := Lib.hid (below_app HW2.out hg25 (by omega) (fun g h => by injection h with h; omega))
      have hz5 := hg25.size
      clear hg25 hk5 hg5
      go_wp2
      refine bodyPost_ret (v := .tuple #[.slice (some ⟨b, o, none⟩) l1.length c1, .agg #[.int .i64 a, .int .i64 q]]) (by simp [results, Try.results68, go_sem, y0, y1]) rfl ⟨some ⟨b, o, none⟩, c1, l1, a, q, rfl, hl1, ?_, ?_⟩
      · exact ((HO5.out.far (by simp) _).far (by simp) _).base (Nat.le_succ _)
      · exact (HB5.out.setCell (Nat.le_refl _) _).setCell (Nat.le_refl _) _
  · go_wp2_with fail
    refine (someEnd_ _ _ _ (by omega) HR3.out).mono ?_
    rintro e w5 ⟨a, q, rfl, _, _, _, _, hr, hg⟩
    have hg5 := grown_trans HG3.out hg (.inl rfl)
    have HO5 := Lib.hid ((ow_away HO3.out hg hlt).base (Nat.le_of_lt hlt))
    have hbl := HB2.out.grown hg5 (by simp)
    have HB5 := Lib.hid (below_app HW2.out hg5 (by omega) (fun g h => by injection h with h; omega))
    obtain ⟨⟨x0, x1⟩, f0, f1⟩ := hbl.two
    have hz5 := hg5.size
    clear hr hg hg5 hbl
    go_wp2
    refine bodyPost_ret (v := .tuple #[.slice A1 l1.length c1, .agg #[.int .i64 a, .int .i64 q]]) (by simp [results, Try.results68, go_sem, x0, x1]) rfl ⟨A1, c1, l1, a, q, rfl, hl1, ?_, ?_⟩
    · exact ((HO5.out.far (by simp) _).far (by simp) _).base (Nat.le_succ _)
    · exact (HB5.out.setCell (Nat.le_refl _) _).setCell (Nat.le_refl _) _
end Go.Proofs.Ytpfmlenodgjebaa
