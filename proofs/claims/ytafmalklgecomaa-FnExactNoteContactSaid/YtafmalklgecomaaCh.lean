/- The draws of contacts, walked: the arguments of the statements on contacts. -/
import Derived.Test.YtafmalklgecomaaCg
import Derived.StillTailTactics
namespace Go.Proofs.Ytafmalklgecomaa
open Go.RowKit
theorem ow_away {α : Type} {enc : α → List Value} {k : Nat} {e : TypeId} {B c g : Nat} {w w' : World} {A : Option Addr} {l : List α} (h : Ow enc k e B w A c l) (hg : w.grownBy w' (some g)) (hlt : g < B) : Ow enc k e B w' A c l := h.grown hg (by
  rcases h1 : blk A with _ | b
  · exact .inl rfl
  · refine .inr ?_
    have := (h.blk b h1).1
    intro e; injection e with e; omega)
theorem Ow.far {α : Type} {enc : α → List Value} {k : Nat} {e : TypeId} {B c : Nat} {w : World} {A : Option Addr} {l : List α} (h : Ow enc k e B w A c l) {p : Addr} (hp : p.block < B) (u : Value) : Ow enc k e B (w.setCell p u) A c l :=
  h.of_heap fun g hg => Below.heap_setCell _ _ _ _ (by have := (h.blk g hg).1; omega)
theorem Ow.far2 {α : Type} {enc : α → List Value} {k : Nat} {e : TypeId} {B c : Nat} {w : World} {A : Option Addr} {l : List α} (h : Ow enc k e B w A c l) {p : Addr} (hp : ∀ g, Go.Proofs.Ytafmalklgecomaa.blk A = some g → p.block ≠ g) (u : Value) : Ow enc k e B (w.setCell p u) A c l :=
  h.of_heap fun g hg => Below.heap_setCell _ _ _ _ (hp g hg).symm
theorem DrawValidContacts_ (A : Option Addr) (c : Nat) (l : List Int) (w : World) (hi : CodeIn w A c l) :
    Calls Try.prog 17 #[.slice A l.length c] w (fun e w' => ∃ (A : Option Addr) (c : Nat) (l : List Ct), e = .returned (.slice A l.length c) ∧ l.length ≤ 12 ∧ Ow encC 3 29 w.heap.size w' A c l ∧ Below w.heap.size w w') := by
  have HI := Lib.hid hi
  clear hi
  go_enter Try.func17, Try.ntmps17
  go_wp2_with fail
  refine (newReader_at _ _ _ w rfl HI.out).mono ?_
  rintro e w2 ⟨rfl, hr, hb, hlt⟩
  have HR := Lib.hid hr
  have HB := Lib.hid hb
  clear hr hb
  go_wp2_with fail
  refine (someContacts_ _ 0 _ (by omega) HR.out).mono ?_
  rintro e w3 ⟨A1, c1, l1, rfl, hl1, ho, hr, hg⟩
  go_wp2
  go_ret
  exact ⟨A1, c1, l1, rfl, hl1, ho.base (Nat.le_of_lt hlt), below_app HB.out hg (Nat.le_of_lt hlt) (fun g h => by injection h with h; omega)⟩
theorem DrawDropContacts_ (A : Option Addr) (c : Nat) (l : List Int) (w : World) (hi : CodeIn w A c l) :
    Calls Try.prog 31 #[.slice A l.length c] w (fun e w' => ∃ (A : Option Addr) (c : Nat) (l : List Ct) (p : Int), e = .returned (.tuple #[.slice A l.length c, .int .i64 p]) ∧ l.length ≤ 12 ∧ Ow encC 3 29 w.heap.size w' A c l ∧ Below w.heap.size w w') := by
  have HI := Lib.hid hi
  clear hi
  go_enter Try.func31, Try.ntmps31
  go_wp2_with fail
  refine (newReader_at _ _ _ w rfl HI.out).mono ?_
  rintro e w2 ⟨rfl, hr, hb, hlt⟩
  have HR := Lib.hid hr
  have HB := Lib.hid hb
  clear hr hb
  go_wp2_with fail
  refine (someContacts_ _ 0 _ (by omega) HR.out).mono ?_
  rintro e w3 ⟨A1, c1, l1, rfl, hl1, ho, hr, hg⟩
  have HR3 := Lib.hid hr
  have HG := Lib.hid hg
  have HO := Lib.hid ho
  have hz := hg.size
  clear hr hg ho
  go_wp2_with fail
  refine (pick_ _ _ 5 _ (by omega) (by omega) (by omega) HR3.out).mono ?_
  rintro e w4 ⟨x, rfl, hx0, hx1, hx2, hr4, hg4⟩
  have hx1 := hx1 (by omega)
  have ho4 : Ow encC 3 29 w2.heap.size w4 A1 c1 l1 := ow_away HO.out hg4 hlt
  have hbb := below_app HB.out (grown_trans HG.out hg4 (.inl rfl)) (Nat.le_of_lt hlt) (fun g h => by injection h with h; omega)
  have HB4 := Lib.hid hbb
  have HO4 := Lib.hid ho4
  clear hr4 hg4 hbb ho4
  go_wp2
  go_ret2
  exact ⟨A1, c1, l1, _, rfl, hl1, HO4.out.base (Nat.le_of_lt hlt), HB4.out⟩
set_option maxHeartbeats 2000000 in
theorem DrawLetsIn_ (A : Option Addr) (c : Nat) (l : List Int) (w : World) (hi : CodeIn w A c l) :
    Calls Try.prog 26 #[.slice A l.length c] w (fun e w' => ∃ (A : Option Addr) (c : Nat) (l : List Ct) (k p a q : Int), e = .returned (.tuple #[.int .i64 k, .slice A l.length c, .int .i64 p, .agg #[.int .i64 a, .int .i64 q]]) ∧ l.length ≤ 12 ∧ Ow encC 3 29 w.heap.size w' A c l ∧ Below w.heap.size w w') := by
  have HI := Lib.hid (hi.below ((Below.refl _ _).alloc (Nat.le_refl _) (.cells #[.int .i64 0, .int .i64 0] 27)))
  clear hi
  have BB := Lib.hid (Bl.lit2 w 0 0 27)
  have hbw : Below w.heap.size w (w.alloc (.cells #[.int .i64 0, .int .i64 0] 27)) := (Below.refl _ _).alloc (Nat.le_refl _) _
  have HBW := Lib.hid hbw
  clear hbw
  go_enter Try.func26, Try.ntmps26
  go_wp2_with fail
  refine (newReader_at (b := w.heap.size + 1) _ _ _ _ (by simp) HI.out).mono ?_
  rintro e w2 ⟨rfl, hr, hb, hlt⟩
  have HR := Lib.hid hr
  have HB2 := Lib.hid (BB.out.below hb (by omega))
  have HW2 := Lib.hid (HBW.out.trans (hb.mono (by omega)))
  clear hr hb
  go_wp2_with fail
  refine (someContacts_ _ 0 _ (by omega) HR.out).mono ?_
  rintro e w3 ⟨A1, c1, l1, rfl, hl1, ho, hr, hg⟩
  have HR3 := Lib.hid hr
  have HG := Lib.hid hg
  have HO := Lib.hid ho
  have hz := hg.size
  clear hr hg ho
  go_wp2_with fail
  refine (one_lit _ _ [0, 1, 2, 1, 2, 3, -1] rfl (by simp) rfl (by simp) (by simp) (by omega) HR3.out).mono ?_
  rintro e w4 ⟨k, rfl, _, hr4, hg4⟩
  have HR4 := Lib.hid hr4
  have HG4 := Lib.hid hg4
  clear hr4 hg4
  go_wp2_with fail
  refine (pick_ _ _ 4 _ (by omega) (by omega) (by omega) HR4.out).mono ?_
  rintro e w5 ⟨x, rfl, hx0, hx1, hx2, hr5, hg5⟩
  have hx1 := hx1 (by omega)
  have HR5 := Lib.hid hr5
  have HG5 := Lib.hid (grown_trans HG4.out hg5 (.inl rfl))
  clear hr5 hg5
  go_wp2_with fail
  refine (one_lit _ _ [5000, 7000, 7001, 9] rfl (by simp) rfl (by simp) (by simp) (by omega) HR5.out).mono ?_
  rintro e w6 ⟨a, rfl, _, hr6, hg6⟩
  have HR6 := Lib.hid hr6
  have HG6 := Lib.hid (grown_trans HG5.out hg6 (.inl rfl))
  clear hr6 hg6
  go_wp2_with fail
  refine (one_lit _ _ [80, 443, 9] rfl (by simp) rfl (by simp) (by simp) (by omega) HR6.out).mono ?_
  rintro e w7 ⟨q, rfl, _, hr7, hg7⟩
  have hg37 := grown_trans HG6.out hg7 (.inl rfl)
  have hg27 := grown_trans HG.out hg37 (.inl rfl)
  have ho7 := ow_away HO.out hg37 hlt
  have hbl := HB2.out.grown hg27 (by simp)
  have hz7 := hg27.size
  have hb7 : Below w.heap.size w w7 := below_app HW2.out hg27 (by omega) (fun g h => by injection h with h; omega)
  obtain ⟨⟨x0, x1⟩, f0, f1⟩ := hbl.two
  have HO7 := Lib.hid ho7
  have HB7 := Lib.hid hb7
  clear hr7 hg7 hg37 hg27 ho7 hbl hb7
  go_wp2
  refine bodyPost_ret (v := .tuple #[.int .i64 k, .slice A1 l1.length c1, .int .i64 (1000 + x), .agg #[.int .i64 a, .int .i64 q]]) (by simp [results, Try.results26, go_sem, x0, x1]) rfl ⟨A1, c1, l1, k, 1000 + x, a, q, rfl, hl1, ?_, ?_⟩
  · exact ((HO7.out.far (by simp; omega) _).far (by simp; omega) _).base (Nat.le_of_lt (by omega))
  · exact (HB7.out.setCell (Nat.le_refl _) _).setCell (Nat.le_refl _) _
set_option maxHeartbeats 2000000 in
theorem DrawNoteContact_ (A : Option Addr) (c : Nat) (l : List Int) (w : World) (hi : CodeIn w A c l) :
    Calls Try.prog 27 #[.slice A l.length c] w (fun e w' => ∃ (A : Option Addr) (c : Nat) (l : List Ct) (p a q : Int), e = .returned (.tuple #[.slice A l.length c, .agg #[.int .i64 p, .int .i64 a, .int .i64 q]]) ∧ l.length ≤ 12 ∧ Ow encC 3 29 w.heap.size w' A c l ∧ Below w.heap.size w w') := by
  have HI := Lib.hid (hi.below ((Below.refl _ _).alloc (Nat.le_refl _) (.cells #[.int .i64 0, .int .i64 0, .int .i64 0] 29)))
  clear hi
  have BB := Lib.hid (blC w 0 0 0)
  have hbw : Below w.heap.size w (w.alloc (.cells #[.int .i64 0, .int .i64 0, .int .i64 0] 29)) := (Below.refl _ _).alloc (Nat.le_refl _) _
  have HBW := Lib.hid hbw
  clear hbw
  go_enter Try.func27, Try.ntmps27
  go_wp2_with fail
  refine (newReader_at (b := w.heap.size + 1) _ _ _ _ (by simp) HI.out).mono ?_
  rintro e w2 ⟨rfl, hr, hb, hlt⟩
  have HR := Lib.hid hr
  have HB2 := Lib.hid (BB.out.below hb (by omega))
  have HW2 := Lib.hid (HBW.out.trans (hb.mono (by omega)))
  clear hr hb
  go_wp2_with fail
  refine (someContacts_ _ 0 _ (by omega) HR.out).mono ?_
  rintro e w3 ⟨A1, c1, l1, rfl, hl1, ho, hr, hg⟩
  have HR3 := Lib.hid hr
  have HG := Lib.hid hg
  have HO := Lib.hid ho
  have hz := hg.size
  clear hr hg ho
  go_wp2_with fail
  refine (pick_ _ _ 4 _ (by omega) (by omega) (by omega) HR3.out).mono ?_
  rintro e w4 ⟨x, rfl, hx0, hx1, hx2, hr4, hg4⟩
  have hx1 := hx1 (by omega)
  have HR4 := Lib.hid hr4
  have HG4 := Lib.hid hg4
  clear hr4 hg4
  go_wp2_with fail
  refine (one_lit _ _ [5000, 7000, 9] rfl (by simp) rfl (by simp) (by simp) (by omega) HR4.out).mono ?_
  rintro e w6 ⟨a, rfl, _, hr6, hg6⟩
  have HR6 := Lib.hid hr6
  have HG6 := Lib.hid (grown_trans HG4.out hg6 (.inl rfl))
  clear hr6 hg6
  go_wp2_with fail
  refine (one_lit _ _ [80, 443] rfl (by simp) rfl (by simp) (by simp) (by omega) HR6.out).mono ?_
  rintro e w7 ⟨q, rfl, _, hr7, hg7⟩
  have HR7 := Lib.hid hr7
  have HG7 := Lib.hid (grown_trans HG6.out hg7 (.inl rfl))
  clear hr7 hg7
  have B7 := Lib.hid (blC w7 (1000 + x) a q)
  go_wp2_with fail
  refine (pick_ _ _ 10 _ (by omega) (by omega) (by omega) (HR7.out.alloc _)).mono ?_
  rintro e w8 ⟨y, rfl, hy0, hy1, hy2, hr8, hg8⟩
  have hz37 := HG7.out.size
  have b8 := B7.out.grown hg8 (by simp; omega)
  have hg38 := grown_trans (grown_alloc HG7.out _) hg8 (.inl rfl)
  have B8 := Lib.hid b8
  have HR8 := Lib.hid hr8
  have HG8 := Lib.hid hg38
  clear hr8 hg8 hg38
  cases hy : (y == 0)
  · obtain ⟨⟨e0, e1, e2⟩, _⟩ := b8.ct3
    have ho8 := ow_away HO.out HG8.out hlt
    have hg28 := grown_trans HG.out HG8.out (.inl rfl)
    have hbl := HB2.out.grown hg28 (by simp)
    have hb8 : Below w.heap.size w w8 := below_app HW2.out hg28 (by omega) (fun g h => by injection h with h; omega)
    obtain ⟨⟨x0, x1, x2⟩, f0, f1, f2⟩ := hbl.ct3
    have HO8 := Lib.hid ho8
    have HB8 := Lib.hid hb8
    have hz8 := hg28.size
    clear b8 hg28 ho8 hbl hb8
    go_wp2
    go_still_tail 3, (by kernel_rfl)
    change wpList _ _ _ _ _ w8.drew
    go_wp2
    refine bodyPost_ret (v := .tuple #[.slice A1 l1.length c1, .agg #[.int .i64 (1000 + x), .int .i64 a, .int .i64 q]]) (by simp [results, Try.results27, go_sem, x0, x1, x2]) rfl ⟨A1, c1, l1, 1000 + x, a, q, rfl, hl1, ?_, ?_⟩
    · exact (((HO8.out.drew.far (by simp; omega) _).far (by simp; omega) _).far (by simp; omega) _).base (Nat.le_of_lt (by omega))
    · exact ((HB8.out.drew.setCell (Nat.le_refl _) _).setCell (Nat.le_refl _) _).setCell (Nat.le_refl _) _
  · obtain ⟨⟨e0, e1, e2⟩, _⟩ := b8.ct3
    clear b8
    go_wp2_with fail
    refine (badContact_ _ _ _ _ _ _ (by omega) HR8.out).mono ?_
    rintro e w9 ⟨⟨p', a', q'⟩, rfl, _, hg9⟩
    have b9 := B8.out.grown hg9 (by simp; omega)
    obtain ⟨⟨e0, e1, e2⟩, h0, h1, h2⟩ := b9.ct3
    have hg39 := grown_trans HG8.out hg9 (.inl rfl)
    have ho8 := ow_away HO.out hg39 hlt
    have hg28 := grown_trans HG.out hg39 (.inl rfl)
    have hbl := HB2.out.grown hg28 (by simp)
    have hb8 : Below w.heap.size w w9 := below_app HW2.out hg28 (by omega) (fun g h => by injection h with h; omega)
    have hz8 := hg28.size
    have hz9 := hg9.size
    have hz37 := HG7.out.size
    have ne1 : w7.heap.size ≠ w.heap.size := by omega
    obtain ⟨wa, hwa⟩ : ∃ x, x = ((w9.setCell ⟨w7.heap.size, 0, none⟩ (.int .i64 p')).setCell ⟨w7.heap.size, 1, none⟩ (.int .i64 a')).setCell ⟨w7.heap.size, 2, none⟩ (.int .i64 q') := ⟨_, rfl⟩
    have hne : ∀ g, blk A1 = some g → w7.heap.size ≠ g := fun g hg => by have := (HO.out.blk g hg).2; omega
    have HO8 := Lib.hid (show Ow encC 3 29 w2.heap.size wa A1 c1 l1 by subst hwa; exact ((ho8.far2 hne _).far2 hne _).far2 hne _)
    have hz : w.heap.size ≤ w7.heap.size := by omega
    have HB8 := Lib.hid (show Below w.heap.size w wa by subst hwa; exact (((hb8.setCell hz _).setCell hz _).setCell hz _))
    have hbl2 : Bl encC 3 29 wa w.heap.size 3 [⟨0, 0, 0⟩] := by subst hwa; exact ((hbl.far ne1 _).far ne1 _).far ne1 _
    have bl7 : Bl encC 3 29 wa w7.heap.size 3 [⟨p', a', q'⟩] := by
      subst hwa
      have := b9.store3 (i := 0) rfl p' a' q'
      simpa using this
    obtain ⟨⟨x0, x1, x2⟩, f0, f1, f2⟩ := hbl2.ct3
    obtain ⟨⟨y0, y1, y2⟩, _⟩ := bl7.ct3
    have WA := Lib.hid hwa
    clear hwa b9 hg28 ho8 hbl hb8 hg9 hg39 hbl2 bl7
    go_wp2
    rw [← WA.out]
    clear e0 e1 e2 h0 h1 h2
    go_still_tail 3, (by kernel_rfl)
    change wpList _ _ _ _ _ wa.drew
    go_wp2
    refine bodyPost_ret (v := .tuple #[.slice A1 l1.length c1, .agg #[.int .i64 p', .int .i64 a', .int .i64 q']]) (by simp [results, Try.results27, go_sem, x0, x1, x2]) rfl ⟨A1, c1, l1, p', a', q', rfl, hl1, ?_, ?_⟩
    · exact (((HO8.out.drew.far (by simp; omega) _).far (by simp; omega) _).far (by simp; omega) _).base (Nat.le_of_lt (by omega))
    · exact ((HB8.out.drew.setCell (Nat.le_refl _) _).setCell (Nat.le_refl _) _).setCell (Nat.le_refl _) _
end Go.Proofs.Ytafmalklgecomaa
