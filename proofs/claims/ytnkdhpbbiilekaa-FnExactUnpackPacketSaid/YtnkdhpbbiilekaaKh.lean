/- Any packet; the draws of packets, walked. -/
import Derived.Test.YtnkdhpbbiilekaaKg
namespace Go.Proofs.Ytnkdhpbbiilekaa
open Go.RowKit
set_option maxHeartbeats 2000000 in
theorem anyPacket_ (g N : Nat) (w : World) (hN : N ≤ 400000) (hr : Rd w g N) :
    Calls Try.prog 41 #[.pointer (some ⟨g, 0, none⟩)] w (fun e w' => ∃ (k fa fp ta tp : Int) (A : Option Addr) (c : Nat) (d : List Int), e = .returned (.agg #[.int .i64 k, .int .i64 fa, .int .i64 fp, .int .i64 ta, .int .i64 tp, .slice A d.length c]) ∧ d.length ≤ 13 ∧ Ow encI 1 3 (w.heap.size + 1) w' A c d ∧ Rd w' g (N + 110) ∧ w.grownBy w' (some g)) := by
  have hlt := hr.lt
  obtain ⟨wa, hwa⟩ : ∃ y, y = w.alloc (.cells #[.int .i64 0, .int .i64 0, .int .i64 0, .int .i64 0, .int .i64 0, .slice none 0 0] 27) := ⟨_, rfl⟩
  have hza : wa.heap.size = w.heap.size + 1 := by subst hwa; exact alloc_size _ _
  have ra : Rd wa g N := by subst hwa; exact hr.alloc _
  have pa : PkAt wa w.heap.size 0 0 0 0 0 (.slice none 0 0) := by subst hwa; exact PkAt.new _ _ _ _ _ _ _ _
  have ga : w.grownBy wa (some g) := by subst hwa; exact grown_alloc (World.grownBy.refl _ _) _
  have RA := Lib.hid ra
  have PA := Lib.hid pa
  have GA := Lib.hid ga
  have HZA := Lib.hid hza
  have WA := Lib.hid hwa
  clear hwa hza ra pa ga hr
  go_enter Try.func41, Try.ntmps41
  go_wp2_with fail
  rw [← WA.out]
  refine (somePacket_ g N _ (by omega) RA.out).mono ?_
  rintro e w1 ⟨k, fa, fp, ta, tp, A1, c1, d, rfl, hok, ho1, hr1, hg1⟩
  have hd12 : d.length ≤ 12 := (okPk_iff.1 hok).2.2.2.1
  have z1 := hg1.size
  have hz1 : w.heap.size < w1.heap.size := by have := HZA.out; omega
  obtain ⟨w2, hw2⟩ : ∃ y, y = w1.alloc (.cells #[.int .i64 k, .int .i64 fa, .int .i64 fp, .int .i64 ta, .int .i64 tp, .slice A1 d.length c1] 27) := ⟨_, rfl⟩
  have z2 : w2.heap.size = w1.heap.size + 1 := by subst hw2; exact alloc_size _ _
  have hne1 : blk A1 ≠ some w1.heap.size := fun e => by have := (ho1.blk _ e).2; omega
  have R2 := Lib.hid (show Rd w2 g (N + 100) by subst hw2; exact hr1.alloc _)
  have G2 := Lib.hid (show w.grownBy w2 (some g) by subst hw2; exact grown_alloc (grown_trans GA.out hg1 (.inl rfl)) _)
  have P2 := Lib.hid (show PkAt w2 w.heap.size 0 0 0 0 0 (.slice none 0 0) by subst hw2; exact (PA.out.grown hg1 (by simp; omega)).alloc _)
  have Q2 := Lib.hid (show PkAt w2 w1.heap.size k fa fp ta tp (.slice A1 d.length c1) by subst hw2; exact PkAt.new _ _ _ _ _ _ _ _)
  have O2 := Lib.hid (show Ow encI 1 3 (w.heap.size + 1) w2 A1 c1 d by subst hw2; exact (ho1.alloc _).base (by have := HZA.out; omega))
  have W2 := Lib.hid hw2
  have HZ2 := Lib.hid z2
  clear hr1 hg1 hw2 ho1 hok z2
  go_wp2_with fail
  rw [← W2.out]
  refine (pick_ g (N + 100) 24 _ (by omega) (by omega) (by omega) R2.out).mono ?_
  rintro e w3 ⟨x, rfl, hx0, _, _, hr3, hg3⟩
  have z3 := hg3.size
  have hz3 : w1.heap.size < w3.heap.size := by have := HZ2.out; omega
  have R3 := Lib.hid hr3
  have G3 := Lib.hid (grown_trans G2.out hg3 (.inl rfl))
  have P3 := Lib.hid (P2.out.grown hg3 (by simp; omega))
  have Q3 := Lib.hid (Q2.out.grown hg3 (by simp; omega))
  have O3 := Lib.hid (ow_away O2.out hg3 (by omega))
  have hb23 : w1.heap.size ≠ w.heap.size := by omega
  clear hr3 hg3
  by_cases e0 : x = 0
  · subst e0
    go_wp2_with fail
    refine (one_lit _ _ [-1, 3] rfl rfl rfl (by simp) (by simp) (by omega) R3.out).mono ?_
    rintro e w4 ⟨y, rfl, _, hr4, hg4⟩
    have z4 := hg4.size
    have Q4 := Q3.out.grown hg4 (by simp; omega)
    have P4 := P3.out.grown hg4 (by simp; omega)
    have OF := Lib.hid (ow_one (ow_away O3.out hg4 (by omega)) hne1 0 (.int .i64 y))
    have RF := Lib.hid (hr4.setCell (p := ⟨w1.heap.size, 0, none⟩) (by simp; omega) (.int .i64 y))
    have GF := Lib.hid (grown_setCell (p := ⟨w1.heap.size, 0, none⟩) (grown_trans G3.out hg4 (.inl rfl)) (.inr (by simp; omega)) (.int .i64 y))
    obtain ⟨y0, y1, y2, y3, y4, y5⟩ := Q4.cells
    have q0 := Q4.free 0
    obtain ⟨x0, x1, x2, x3, x4, x5⟩ := P4.cells
    obtain ⟨f0, f1, f2, f3, f4, f5⟩ := P4.frees
    clear hr4 hg4 Q4 P4
    go_wp2
    refine bodyPost_ret (v := .agg #[.int .i64 y, .int .i64 fa, .int .i64 fp, .int .i64 ta, .int .i64 tp, .slice A1 d.length c1]) (by simp [results, Try.results41, go_sem, x0, x1, x2, x3, x4, x5, y0, y1, y2, y3, y4, y5, hb23]) rfl ⟨y, fa, fp, ta, tp, A1, c1, d, rfl, by omega, ?_, ?_, ?_⟩
    · exact (ow_six OF.out (fun e => by have := (OF.out.blk _ e).1; omega) _ _ _ _ _ _)
    · exact (RF.out.six hlt _ _ _ _ _ _).mono (by omega)
    · exact grown_six GF.out (Nat.le_refl _) _ _ _ _ _ _
  by_cases e1 : x = 1
  · subst e1
    go_wp2_with fail
    refine (one_lit _ _ [-1, 65536] rfl rfl rfl (by simp) (by simp) (by omega) R3.out).mono ?_
    rintro e w4 ⟨y, rfl, _, hr4, hg4⟩
    have z4 := hg4.size
    have Q4 := Q3.out.grown hg4 (by simp; omega)
    have P4 := P3.out.grown hg4 (by simp; omega)
    have OF := Lib.hid (ow_one (ow_away O3.out hg4 (by omega)) hne1 2 (.int .i64 y))
    have RF := Lib.hid (hr4.setCell (p := ⟨w1.heap.size, 2, none⟩) (by simp; omega) (.int .i64 y))
    have GF := Lib.hid (grown_setCell (p := ⟨w1.heap.size, 2, none⟩) (grown_trans G3.out hg4 (.inl rfl)) (.inr (by simp; omega)) (.int .i64 y))
    obtain ⟨y0, y1, y2, y3, y4, y5⟩ := Q4.cells
    have q2 := Q4.free 2
    obtain ⟨x0, x1, x2, x3, x4, x5⟩ := P4.cells
    obtain ⟨f0, f1, f2, f3, f4, f5⟩ := P4.frees
    clear hr4 hg4 Q4 P4
    go_wp2
    refine bodyPost_ret (v := .agg #[.int .i64 k, .int .i64 fa, .int .i64 y, .int .i64 ta, .int .i64 tp, .slice A1 d.length c1]) (by simp [results, Try.results41, go_sem, x0, x1, x2, x3, x4, x5, y0, y1, y2, y3, y4, y5, hb23]) rfl ⟨k, fa, y, ta, tp, A1, c1, d, rfl, by omega, ?_, ?_, ?_⟩
    · exact (ow_six OF.out (fun e => by have := (OF.out.blk _ e).1; omega) _ _ _ _ _ _)
    · exact (RF.out.six hlt _ _ _ _ _ _).mono (by omega)
    · exact grown_six GF.out (Nat.le_refl _) _ _ _ _ _ _
  by_cases e2 : x = 2
  · subst e2
    obtain ⟨y0, y1, y2, y3, y4, y5⟩ := Q3.out.cells
    clear y0 y1 y2 y3 y4
    go_wp2_with fail
    refine (spec_copyInts _ _ _ d _ rfl (by omega) O3.out.sl).mono ?_
    rintro e w4 ⟨A4, c4, rfl, ho4, hb4⟩
    have z4 := hb4.size
    have R4 := Lib.hid (R3.out.below_ hb4)
    have Q4 := Lib.hid (Q3.out.below_ hb4)
    have P4 := Lib.hid (P3.out.below_ hb4)
    have G4 := Lib.hid (grown_below G3.out hb4)
    have O4 := Lib.hid ho4
    clear y5 ho4 hb4
    go_wp2_with fail
    refine (one_lit _ _ [-1, 65536] rfl rfl rfl (by simp) (by simp) (by omega) R4.out).mono ?_
    rintro e w5 ⟨y, rfl, _, hr5, hg5⟩
    have z5 := hg5.size
    have hA4 : ∀ q, q < w3.heap.size → blk A4 ≠ some q := fun q hq e => by have := (O4.out.blk q e).1; omega
    have R5 := Lib.hid hr5
    have Q5 := Lib.hid (Q4.out.grown hg5 (by simp; omega))
    have P5 := Lib.hid (P4.out.grown hg5 (by simp; omega))
    have G5 := Lib.hid (grown_trans G4.out hg5 (.inl rfl))
    have O5 := Lib.hid (ow_away O4.out hg5 (by omega))
    clear hr5 hg5
    go_wp2_with (with_reducible refine wpList_app elI rfl (.tmp 25) (.tmp 29) rfl w3.heap.size _ _ _ d rfl rfl (O5.out.alloc _) _ _ _ [y] rfl rfl (blI w5 y).sl ?c1 (by decide) ?c2 ?_)
    case c1 => first | omega | (simp; omega)
    case c2 => first | omega | (simp; omega)
    intro A9 c9 w9 hown9 hg9 _
    have z9 := hg9.size
    rw [alloc_size] at z9
    have hA9 : ∀ q, q < w3.heap.size → blk A9 ≠ some q := fun q hq e => by have := (hown9.blk q e).1; omega
    have Q9 := (Q5.out.alloc (.cells #[.int .i64 y] 3)).grown hg9 (fun e => hA4 _ hz3 e.symm)
    have P9 := (P5.out.alloc (.cells #[.int .i64 y] 3)).grown hg9 (fun e => hA4 _ (by omega) e.symm)
    have OF := Lib.hid (ow_one (hown9.base (show w.heap.size + 1 ≤ w3.heap.size by omega)) (hA9 _ hz3) 5 (.slice A9 (d ++ [y]).length c9))
    have RF := Lib.hid (((R5.out.alloc (.cells #[.int .i64 y] 3)).grown hg9 (fun r hr => by have := (O4.out.blk r hr).1; omega)).setCell (p := ⟨w1.heap.size, 5, none⟩) (by simp; omega) (.slice A9 (d ++ [y]).length c9))
    have GF := Lib.hid (grown_setCell (p := ⟨w1.heap.size, 5, none⟩) (grown_trans (grown_alloc G5.out (.cells #[.int .i64 y] 3)) hg9 (.inr (fun q hq => by have := (O4.out.blk q hq).1; omega))) (.inr (by simp; omega)) (.slice A9 (d ++ [y]).length c9))
    have hdl : (d ++ [y]).length = d.length + 1 := by simp
    rw [hdl] at OF RF GF
    obtain ⟨y0, y1, y2, y3, y4, y5⟩ := Q9.cells
    have q5 := Q9.free 5
    obtain ⟨x0, x1, x2, x3, x4, x5⟩ := P9.cells
    obtain ⟨f0, f1, f2, f3, f4, f5⟩ := P9.frees
    clear hg9 hown9 Q9 P9
    go_wp2
    refine bodyPost_ret (v := .agg #[.int .i64 k, .int .i64 fa, .int .i64 fp, .int .i64 ta, .int .i64 tp, .slice A9 (d.length + 1) c9]) (by simp [results, Try.results41, go_sem, x0, x1, x2, x3, x4, x5, y0, y1, y2, y3, y4, y5, hb23]) rfl ⟨k, fa, fp, ta, tp, A9, c9, (d ++ [y]), by rw [hdl], by rw [hdl]; omega, ?_, ?_, ?_⟩
    · exact (ow_six OF.out (fun e => by have := (OF.out.blk _ e).1; omega) _ _ _ _ _ _)
    · exact (RF.out.six hlt _ _ _ _ _ _).mono (by omega)
    · exact grown_six GF.out (Nat.le_refl _) _ _ _ _ _ _
  by_cases e3 : x = 3
  · subst e3
    go_wp2_with (at_make; refine wpList_mk elI rfl _ _ rfl w3.heap.size 13 rfl rfl (by omega) (by decide) (Nat.le_refl _) ?_; intro w4 hown hgrow; have z4 := hgrow.size; have hb4 : Below w3.heap.size w3 w4 := below_of_grown hgrow (by intro g h; cases h); have Q4 := Q3.out.below_ hb4; have P4 := P3.out.below_ hb4; have OF := Lib.hid (ow_one (hown.base (show w.heap.size + 1 ≤ w3.heap.size by omega)) (b := w1.heap.size) (by simp [blk]; omega) 5 (.slice (some ⟨w3.heap.size, 0, none⟩) 13 13)); have RF := Lib.hid ((R3.out.below_ hb4).setCell (p := ⟨w1.heap.size, 5, none⟩) (by simp; omega) (.slice (some ⟨w3.heap.size, 0, none⟩) 13 13)); have GF := Lib.hid (grown_setCell (p := ⟨w1.heap.size, 5, none⟩) (grown_below G3.out hb4) (.inr (by simp; omega)) (.slice (some ⟨w3.heap.size, 0, none⟩) 13 13)); obtain ⟨y0, y1, y2, y3, y4, y5⟩ := Q4.cells; have q5 := Q4.free 5; obtain ⟨x0, x1, x2, x3, x4, x5⟩ := P4.cells; obtain ⟨f0, f1, f2, f3, f4, f5⟩ := P4.frees; clear hown hgrow hb4 Q4 P4)
    go_wp2
    refine bodyPost_ret (v := .agg #[.int .i64 k, .int .i64 fa, .int .i64 fp, .int .i64 ta, .int .i64 tp, .slice (some ⟨w3.heap.size, 0, none⟩) 13 13]) (by simp [results, Try.results41, go_sem, x0, x1, x2, x3, x4, x5, y0, y1, y2, y3, y4, y5, hb23]) rfl ⟨k, fa, fp, ta, tp, (some ⟨w3.heap.size, 0, none⟩), 13, (List.replicate 13 0), rfl, by simp, ?_, ?_, ?_⟩
    · exact (ow_six OF.out (fun e => by have := (OF.out.blk _ e).1; omega) _ _ _ _ _ _)
    · exact (RF.out.six hlt _ _ _ _ _ _).mono (by omega)
    · exact grown_six GF.out (Nat.le_refl _) _ _ _ _ _ _
  obtain ⟨y0, y1, y2, y3, y4, y5⟩ := Q3.out.cells
  obtain ⟨x0, x1, x2, x3, x4, x5⟩ := P3.out.cells
  obtain ⟨f0, f1, f2, f3, f4, f5⟩ := P3.out.frees
  have OF := O3
  have RF := R3
  have GF := G3
  have n0 : (x == 0) = false := by simpa using e0
  have n1 : (x == 1) = false := by simpa using e1
  have n2 : (x == 2) = false := by simpa using e2
  have n3 : (x == 3) = false := by simpa using e3
  go_wp2
  refine bodyPost_ret (v := .agg #[.int .i64 k, .int .i64 fa, .int .i64 fp, .int .i64 ta, .int .i64 tp, .slice A1 d.length c1]) (by simp [results, Try.results41, go_sem, x0, x1, x2, x3, x4, x5, y0, y1, y2, y3, y4, y5, hb23]) rfl ⟨k, fa, fp, ta, tp, A1, c1, d, rfl, by omega, ?_, ?_, ?_⟩
  · exact (ow_six OF.out (fun e => by have := (OF.out.blk _ e).1; omega) _ _ _ _ _ _)
  · exact (RF.out.six hlt _ _ _ _ _ _).mono (by omega)
  · exact grown_six GF.out (Nat.le_refl _) _ _ _ _ _ _
set_option maxHeartbeats 1000000 in
theorem DrawPackPacket_ (A : Option Addr) (c : Nat) (l : List Int) (w : World) (hi : CodeIn w A c l) :
    Calls Try.prog 28 #[.slice A l.length c] w (fun e w' => ∃ (k fa fp ta tp : Int) (A : Option Addr) (c : Nat) (d : List Int), e = .returned (.agg #[.int .i64 k, .int .i64 fa, .int .i64 fp, .int .i64 ta, .int .i64 tp, .slice A d.length c]) ∧ d.length ≤ 13 ∧ Ow encI 1 3 w.heap.size w' A c d ∧ Below w.heap.size w w') := by
  obtain ⟨wa, hwa⟩ : ∃ y, y = w.alloc (.cells #[.int .i64 0, .int .i64 0, .int .i64 0, .int .i64 0, .int .i64 0, .slice none 0 0] 27) := ⟨_, rfl⟩
  have hza : wa.heap.size = w.heap.size + 1 := by subst hwa; exact alloc_size _ _
  have ba : Below w.heap.size w wa := by subst hwa; exact (Below.refl _ _).alloc (Nat.le_refl _) _
  have pa : PkAt wa w.heap.size 0 0 0 0 0 (.slice none 0 0) := by subst hwa; exact PkAt.new _ _ _ _ _ _ _ _
  have IA := Lib.hid (hi.below ba)
  have PA := Lib.hid pa
  have BA := Lib.hid ba
  have HZA := Lib.hid hza
  have WA := Lib.hid hwa
  clear hwa hza pa ba hi
  go_enter Try.func28, Try.ntmps28
  go_wp2_with fail
  rw [← WA.out]
  refine (newReader_at _ _ _ wa rfl IA.out).mono ?_
  rintro e w2 ⟨rfl, hr, hb, hlt⟩
  have HZ := Lib.hid hlt
  have R2 := Lib.hid hr
  have P2 := Lib.hid (PA.out.below hb (by have := HZA.out; omega))
  have B2 := Lib.hid (BA.out.trans (hb.mono BA.out.size))
  clear hr hb
  go_wp2_with fail
  refine (anyPacket_ _ 0 _ (by omega) R2.out).mono ?_
  rintro e w3 ⟨k, fa, fp, ta, tp, A1, c1, d, rfl, hd, ho, hr, hg⟩
  have hzz := HZA.out
  have hg2 := hg.size
  have PF := P2.out.grown hg (by simp; omega)
  have O3 := Lib.hid (ho.base (show w.heap.size + 1 ≤ w2.heap.size + 1 by omega))
  have B3 := Lib.hid (below_app B2.out hg (by omega) (fun g h => by injection h with h; omega))
  obtain ⟨x0, x1, x2, x3, x4, x5⟩ := PF.cells
  obtain ⟨f0, f1, f2, f3, f4, f5⟩ := PF.frees
  clear PF hr hg ho hzz
  go_wp2
  refine bodyPost_ret (v := .agg #[.int .i64 k, .int .i64 fa, .int .i64 fp, .int .i64 ta, .int .i64 tp, .slice A1 d.length c1]) (by simp [results, Try.results28, go_sem, x0, x1, x2, x3, x4, x5]) rfl ⟨k, fa, fp, ta, tp, A1, c1, d, rfl, hd, ?_, ?_⟩
  · exact (ow_six O3.out (fun e => by have := (O3.out.blk _ e).1; omega) _ _ _ _ _ _).base (Nat.le_succ _)
  · exact below_six B3.out (Nat.le_refl _) _ _ _ _ _ _
set_option maxHeartbeats 1000000 in
theorem DrawReversePacket_ (A : Option Addr) (c : Nat) (l : List Int) (w : World) (hi : CodeIn w A c l) :
    Calls Try.prog 15 #[.slice A l.length c] w (fun e w' => ∃ (k fa fp ta tp : Int) (A : Option Addr) (c : Nat) (d : List Int), e = .returned (.agg #[.int .i64 k, .int .i64 fa, .int .i64 fp, .int .i64 ta, .int .i64 tp, .slice A d.length c]) ∧ d.length ≤ 13 ∧ Ow encI 1 3 w.heap.size w' A c d ∧ Below w.heap.size w w') := by
  obtain ⟨wa, hwa⟩ : ∃ y, y = w.alloc (.cells #[.int .i64 0, .int .i64 0, .int .i64 0, .int .i64 0, .int .i64 0, .slice none 0 0] 27) := ⟨_, rfl⟩
  have hza : wa.heap.size = w.heap.size + 1 := by subst hwa; exact alloc_size _ _
  have ba : Below w.heap.size w wa := by subst hwa; exact (Below.refl _ _).alloc (Nat.le_refl _) _
  have pa : PkAt wa w.heap.size 0 0 0 0 0 (.slice none 0 0) := by subst hwa; exact PkAt.new _ _ _ _ _ _ _ _
  have IA := Lib.hid (hi.below ba)
  have PA := Lib.hid pa
  have BA := Lib.hid ba
  have HZA := Lib.hid hza
  have WA := Lib.hid hwa
  clear hwa hza pa ba hi
  go_enter Try.func15, Try.ntmps15
  go_wp2_with fail
  rw [← WA.out]
  refine (newReader_at _ _ _ wa rfl IA.out).mono ?_
  rintro e w2 ⟨rfl, hr, hb, hlt⟩
  have HZ := Lib.hid hlt
  have R2 := Lib.hid hr
  have P2 := Lib.hid (PA.out.below hb (by have := HZA.out; omega))
  have B2 := Lib.hid (BA.out.trans (hb.mono BA.out.size))
  clear hr hb
  go_wp2_with fail
  refine (anyPacket_ _ 0 _ (by omega) R2.out).mono ?_
  rintro e w3 ⟨k, fa, fp, ta, tp, A1, c1, d, rfl, hd, ho, hr, hg⟩
  have hzz := HZA.out
  have hg2 := hg.size
  have PF := P2.out.grown hg (by simp; omega)
  have O3 := Lib.hid (ho.base (show w.heap.size + 1 ≤ w2.heap.size + 1 by omega))
  have B3 := Lib.hid (below_app B2.out hg (by omega) (fun g h => by injection h with h; omega))
  obtain ⟨x0, x1, x2, x3, x4, x5⟩ := PF.cells
  obtain ⟨f0, f1, f2, f3, f4, f5⟩ := PF.frees
  clear PF hr hg ho hzz
  go_wp2
  refine bodyPost_ret (v := .agg #[.int .i64 k, .int .i64 fa, .int .i64 fp, .int .i64 ta, .int .i64 tp, .slice A1 d.length c1]) (by simp [results, Try.results15, go_sem, x0, x1, x2, x3, x4, x5]) rfl ⟨k, fa, fp, ta, tp, A1, c1, d, rfl, hd, ?_, ?_⟩
  · exact (ow_six O3.out (fun e => by have := (O3.out.blk _ e).1; omega) _ _ _ _ _ _).base (Nat.le_succ _)
  · exact below_six B3.out (Nat.le_refl _) _ _ _ _ _ _
set_option maxHeartbeats 1000000 in
theorem DrawPacketCheck_ (A : Option Addr) (c : Nat) (l : List Int) (w : World) (hi : CodeIn w A c l) :
    Calls Try.prog 19 #[.slice A l.length c] w (fun e w' => ∃ (k fa fp ta tp : Int) (A : Option Addr) (c : Nat) (d : List Int), e = .returned (.agg #[.int .i64 k, .int .i64 fa, .int .i64 fp, .int .i64 ta, .int .i64 tp, .slice A d.length c]) ∧ d.length ≤ 13 ∧ Ow encI 1 3 w.heap.size w' A c d ∧ Below w.heap.size w w') := by
  obtain ⟨wa, hwa⟩ : ∃ y, y = w.alloc (.cells #[.int .i64 0, .int .i64 0, .int .i64 0, .int .i64 0, .int .i64 0, .slice none 0 0] 27) := ⟨_, rfl⟩
  have hza : wa.heap.size = w.heap.size + 1 := by subst hwa; exact alloc_size _ _
  have ba : Below w.heap.size w wa := by subst hwa; exact (Below.refl _ _).alloc (Nat.le_refl _) _
  have pa : PkAt wa w.heap.size 0 0 0 0 0 (.slice none 0 0) := by subst hwa; exact PkAt.new _ _ _ _ _ _ _ _
  have IA := Lib.hid (hi.below ba)
  have PA := Lib.hid pa
  have BA := Lib.hid ba
  have HZA := Lib.hid hza
  have WA := Lib.hid hwa
  clear hwa hza pa ba hi
  go_enter Try.func19, Try.ntmps19
  go_wp2_with fail
  rw [← WA.out]
  refine (newReader_at _ _ _ wa rfl IA.out).mono ?_
  rintro e w2 ⟨rfl, hr, hb, hlt⟩
  have HZ := Lib.hid hlt
  have R2 := Lib.hid hr
  have P2 := Lib.hid (PA.out.below hb (by have := HZA.out; omega))
  have B2 := Lib.hid (BA.out.trans (hb.mono BA.out.size))
  clear hr hb
  go_wp2_with fail
  refine (anyPacket_ _ 0 _ (by omega) R2.out).mono ?_
  rintro e w3 ⟨k, fa, fp, ta, tp, A1, c1, d, rfl, hd, ho, hr, hg⟩
  have hzz := HZA.out
  have hg2 := hg.size
  have PF := P2.out.grown hg (by simp; omega)
  have O3 := Lib.hid (ho.base (show w.heap.size + 1 ≤ w2.heap.size + 1 by omega))
  have B3 := Lib.hid (below_app B2.out hg (by omega) (fun g h => by injection h with h; omega))
  obtain ⟨x0, x1, x2, x3, x4, x5⟩ := PF.cells
  obtain ⟨f0, f1, f2, f3, f4, f5⟩ := PF.frees
  clear PF hr hg ho hzz
  go_wp2
  refine bodyPost_ret (v := .agg #[.int .i64 k, .int .i64 fa, .int .i64 fp, .int .i64 ta, .int .i64 tp, .slice A1 d.length c1]) (by simp [results, Try.results19, go_sem, x0, x1, x2, x3, x4, x5]) rfl ⟨k, fa, fp, ta, tp, A1, c1, d, rfl, hd, ?_, ?_⟩
  · exact (ow_six O3.out (fun e => by have := (O3.out.blk _ e).1; omega) _ _ _ _ _ _).base (Nat.le_succ _)
  · exact below_six B3.out (Nat.le_refl _) _ _ _ _ _ _
end Go.Proofs.Ytnkdhpbbiilekaa
