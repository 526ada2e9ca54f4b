/- The reference's draws of MapEnd. -/
import Derived.Test.YtpfmlenodgjebaaMo
import Derived.Test.YtpfmlenodgjebaaMq
namespace Go.Proofs.Ytpfmlenodgjebaa
open Go.RowKit
theorem one_drew (g N : Nat) (l : List Int) {cs : Array Value} {t : TypeId} {b n : Nat} {w : World} (hcs : cs.toList = l.flatMap encI1) (hb : w.heap.size = b) (hn : l.length = n) (hl : l.length ≤ 1000) (hl1 : 1 ≤ l.length) (hN : N ≤ 1000000) (hr : Rd w g N) :
    Calls Try.prog 57 #[.pointer (some ⟨g, 0, none⟩), .slice (some ⟨b, 0, none⟩) n n] ((w.alloc (.cells cs t)).drew) (fun e w' => ∃ x : Int, e = .returned (.int .i64 x) ∧ x ∈ l ∧ Rd w' g (N + 1) ∧ w.grownBy w' (some g)) := by
  have e : (w.alloc (.cells cs t)).drew = w.drew.alloc (.cells cs t) := rfl
  rw [e]
  refine (one_lit (w := w.drew) g N l hcs hb hn hl hl1 hN (Rd.drew_ hr)).mono ?_
  rintro e w' ⟨x, h1, h2, h3, h4⟩
  exact ⟨x, h1, h2, h3, grown_undrew h4⟩
set_option maxHeartbeats 4000000 in
theorem DrawMapEnd_ (A : Option Addr) (c : Nat) (l : List Int) (w : World) (hi : CodeIn w A c l) :
    Calls Try.prog 28 #[.slice A l.length c] w (fun e w' => ∃ (A : Option Addr) (c : Nat) (l : List Mp) (a q n : Int), e = .returned (.tuple #[.slice A l.length c, .agg #[.int .i64 a, .int .i64 q], .int .i64 n]) ∧ l.length ≤ 10 ∧ Ow encM 4 37 w.heap.size w' A c l ∧ Below w.heap.size w w') := by
  have HI := Lib.hid (hi.below ((Below.refl _ _).alloc (Nat.le_refl _) (.cells #[.int .i64 0, .int .i64 0] 28)))
  have BB := Lib.hid (Bl.lit2 w 0 0 28)
  have HBW := Lib.hid (show Below w.heap.size w (w.alloc (.cells #[.int .i64 0, .int .i64 0] 28)) from (Below.refl _ _).alloc (Nat.le_refl _) _)
  clear hi
  go_enter Try.func28, Try.ntmps28
  go_wp2_with fail
  refine (newReader_at (b := w.heap.size + 1) _ _ _ _ (by simp) HI.out).mono ?_
  rintro e w2 ⟨rfl, hr, hb, hlt⟩
  have HR := Lib.hid hr
  have HI2 := Lib.hid (HI.out.below (hb.mono (by simp)))
  have HB2 := Lib.hid (BB.out.below hb (by omega))
  have HW2 := Lib.hid (HBW.out.trans (hb.mono (by omega)))
  clear hr hb
  go_wp2_with fail
  refine (DrawOutsidePort_ _ _ _ _ HI2.out).mono ?_
  rintro e w3 ⟨A1, c1, l1, a, q, rfl, hl1, ho, hb⟩
  have hz := hb.size
  have HR3 := Lib.hid (HR.out.below hb hlt)
  have HB3 := Lib.hid (HB2.out.below hb (by omega))
  have HW3 := Lib.hid (HW2.out.trans (hb.mono (by omega)))
  have HO3 := Lib.hid ho
  clear hb ho
  go_wp2_with fail
  refine (pick_ _ _ 20 _ (by omega) (by omega) (by omega) (HR3.out.alloc _)).mono ?_
  rintro e w4 ⟨x, rfl, hx0, hx1, hx2, hr, hg⟩
  have hg4 := hg
  have HR4 := Lib.hid hr
  have H74 := Lib.hid ((Bl.lit2 w3 a q 28).grown hg (by simp; omega))
  have HB4 := Lib.hid ((HB3.out.alloc (.cells #[.int .i64 a, .int .i64 q] 28)).grown hg (by simp))
  have HW4 := Lib.hid (below_app (HW3.out.alloc HW3.out.size _) hg (by simp; omega) (fun g h => by injection h with h; omega))
  have HO4 := Lib.hid (ow_away (HO3.out.alloc _) hg hlt)
  have hz4 := hg.size
  clear hr hg
  cases hx : (x == 0)
  · go_wp2
    obtain ⟨⟨z0, z1⟩, _⟩ := H74.out.two
    have hz7 : w3.heap.size < w4.heap.size := H74.out.lt
    go_region_with ((go_at_call 57; refine (one_drew _ _ [0, 50, 100, 10000, 10001, -1, 200] rfl rfl rfl (by simp) (by simp) (by omega) HR4.out).mono ?_; rintro e w6 ⟨n, rfl, _, _, hk6⟩; obtain ⟨⟨x0, x1⟩, g0, g1⟩ := (HB4.out.grown hk6 (by simp)).two; obtain ⟨⟨y0, y1⟩, _⟩ := (H74.out.grown hk6 (by simp; omega)).two))
    all_goals
      have HO6 := Lib.hid (ow_away HO4.out hk6 hlt)
      have HW6 := Lib.hid (below_app HW4.out hk6 (by omega) (fun g h => by injection h with h; omega))
      have hz6 := hk6.size
      clear hk6
      go_wp2
      refine bodyPost_ret (v := .tuple #[.slice A1 l1.length c1, .agg #[.int .i64 a, .int .i64 q], .int .i64 n]) (by simp [results, Try.results28, go_sem, x0, x1]) rfl ⟨A1, c1, l1, a, q, n, rfl, hl1, ?_, ?_⟩
      · exact ((HO6.out.far (by simp; omega) _).far (by simp; omega) _).base (Nat.le_of_lt (by omega))
      · exact (HW6.out.setCell (Nat.le_refl _) _).setCell (Nat.le_refl _) _
  · go_wp2_with fail
    refine (one_lit _ _ [-1, 65536] rfl (by simp) rfl (by simp) (by simp) (by omega) HR4.out).mono ?_
    rintro e w5 ⟨y, rfl, _, hr, hg⟩
    have ne1 : w3.heap.size ≠ w.heap.size := by omega
    have h75 := H74.out.grown hg (by simp; omega)
    obtain ⟨_, f0, f1⟩ := h75.two
    obtain ⟨⟨e0, e1⟩, _⟩ := h75.two
    have hz5 := hg.size
    simp only [alloc_size] at hz4
    obtain ⟨wa, hwa⟩ : ∃ x, x = w5.setCell ⟨w3.heap.size, 1, none⟩ (.int .i64 y) := ⟨_, rfl⟩
    have hza : wa.heap.size = w5.heap.size := by subst hwa; simp
    have H7A := Lib.hid (show Bl encI1 1 28 wa w3.heap.size 2 [a, y] by
      subst hwa
      have := h75.store (x := q) (x' := y) (u := .int .i64 y) (i := 1) (j := 0) (fun _ => rfl) rfl (by decide) rfl
      simpa using this)
    have HBA := Lib.hid (show Bl encI1 1 28 wa w.heap.size 2 [0, 0] by subst hwa; exact (HB4.out.grown hg (by simp)).far ne1 _)
    have HRA := Lib.hid (show Rd wa (w.heap.size + 1) (1 + 1 + 1) by subst hwa; exact Rd.setCell (by exact hr.mono (by omega)) (by simp; omega) _)
    have HWA := Lib.hid (show Below w.heap.size w wa by subst hwa; exact (below_app HW4.out hg (by omega) (fun g h => by injection h with h; omega)).setCell (by simp; omega) _)
    have ho5 := ow_away HO4.out hg hlt
    have HOA := Lib.hid (show Ow encM 4 37 w2.heap.size wa A1 c1 l1 by subst hwa; exact ho5.far2 (fun g h => by have := (HO3.out.blk g h).2; simp; omega) _)
    have WA := Lib.hid hwa
    clear hwa h75 ho5 hr hg
    go_wp2
    rw [← WA.out]
    clear e0 e1 f0 f1 hza hz5 hz4
    obtain ⟨⟨z0, z1⟩, _⟩ := H7A.out.two
    have hz7 : w3.heap.size < wa.heap.size := H7A.out.lt
    go_region_with ((go_at_call 57; refine (one_drew _ _ [0, 50, 100, 10000, 10001, -1, 200] rfl rfl rfl (by simp) (by simp) (by omega) HRA.out).mono ?_; rintro e w6 ⟨n, rfl, _, _, hk6⟩; obtain ⟨⟨x0, x1⟩, g0, g1⟩ := (HBA.out.grown hk6 (by simp)).two; obtain ⟨⟨y0, y1⟩, _⟩ := (H7A.out.grown hk6 (by simp; omega)).two))
    all_goals
      have HO6 := Lib.hid (ow_away HOA.out hk6 hlt)
      have HW6 := Lib.hid (below_app HWA.out hk6 (by omega) (fun g h => by injection h with h; omega))
      have hz6 := hk6.size
      clear hk6
      go_wp2
      refine bodyPost_ret (v := .tuple #[.slice A1 l1.length c1, .agg #[.int .i64 a, .int .i64 y], .int .i64 n]) (by simp [results, Try.results28, go_sem, x0, x1]) rfl ⟨A1, c1, l1, a, y, n, rfl, hl1, ?_, ?_⟩
      · exact ((HO6.out.far (by simp; omega) _).far (by simp; omega) _).base (Nat.le_of_lt (by omega))
      · exact (HW6.out.setCell (Nat.le_refl _) _).setCell (Nat.le_refl _) _
end Go.Proofs.Ytpfmlenodgjebaa
