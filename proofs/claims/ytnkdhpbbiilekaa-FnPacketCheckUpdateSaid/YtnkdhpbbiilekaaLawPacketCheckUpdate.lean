/- The walk of FnPacketCheckUpdate. -/
import Derived.Test.YtnkdhpbbiilekaaKk
namespace Go.Proofs.Ytnkdhpbbiilekaa
open Go.RowKit
set_option maxHeartbeats 4000000 in
theorem FnPacketCheckUpdate_walk (A : Option Addr) (c : Nat) (l : List Int) (w : World) (hi : CodeIn w A c l) :
    Calls Try.prog 7 #[.slice A l.length c] w (Ret w (.bool true)) := by
  have hc := hi.1
  have hlc := hi.2.1.1
  unfold maxLen at hc
  have HI := Lib.hid hi
  clear hi
  by_cases hbig : 1048576 < l.length
  · go_enter Try.func7, Try.ntmps7
    go_wp2
    go_ret
    exact ⟨rfl, Below.refl _ _⟩
  go_enter Try.func7, Try.ntmps7
  go_wp2_with fail
  refine (DrawPacketCheck_ _ _ _ _ HI.out).mono ?_
  rintro e w1 ⟨k, fa, fp, ta, tp, A1, c1, d, rfl, hd, ho, hb⟩
  obtain ⟨w2, hw2⟩ : ∃ x, x = w1.alloc (.cells #[.int .i64 k, .int .i64 fa, .int .i64 fp, .int .i64 ta, .int .i64 tp, .slice A1 d.length c1] 27) := ⟨_, rfl⟩
  have hq : Below w1.heap.size w1 w2 := by subst hw2; exact (Below.refl _ _).alloc (Nat.le_refl _) _
  have hzq : w1.heap.size < w2.heap.size := by subst hw2; simp
  have bx : PkAt w2 w1.heap.size k fa fp ta tp (.slice A1 d.length c1) := by subst hw2; exact PkAt.new _ _ _ _ _ _ _ _
  have CC := Lib.hid (fun W (h : Below w2.heap.size w2 W) => (bx.below h hzq).cells)
  have SL := Lib.hid (fun W (h : Below w2.heap.size w2 W) => ho.sl.below (hq.trans (h.mono hq.size)))
  have HB := Lib.hid (hb.trans (hq.mono hb.size))
  have hk : Below w2.heap.size w2 w2 := Below.refl _ _
  have hd2 : d.length ≤ 2000000 := by omega
  have WQ := Lib.hid hw2
  clear hb ho hw2 bx
  obtain ⟨x0, x1, x2, x3, x4, x5⟩ := CC.out w2 hk
  obtain ⟨r, hr⟩ : ∃ r, okPk ⟨k, fa, fp, ta, tp, d⟩ = r := ⟨_, rfl⟩
  have RO := Lib.hid hr
  obtain ⟨v, hv⟩ : ∃ v, checkV ⟨k, fa, fp, ta, tp, d⟩ = v := ⟨_, rfl⟩
  have V := Lib.hid hv
  clear hr hv
  go_wp2_with fail
  rw [← WQ.out]
  refine (impl_PC V.out rfl hd2 (SL.out _ hk)).mono ?_
  rintro e w3 ⟨rfl, hb3⟩
  have hk3 := hb3
  clear x0 x1 x2 x3 x4 x5
  obtain ⟨x0, x1, x2, x3, x4, x5⟩ := CC.out w3 hk3
  go_wp2_with fail
  refine (spec_PC V.out rfl hd2 (SL.out _ hk3)).mono ?_
  rintro e w4 ⟨rfl, hb4⟩
  have hk4 := bstep hk3 hb4 hk3.size
  clear x0 x1 x2 x3 x4 x5
  obtain ⟨x0, x1, x2, x3, x4, x5⟩ := CC.out w4 hk4
  cases r
  · have hv1 : v = -1 := by rw [← V.out]; exact checkV_neg RO.out
    subst hv1
    go_wp2_with fail
    refine (spec_PC V.out rfl hd2 (SL.out _ hk4)).mono ?_
    rintro e w5 ⟨rfl, hb5⟩
    have hk5 := bstep hk4 hb5 hk4.size
    go_wp2
    go_ret
    exact ⟨by simp, HB.out.trans (hk5.mono HB.out.size)⟩
  have hv0 : 0 ≤ v ∧ v ≤ 65535 := by rw [← V.out, checkV_ok RO.out]; exact chk_range RO.out
  obtain ⟨hv0, hv1⟩ := hv0
  have hup := chk_update RO.out (a := 51457) (p := 1003) (by omega) (by omega) (by omega) (by omega)
  rw [show chk ⟨k, fa, fp, ta, tp, d⟩ = v from by rw [← V.out, checkV_ok RO.out]] at hup
  simp only at hup
  obtain ⟨u, hu⟩ : ∃ u, updV v fa 51457 = u := ⟨_, rfl⟩
  obtain ⟨y, hy⟩ : ∃ y, checkV ⟨k, 51457, 1003, ta, tp, d⟩ = y := ⟨_, rfl⟩
  rw [hu, hy] at hup
  have U1 := Lib.hid hu
  have U2 := Lib.hid hup.1
  have U3 := Lib.hid hy
  clear hu hy hup
  obtain ⟨wb, hwb⟩ : ∃ z : World, z = w4.alloc (.cells #[.int .i64 k, .int .i64 51457, .int .i64 1003, .int .i64 ta, .int .i64 tp, .slice A1 d.length c1] 27) := ⟨_, rfl⟩
  have bq : PkAt wb w4.heap.size k 51457 1003 ta tp (.slice A1 d.length c1) := by subst hwb; exact PkAt.new _ _ _ _ _ _ _ _
  have hkb : Below w4.heap.size w4 wb := by subst hwb; exact (Below.refl _ _).alloc (Nat.le_refl _) _
  have hk5 := bstep hk4 hkb hk4.size
  have WB := Lib.hid hwb
  have y0 : ∀ W, Below wb.heap.size wb W → W.cell? ⟨w4.heap.size, 0, none⟩ = some (.int .i64 k) := fun W h => (bq.below h bq.lt).cells.1
  have y1 : ∀ W, Below wb.heap.size wb W → W.cell? ⟨w4.heap.size, 1, none⟩ = some (.int .i64 51457) := fun W h => (bq.below h bq.lt).cells.2.1
  have y2 : ∀ W, Below wb.heap.size wb W → W.cell? ⟨w4.heap.size, 2, none⟩ = some (.int .i64 1003) := fun W h => (bq.below h bq.lt).cells.2.2.1
  have y3 : ∀ W, Below wb.heap.size wb W → W.cell? ⟨w4.heap.size, 3, none⟩ = some (.int .i64 ta) := fun W h => (bq.below h bq.lt).cells.2.2.2.1
  have y4 : ∀ W, Below wb.heap.size wb W → W.cell? ⟨w4.heap.size, 4, none⟩ = some (.int .i64 tp) := fun W h => (bq.below h bq.lt).cells.2.2.2.2.1
  have y5 : ∀ W, Below wb.heap.size wb W → W.cell? ⟨w4.heap.size, 5, none⟩ = some (.slice A1 d.length c1) := fun W h => (bq.below h bq.lt).cells.2.2.2.2.2
  have z1 : ∀ W, Below wb.heap.size wb W → W.cell? ⟨w1.heap.size, 1, none⟩ = some (.int .i64 fa) := fun W h => (CC.out W (bstep hk5 h hk5.size)).2.1
  have z2 : ∀ W, Below wb.heap.size wb W → W.cell? ⟨w1.heap.size, 2, none⟩ = some (.int .i64 fp) := fun W h => (CC.out W (bstep hk5 h hk5.size)).2.2.1
  have SLb := Lib.hid (fun W (h : Below wb.heap.size wb W) => SL.out W (bstep hk5 h hk5.size))
  have hr0 : Below wb.heap.size wb wb := Below.refl _ _
  clear hwb bq
  go_wp2
  rw [← WB.out]
  clear x0 x1 x2 x3 x4 x5
  go_region_held3 (fun W => Below wb.heap.size wb W) (first | exact hr0.drew | assumption) (first | (go_at_call 31; first | (have _hh := hka; refine (impl_UC U2.out).mono ?_; rintro e wd ⟨rfl, hbd⟩; have hkd := bstep (B := wb.heap.size) (a := wb) (by assumption) hbd (Below.size (by assumption))) | (refine (impl_UC U1.out).mono ?_; rintro e wc ⟨rfl, hbc⟩; have hka := bstep (B := wb.heap.size) (a := wb) (by assumption) hbc (Below.size (by assumption)))) | (go_at_call 20; refine (impl_PC U3.out rfl hd2 (SLb.out _ (by assumption))).mono ?_; rintro e we ⟨rfl, hbe⟩; have hke := bstep (B := wb.heap.size) (a := wb) (by assumption) hbe (Below.size (by assumption))))
  all_goals
    go_wp2
    go_ret
    exact ⟨by simp, HB.out.trans ((bstep hk5 hke hk5.size).mono HB.out.size)⟩
end Go.Proofs.Ytnkdhpbbiilekaa
