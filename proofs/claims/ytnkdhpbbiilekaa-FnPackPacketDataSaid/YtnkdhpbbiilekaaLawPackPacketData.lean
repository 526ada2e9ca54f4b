/- The walk of FnPackPacketData. -/
import Derived.Test.YtnkdhpbbiilekaaKk
namespace Go.Proofs.Ytnkdhpbbiilekaa
open Go.RowKit
set_option maxHeartbeats 4000000 in
theorem FnPackPacketData_walk (A : Option Addr) (c : Nat) (l : List Int) (w : World) (hi : CodeIn w A c l) :
    Calls Try.prog 6 #[.slice A l.length c] w (Ret w (.bool true)) := by
  have hc := hi.1
  have hlc := hi.2.1.1
  unfold maxLen at hc
  have HI := Lib.hid hi
  clear hi
  by_cases hbig : 1048576 < l.length
  · go_enter Try.func6, Try.ntmps6
    go_wp2
    go_ret
    exact ⟨rfl, Below.refl _ _⟩
  go_enter Try.func6, Try.ntmps6
  go_wp2_with fail
  refine (DrawPackPacket_ _ _ _ _ HI.out).mono ?_
  rintro e w1 ⟨k, fa, fp, ta, tp, A1, c1, d, rfl, hd, ho, hb⟩
  obtain ⟨w2, hw2⟩ : ∃ x, x = w1.alloc (.cells #[.int .i64 k, .int .i64 fa, .int .i64 fp, .int .i64 ta, .int .i64 tp, .slice A1 d.length c1] 27) := ⟨_, rfl⟩
  have hq : Below w1.heap.size w1 w2 := by subst hw2; exact (Below.refl _ _).alloc (Nat.le_refl _) _
  have hzq : w1.heap.size < w2.heap.size := by subst hw2; simp
  have bx : PkAt w2 w1.heap.size k fa fp ta tp (.slice A1 d.length c1) := by subst hw2; exact PkAt.new _ _ _ _ _ _ _ _
  have CC := Lib.hid (fun W (h : Below w2.heap.size w2 W) => (bx.below h hzq).cells)
  have SL := Lib.hid (fun W (h : Below w2.heap.size w2 W) => ho.sl.below (hq.trans (h.mono hq.size)))
  have HB := Lib.hid (hb.trans (hq.mono hb.size))
  have hk : Below w2.heap.size w2 w2 := Below.refl _ _
  have hd2 : d.length ≤ 2000000 := by omega
  have WQ := Lib.hid hw2
  clear hb ho hw2 bx
  obtain ⟨x0, x1, x2, x3, x4, x5⟩ := CC.out w2 hk
  obtain ⟨r, hr⟩ : ∃ r, okPk ⟨k, fa, fp, ta, tp, d⟩ = r := ⟨_, rfl⟩
  have RO := Lib.hid hr
  obtain ⟨L, hL⟩ : ∃ L, packV ⟨k, fa, fp, ta, tp, d⟩ = L := ⟨_, rfl⟩
  obtain ⟨m, hm⟩ : ∃ m, L.length = m := ⟨_, rfl⟩
  have HL := Lib.hid hL
  have HM := Lib.hid hm
  have hm18 : m ≤ 18 := by rw [← hm, ← hL]; exact pack_len _
  have hL2 : L.length ≤ 2000000 := by omega
  clear hr hL hm
  go_wp2_with fail
  rw [← WQ.out]
  refine (impl_PackPacket _ _ _ _ _ _ _ _ _ _ rfl hd2 (SL.out _ hk) L m r RO.out HL.out HM.out).mono ?_
  rintro e w3 ⟨A3, rfl, hA3, ho3, hb3⟩
  have O3 := Lib.hid (fun W (h : Below w3.heap.size w3 W) => ho3.below h)
  have hk3 := hb3
  clear ho3
  clear x0 x1 x2 x3 x4 x5
  obtain ⟨x0, x1, x2, x3, x4, x5⟩ := CC.out w3 hk3
  go_wp2_with fail
  refine (spec_PackPacket _ _ _ _ _ _ _ _ _ _ rfl hd2 (SL.out _ hk3) L m r RO.out HL.out HM.out).mono ?_
  rintro e w4 ⟨A4, c4, rfl, ho4, hb4⟩
  have hk4 := bstep hk3 hb4 hk3.size
  clear x0 x1 x2 x3 x4 x5
  obtain ⟨x0, x1, x2, x3, x4, x5⟩ := CC.out w4 hk4
  go_wp2_with fail
  refine (eqIn (l := L) (l' := L) (decide_eq_true rfl) HM.out.symm HM.out.symm hL2 hL2 (O3.out w4 hb4).1 ho4.sl).mono ?_
  rintro e w5 ⟨rfl, hb5⟩
  have hk5 := bstep hk4 hb5 hk4.size
  have hj5 := bstep hb4 hb5 hb4.size
  clear x0 x1 x2 x3 x4 x5
  obtain ⟨x0, x1, x2, x3, x4, x5⟩ := CC.out w5 hk5
  cases r
  · have hm0 : m = 0 := by rw [← HM.out, ← HL.out, packV_bad RO.out]; rfl
    subst hm0
    go_wp2_with fail
    refine (spec_PackPacket _ _ _ _ _ _ _ _ _ _ rfl hd2 (SL.out _ hk5) L 0 false RO.out HL.out HM.out).mono ?_
    rintro e w6 ⟨A6, c6, rfl, ho6, hb6⟩
    have hk6 := bstep hk5 hb6 hk5.size
    have hj6 := bstep hj5 hb6 hj5.size
    go_wp2_with fail
    refine (eqIn (l := L) (l' := L) (decide_eq_true rfl) HM.out.symm HM.out.symm hL2 hL2 (O3.out w6 hj6).1 ho6.sl).mono ?_
    rintro e w7 ⟨rfl, hb7⟩
    have hk7 := bstep hk6 hb7 hk6.size
    go_wp2
    go_ret
    exact ⟨by simp, HB.out.trans (hk7.mono HB.out.size)⟩
  have hLe : wordsP ⟨k, fa, fp, ta, tp, d⟩ (chk ⟨k, fa, fp, ta, tp, d⟩) = L := by rw [← HL.out, packV_ok RO.out]
  obtain ⟨n1, hn1⟩ : ∃ n1, d.length = n1 := ⟨_, rfl⟩
  have hmn : m = n1 + 6 := by rw [← HM.out, ← hLe, wordsP_len, ← hn1]; show 6 + d.length = d.length + 6; omega
  have ok2 : okPk ⟨k, fa, fp, ta, tp, []⟩ = true := by
    have h := okPk_iff.1 RO.out
    exact okPk_iff.2 ⟨h.1, h.2.1, h.2.2.1, by simp, rfl⟩
  obtain ⟨L2, hL2e⟩ : ∃ L2, packV ⟨k, fa, fp, ta, tp, []⟩ = L2 := ⟨_, rfl⟩
  have RO2 := Lib.hid ok2
  have HL2 := Lib.hid hL2e
  have HM2 := Lib.hid (show L2.length = 6 by rw [← hL2e, packV_ok ok2, wordsP_len]; rfl)
  have hdr : L.drop 6 = d := by rw [← hLe]; rfl
  have DR := Lib.hid hdr
  obtain ⟨g, rfl⟩ : ∃ g, A3 = some ⟨g, 0, none⟩ := by rcases hA3 with ⟨h, _⟩ | ⟨_, h⟩; cases h; exact h
  have TS := Lib.hid (fun W (h : Below w5.heap.size w5 W) => (show Sl encI 1 W (if n1 + 6 = 6 then some ⟨g, 0, none⟩ else some ⟨g, 6, none⟩) n1 d by
    have := (O3.out W (bstep hj5 h hj5.size)).1.drop 6 (by rw [HM.out, hmn]; omega)
    rw [DR.out, hmn] at this
    simpa [Addr.add] using this))
  have x0 : ∀ W, Below w5.heap.size w5 W → W.cell? ⟨w1.heap.size, 0, none⟩ = some (.int .i64 k) := fun W h => (CC.out W (bstep hk5 h hk5.size)).1
  have x1 : ∀ W, Below w5.heap.size w5 W → W.cell? ⟨w1.heap.size, 1, none⟩ = some (.int .i64 fa) := fun W h => (CC.out W (bstep hk5 h hk5.size)).2.1
  have x2 : ∀ W, Below w5.heap.size w5 W → W.cell? ⟨w1.heap.size, 2, none⟩ = some (.int .i64 fp) := fun W h => (CC.out W (bstep hk5 h hk5.size)).2.2.1
  have x3 : ∀ W, Below w5.heap.size w5 W → W.cell? ⟨w1.heap.size, 3, none⟩ = some (.int .i64 ta) := fun W h => (CC.out W (bstep hk5 h hk5.size)).2.2.2.1
  have x4 : ∀ W, Below w5.heap.size w5 W → W.cell? ⟨w1.heap.size, 4, none⟩ = some (.int .i64 tp) := fun W h => (CC.out W (bstep hk5 h hk5.size)).2.2.2.2.1
  have x5 : ∀ W, Below w5.heap.size w5 W → W.cell? ⟨w1.heap.size, 5, none⟩ = some (.slice A1 d.length c1) := fun W h => (CC.out W (bstep hk5 h hk5.size)).2.2.2.2.2
  have SL5 := Lib.hid (fun W (h : Below w5.heap.size w5 W) => SL.out W (bstep hk5 h hk5.size))
  have hr0 : Below w5.heap.size w5 w5 := Below.refl _ _
  have HD1 := Lib.hid hn1.symm
  have HD2 := Lib.hid hn1.symm
  have HMM := Lib.hid hmn
  clear hA3 ho4 hdr hLe ok2 hL2e
  subst hmn
  rcases Nat.eq_zero_or_pos n1 with hz1 | hz1
  · subst hz1
    have TS3 := Lib.hid (fun W (h : Below w5.heap.size w5 W) => (show Sl encI 1 W (some ⟨g, 0, none⟩) 0 d by have := TS.out W h; simpa using this))
    go_wp2
    go_region_held3 (fun W => Below w5.heap.size w5 W) (first | exact hr0.drew | assumption) (first | (go_at_call 29; refine (eqIn (l := d) (l' := d) (decide_eq_true rfl) HD1.out HD2.out hd2 hd2 (TS3.out _ (by assumption)) (SL5.out _ (by assumption))).mono ?_; rintro e w6 ⟨rfl, hb6⟩; have hk6 := bstep (B := w5.heap.size) (a := w5) (by assumption) hb6 (Below.size (by assumption))) | (go_at_call 21; refine (impl_PackPacket _ _ _ _ _ [] _ _ _ _ rfl (by simp) Sl.nil L2 6 true RO2.out HL2.out HM2.out).mono ?_; rintro e w7 ⟨A7, rfl, hA7, ho7, hb7⟩; have hk7 := bstep (B := w5.heap.size) (a := w5) (by assumption) hb7 (Below.size (by assumption))))
    all_goals
      go_wp2
      go_ret
      exact ⟨by simp, HB.out.trans ((bstep hk5 hk7 hk5.size).mono HB.out.size)⟩
  · have TS3 := Lib.hid (fun W (h : Below w5.heap.size w5 W) => (show Sl encI 1 W (some ⟨g, 6, none⟩) n1 d by have := TS.out W h; rwa [if_neg (by omega)] at this))
    have q1 : 6 ≤ n1 + 6 := by omega
    have q2 : (6 : Int) ≤ (n1 : Int) + 6 := by omega
    have q3 : ¬ n1 + 6 = 6 := by omega
    have q4 : ¬ n1 = 0 := by omega
    go_wp2
    go_region_held3 (fun W => Below w5.heap.size w5 W) (first | exact hr0.drew | assumption) (first | (go_at_call 29; refine (eqIn (l := d) (l' := d) (decide_eq_true rfl) HD1.out HD2.out hd2 hd2 (TS3.out _ (by assumption)) (SL5.out _ (by assumption))).mono ?_; rintro e w6 ⟨rfl, hb6⟩; have hk6 := bstep (B := w5.heap.size) (a := w5) (by assumption) hb6 (Below.size (by assumption))) | (go_at_call 21; refine (impl_PackPacket _ _ _ _ _ [] _ _ _ _ rfl (by simp) Sl.nil L2 6 true RO2.out HL2.out HM2.out).mono ?_; rintro e w7 ⟨A7, rfl, hA7, ho7, hb7⟩; have hk7 := bstep (B := w5.heap.size) (a := w5) (by assumption) hb7 (Below.size (by assumption))))
    all_goals
      go_wp2
      go_ret
      exact ⟨by simp, HB.out.trans ((bstep hk5 hk7 hk5.size).mono HB.out.size)⟩
end Go.Proofs.Ytnkdhpbbiilekaa
