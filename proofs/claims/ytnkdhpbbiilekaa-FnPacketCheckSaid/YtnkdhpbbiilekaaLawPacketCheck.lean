/- The walk of FnPacketCheck. -/
import Derived.Test.YtnkdhpbbiilekaaKk
namespace Go.Proofs.Ytnkdhpbbiilekaa
open Go.RowKit
set_option maxHeartbeats 4000000 in
theorem FnPacketCheck_walk (A : Option Addr) (c : Nat) (l : List Int) (w : World) (hi : CodeIn w A c l) :
    Calls Try.prog 4 #[.slice A l.length c] w (Ret w (.bool true)) := by
  have hc := hi.1
  have hlc := hi.2.1.1
  unfold maxLen at hc
  have HI := Lib.hid hi
  clear hi
  by_cases hbig : 1048576 < l.length
  · go_enter Try.func4, Try.ntmps4
    go_wp2
    go_ret
    exact ⟨rfl, Below.refl _ _⟩
  go_enter Try.func4, Try.ntmps4
  go_wp2_with fail
  refine (DrawPacketCheck_ _ _ _ _ HI.out).mono ?_
  rintro e w1 ⟨k, fa, fp, ta, tp, A1, c1, d, rfl, hd, ho, hb⟩
  obtain ⟨w2, hw2⟩ : ∃ x, x = w1.alloc (.cells #[.int .i64 k, .int .i64 fa, .int .i64 fp, .int .i64 ta, .int .i64 tp, .slice A1 d.length c1] 27) := ⟨_, rfl⟩
  have hq : Below w1.heap.size w1 w2 := by subst hw2; exact (Below.refl _ _).alloc (Nat.le_refl _) _
  have hzq : w1.heap.size < w2.heap.size := by subst hw2; simp
  have bx : PkAt w2 w1.heap.size k fa fp ta tp (.slice A1 d.length c1) := by subst hw2; exact PkAt.new _ _ _ _ _ _ _ _
  have CC := Lib.hid (fun W (h : Below w2.heap.size w2 W) => (bx.below h hzq).cells)
  have SL := Lib.hid (fun W (h : Below w2.heap.size w2 W) => ho.sl.below (hq.trans (h.mono hq.size)))
  have HB := Lib.hid (hb.trans (hq.mono hb.size))
  have hk : Below w2.heap.size w2 w2 := Below.refl _ _
  have hd2 : d.length ≤ 2000000 := by omega
  have WQ := Lib.hid hw2
  clear hb ho hw2 bx
  obtain ⟨x0, x1, x2, x3, x4, x5⟩ := CC.out w2 hk
  obtain ⟨r, hr⟩ : ∃ r, okPk ⟨k, fa, fp, ta, tp, d⟩ = r := ⟨_, rfl⟩
  have RO := Lib.hid hr
  obtain ⟨v, hv⟩ : ∃ v, checkV ⟨k, fa, fp, ta, tp, d⟩ = v := ⟨_, rfl⟩
  have V := Lib.hid hv
  obtain ⟨L, hL⟩ : ∃ L, packV ⟨k, fa, fp, ta, tp, d⟩ = L := ⟨_, rfl⟩
  obtain ⟨m, hm⟩ : ∃ m, L.length = m := ⟨_, rfl⟩
  have HL := Lib.hid hL
  have HM := Lib.hid hm
  have hm18 : m ≤ 18 := by rw [← hm, ← hL]; exact pack_len _
  clear hr hv hL hm
  go_wp2_with fail
  rw [← WQ.out]
  refine (impl_PC V.out rfl hd2 (SL.out _ hk)).mono ?_
  rintro e w3 ⟨rfl, hb3⟩
  have hk3 := hb3
  clear x0 x1 x2 x3 x4 x5
  obtain ⟨x0, x1, x2, x3, x4, x5⟩ := CC.out w3 hk3
  go_wp2_with fail
  refine (impl_PackPacket _ _ _ _ _ _ _ _ _ _ rfl hd2 (SL.out _ hk3) L m r RO.out HL.out HM.out).mono ?_
  rintro e w4 ⟨A4, rfl, hA4, ho4, hb4⟩
  have O4 := Lib.hid (fun W (h : Below w4.heap.size w4 W) => ho4.below h)
  have hk4 := bstep hk3 hb4 hk3.size
  clear ho4
  clear x0 x1 x2 x3 x4 x5
  obtain ⟨x0, x1, x2, x3, x4, x5⟩ := CC.out w4 hk4
  go_wp2_with fail
  refine (spec_PC V.out rfl hd2 (SL.out _ hk4)).mono ?_
  rintro e w5 ⟨rfl, hb5⟩
  have hk5 := bstep hk4 hb5 hk4.size
  clear x0 x1 x2 x3 x4 x5
  obtain ⟨x0, x1, x2, x3, x4, x5⟩ := CC.out w5 hk5
  cases r
  · have hv1 : v = -1 := by rw [← V.out]; exact checkV_neg RO.out
    subst hv1
    go_wp2_with fail
    refine (spec_PC V.out rfl hd2 (SL.out _ hk5)).mono ?_
    rintro e w6 ⟨rfl, hb6⟩
    have hk6 := bstep hk5 hb6 hk5.size
    go_wp2
    go_ret
    exact ⟨by simp, HB.out.trans (hk6.mono HB.out.size)⟩
  have hLe : wordsP ⟨k, fa, fp, ta, tp, d⟩ v = L := by rw [← HL.out, packV_ok RO.out, ← V.out, checkV_ok RO.out]
  have hv0 : 0 ≤ v ∧ v ≤ 65535 := by rw [← V.out, checkV_ok RO.out]; exact chk_range RO.out
  obtain ⟨hv0, hv1⟩ := hv0
  have hm6 : 6 ≤ m := by rw [← HM.out, ← hLe, wordsP_len]; omega
  obtain ⟨g, rfl⟩ : ∃ g, A4 = some ⟨g, 0, none⟩ := by rcases hA4 with ⟨h, _⟩ | ⟨_, h⟩; cases h; exact h
  obtain ⟨b, o, e1, hbs, hrow⟩ := (O4.out w5 hb5).1.base (i := 1) (by rw [HM.out]; omega)
  injection e1 with e1
  injection e1 with e1 e2
  subst e1
  subst e2
  have l0 := hrow.inn (Below.refl _ _) hbs (show L[0]? = some k by rw [← hLe]; rfl)
  have l1 := hrow.inn (Below.refl _ _) hbs (show L[1]? = some v by rw [← hLe]; rfl)
  have l2 := hrow.inn (Below.refl _ _) hbs (show L[2]? = some fa by rw [← hLe]; rfl)
  have l5 := hrow.inn (Below.refl _ _) hbs (show L[5]? = some tp by rw [← hLe]; rfl)
  simp only [Nat.zero_add] at l0 l1 l2 l5
  clear hA4 hrow hLe
  go_wp2
  go_quiet (fail)
  go_wp2
  go_ret
  exact ⟨by simp, HB.out.trans ((bdrewN hk5 _).mono HB.out.size)⟩
end Go.Proofs.Ytnkdhpbbiilekaa
