/- The walk of FnPackPacket. -/
import Derived.Test.YtnkdhpbbiilekaaKv
namespace Go.Proofs.Ytnkdhpbbiilekaa
open Go.RowKit
set_option maxHeartbeats 4000000 in
theorem FnPackPacket_walk (A : Option Addr) (c : Nat) (l : List Int) (w : World) (hi : CodeIn w A c l) :
    Calls Try.prog 14 #[.slice A l.length c] w (Ret w (.bool true)) := by
  have hc := hi.1
  have hlc := hi.2.1.1
  unfold maxLen at hc
  have HI := Lib.hid hi
  clear hi
  by_cases hbig : 1048576 < l.length
  · go_enter Try.func14, Try.ntmps14
    go_wp2
    go_ret
    exact ⟨rfl, Below.refl _ _⟩
  go_enter Try.func14, Try.ntmps14
  go_wp2_with fail
  refine (DrawPackPacket_ _ _ _ _ HI.out).mono ?_
  rintro e w1 ⟨k, fa, fp, ta, tp, A1, c1, d, rfl, hd, ho, hb⟩
  obtain ⟨w2, hw2⟩ : ∃ x, x = w1.alloc (.cells #[.int .i64 k, .int .i64 fa, .int .i64 fp, .int .i64 ta, .int .i64 tp, .slice A1 d.length c1] 27) := ⟨_, rfl⟩
  have hq : Below w1.heap.size w1 w2 := by subst hw2; exact (Below.refl _ _).alloc (Nat.le_refl _) _
  have hzq : w1.heap.size < w2.heap.size := by subst hw2; simp
  have bx : PkAt w2 w1.heap.size k fa fp ta tp (.slice A1 d.length c1) := by subst hw2; exact PkAt.new _ _ _ _ _ _ _ _
  have CC := Lib.hid (fun W (h : Below w2.heap.size w2 W) => (bx.below h hzq).cells)
  have SL := Lib.hid (fun W (h : Below w2.heap.size w2 W) => ho.sl.below (hq.trans (h.mono hq.size)))
  have HB := Lib.hid (hb.trans (hq.mono hb.size))
  have hk : Below w2.heap.size w2 w2 := Below.refl _ _
  have hd2 : d.length ≤ 2000000 := by omega
  have WQ := Lib.hid hw2
  clear hb ho hw2 bx
  obtain ⟨x0, x1, x2, x3, x4, x5⟩ := CC.out w2 hk
  obtain ⟨r, hr⟩ : ∃ r, okPk ⟨k, fa, fp, ta, tp, d⟩ = r := ⟨_, rfl⟩
  have RO := Lib.hid hr
  obtain ⟨L, hL⟩ : ∃ L, packV ⟨k, fa, fp, ta, tp, d⟩ = L := ⟨_, rfl⟩
  obtain ⟨m, hm⟩ : ∃ m, L.length = m := ⟨_, rfl⟩
  have HL := Lib.hid hL
  have HM := Lib.hid hm
  have hm18 : m ≤ 18 := by rw [← hm, ← hL]; exact pack_len _
  have hL2 : L.length ≤ 2000000 := by omega
  clear hr hL hm
  go_wp2_with fail
  rw [← WQ.out]
  refine (impl_PackPacket _ _ _ _ _ _ _ _ _ _ rfl hd2 (SL.out _ hk) L m r RO.out HL.out HM.out).mono ?_
  rintro e w3 ⟨A3, rfl, hA3, ho3, hb3⟩
  have O3 := Lib.hid (fun W (h : Below w3.heap.size w3 W) => ho3.below h)
  have hk3 := hb3
  clear ho3
  clear x0 x1 x2 x3 x4 x5
  obtain ⟨x0, x1, x2, x3, x4, x5⟩ := CC.out w3 hk3
  go_wp2_with fail
  refine (spec_PackPacket _ _ _ _ _ _ _ _ _ _ rfl hd2 (SL.out _ hk3) L m r RO.out HL.out HM.out).mono ?_
  rintro e w4 ⟨A4, c4, rfl, ho4, hb4⟩
  have hk4 := bstep hk3 hb4 hk3.size
  clear x0 x1 x2 x3 x4 x5
  obtain ⟨x0, x1, x2, x3, x4, x5⟩ := CC.out w4 hk4
  go_wp2_with fail
  refine (eqIn (l := L) (l' := L) (decide_eq_true rfl) HM.out.symm HM.out.symm hL2 hL2 (O3.out w4 hb4).1 ho4.sl).mono ?_
  rintro e w5 ⟨rfl, hb5⟩
  have hk5 := bstep hk4 hb5 hk4.size
  have hj5 := bstep hb4 hb5 hb4.size
  clear x0 x1 x2 x3 x4 x5
  obtain ⟨x0, x1, x2, x3, x4, x5⟩ := CC.out w5 hk5
  cases r
  · have hm0 : m = 0 := by rw [← HM.out, ← HL.out, packV_bad RO.out]; rfl
    subst hm0
    go_wp2_with fail
    refine (spec_PackPacket _ _ _ _ _ _ _ _ _ _ rfl hd2 (SL.out _ hk5) L 0 false RO.out HL.out HM.out).mono ?_
    rintro e w6 ⟨A6, c6, rfl, ho6, hb6⟩
    have hk6 := bstep hk5 hb6 hk5.size
    have hj6 := bstep hj5 hb6 hj5.size
    go_wp2_with fail
    refine (eqIn (l := L) (l' := L) (decide_eq_true rfl) HM.out.symm HM.out.symm hL2 hL2 (O3.out w6 hj6).1 ho6.sl).mono ?_
    rintro e w7 ⟨rfl, hb7⟩
    have hk7 := bstep hk6 hb7 hk6.size
    go_wp2
    go_ret
    exact ⟨by simp, HB.out.trans (hk7.mono HB.out.size)⟩
  have hLe : wordsP ⟨k, fa, fp, ta, tp, d⟩ (chk ⟨k, fa, fp, ta, tp, d⟩) = L := by rw [← HL.out, packV_ok RO.out]
  have hmd : m = 6 + d.length := by rw [← HM.out, ← hLe, wordsP_len]
  have hup := unpack_pack RO.out
  rw [HL.out] at hup
  have U1 := Lib.hid hup.1
  have U2 := Lib.hid hup.2
  have ALL := Lib.hid (show L.all isW = true by
    rw [← hLe, List.all_eq_true]
    intro y hy
    have := chk_range RO.out
    exact isW_iff.2 (wordsP_in RO.out this.1 this.2 y hy))
  have TOT := Lib.hid (show tot L = 65535 by rw [← hLe]; exact tot_right RO.out)
  have HMD := Lib.hid hmd
  have hz : ((m : Int) == 0) = false := by rw [beq_eq_false_iff_ne]; omega
  have heq : ((m : Int) == 6 + (d.length : Int)) = true := by rw [beq_iff_eq]; omega
  clear hLe hmd hup ho4 hA3
  go_wp2_with fail
  refine (impl_UP1 U1.out U2.out rfl HM.out.symm hL2 (by omega) (O3.out w5 hj5).1).mono ?_
  rintro e w6 ⟨A6, c6, rfl, ho6, hb6⟩
  have hk6 := bstep hk5 hb6 hk5.size
  have hj6 := bstep hj5 hb6 hj5.size
  have hal : Below w6.heap.size w6 (w6.alloc (.cells #[.int .i64 k, .int .i64 fa, .int .i64 fp, .int .i64 ta, .int .i64 tp, .slice A6 d.length c6] 27)) := (Below.refl _ _).alloc (Nat.le_refl _) _
  have O6 := Lib.hid (ho6.below hal)
  have hk7 := bstep hk6 hal hk6.size
  have hj7 := bstep hj6 hal hj6.size
  have hl6 : w1.heap.size < w6.heap.size := Nat.lt_of_lt_of_le hzq hk6.size
  clear ho6
  clear x0 x1 x2 x3 x4 x5
  obtain ⟨x0, x1, x2, x3, x4, x5⟩ := CC.out w6 hk6
  go_wp2_with (first | (go_at_call 40; refine (impl_IsRight _ _ _ L _ HM.out.symm (by rw [HM.out]; omega) ALL.out TOT.out (O3.out _ hj7).1).mono ?_; rintro e w' ⟨rfl, rfl⟩) | (go_at_call 18; refine (same_packets (d := d) rfl rfl hd2 O6.out.1 (SL.out _ hk7)).mono ?_; rintro e w8 ⟨rfl, hb8⟩; have hk8 := bstep hk7 hb8 hk7.size; clear x0 x1 x2 x3 x4 x5; obtain ⟨x0, x1, x2, x3, x4, x5⟩ := CC.out w8 hk8))
  go_ret
  exact ⟨by simp, HB.out.trans (hk8.mono HB.out.size)⟩
end Go.Proofs.Ytnkdhpbbiilekaa
