/- The walk of FnUnpackPacketTorn. -/
import Derived.Test.YtnkdhpbbiilekaaKv
namespace Go.Proofs.Ytnkdhpbbiilekaa
open Go.RowKit
set_option maxHeartbeats 4000000 in
theorem FnUnpackPacketTorn_walk (A : Option Addr) (c : Nat) (l : List Int) (w : World) (hi : CodeIn w A c l) :
    Calls Try.prog 11 #[.slice A l.length c] w (Ret w (.bool true)) := by
  have hc := hi.1
  have hlc := hi.2.1.1
  unfold maxLen at hc
  have HI := Lib.hid hi
  clear hi
  by_cases hbig : 1048576 < l.length
  · go_enter Try.func11, Try.ntmps11
    go_wp2
    go_ret
    exact ⟨rfl, Below.refl _ _⟩
  go_enter Try.func11, Try.ntmps11
  go_wp2_with fail
  refine (DrawPackPacket_ _ _ _ _ HI.out).mono ?_
  rintro e w1 ⟨k, fa, fp, ta, tp, A1, c1, d, rfl, hd, ho, hb⟩
  obtain ⟨w2, hw2⟩ : ∃ x, x = w1.alloc (.cells #[.int .i64 k, .int .i64 fa, .int .i64 fp, .int .i64 ta, .int .i64 tp, .slice A1 d.length c1] 27) := ⟨_, rfl⟩
  have hq : Below w1.heap.size w1 w2 := by subst hw2; exact (Below.refl _ _).alloc (Nat.le_refl _) _
  have hzq : w1.heap.size < w2.heap.size := by subst hw2; simp
  have bx : PkAt w2 w1.heap.size k fa fp ta tp (.slice A1 d.length c1) := by subst hw2; exact PkAt.new _ _ _ _ _ _ _ _
  have CC := Lib.hid (fun W (h : Below w2.heap.size w2 W) => (bx.below h hzq).cells)
  have SL := Lib.hid (fun W (h : Below w2.heap.size w2 W) => ho.sl.below (hq.trans (h.mono hq.size)))
  have HB := Lib.hid (hb.trans (hq.mono hb.size))
  have hk : Below w2.heap.size w2 w2 := Below.refl _ _
  have hd2 : d.length ≤ 2000000 := by omega
  have WQ := Lib.hid hw2
  clear hb ho hw2 bx
  obtain ⟨x0, x1, x2, x3, x4, x5⟩ := CC.out w2 hk
  obtain ⟨r, hr⟩ : ∃ r, okPk ⟨k, fa, fp, ta, tp, d⟩ = r := ⟨_, rfl⟩
  have RO := Lib.hid hr
  obtain ⟨L, hL⟩ : ∃ L, packV ⟨k, fa, fp, ta, tp, d⟩ = L := ⟨_, rfl⟩
  obtain ⟨m, hm⟩ : ∃ m, L.length = m := ⟨_, rfl⟩
  have HL := Lib.hid hL
  have HM := Lib.hid hm
  have hm18 : m ≤ 18 := by rw [← hm, ← hL]; exact pack_len _
  have hL2 : L.length ≤ 2000000 := by omega
  clear hr hL hm
  go_wp2_with fail
  rw [← WQ.out]
  refine (impl_PackPacket _ _ _ _ _ _ _ _ _ _ rfl hd2 (SL.out _ hk) L m r RO.out HL.out HM.out).mono ?_
  rintro e w3 ⟨A3, rfl, hA3, ho3, hb3⟩
  have O3 := Lib.hid (fun W (h : Below w3.heap.size w3 W) => ho3.below h)
  have hk3 := hb3
  clear ho3
  clear x0 x1 x2 x3 x4 x5
  obtain ⟨x0, x1, x2, x3, x4, x5⟩ := CC.out w3 hk3
  go_wp2_with fail
  refine (spec_PackPacket _ _ _ _ _ _ _ _ _ _ rfl hd2 (SL.out _ hk3) L m r RO.out HL.out HM.out).mono ?_
  rintro e w4 ⟨A4, c4, rfl, ho4, hb4⟩
  have hk4 := bstep hk3 hb4 hk3.size
  clear x0 x1 x2 x3 x4 x5
  obtain ⟨x0, x1, x2, x3, x4, x5⟩ := CC.out w4 hk4
  go_wp2_with fail
  refine (eqIn (l := L) (l' := L) (decide_eq_true rfl) HM.out.symm HM.out.symm hL2 hL2 (O3.out w4 hb4).1 ho4.sl).mono ?_
  rintro e w5 ⟨rfl, hb5⟩
  have hk5 := bstep hk4 hb5 hk4.size
  have hj5 := bstep hb4 hb5 hb4.size
  clear x0 x1 x2 x3 x4 x5
  obtain ⟨x0, x1, x2, x3, x4, x5⟩ := CC.out w5 hk5
  cases r
  · have hm0 : m = 0 := by rw [← HM.out, ← HL.out, packV_bad RO.out]; rfl
    subst hm0
    go_wp2_with fail
    refine (spec_PackPacket _ _ _ _ _ _ _ _ _ _ rfl hd2 (SL.out _ hk5) L 0 false RO.out HL.out HM.out).mono ?_
    rintro e w6 ⟨A6, c6, rfl, ho6, hb6⟩
    have hk6 := bstep hk5 hb6 hk5.size
    have hj6 := bstep hj5 hb6 hj5.size
    go_wp2_with fail
    refine (eqIn (l := L) (l' := L) (decide_eq_true rfl) HM.out.symm HM.out.symm hL2 hL2 (O3.out w6 hj6).1 ho6.sl).mono ?_
    rintro e w7 ⟨rfl, hb7⟩
    have hk7 := bstep hk6 hb7 hk6.size
    go_wp2
    go_ret
    exact ⟨by simp, HB.out.trans (hk7.mono HB.out.size)⟩
  have hLe : wordsP ⟨k, fa, fp, ta, tp, d⟩ (chk ⟨k, fa, fp, ta, tp, d⟩) = L := by rw [← HL.out, packV_ok RO.out]
  have hLne : L ≠ [] := by rw [← hLe]; exact words_ne _ _
  obtain ⟨P, y, hPy⟩ : ∃ P y, L = P ++ [y] := ⟨L.dropLast, L.getLast hLne, (List.dropLast_concat_getLast hLne).symm⟩
  obtain ⟨n1, hn1⟩ : ∃ n1, P.length = n1 := ⟨_, rfl⟩
  have hm1 : m = n1 + 1 := by rw [← HM.out, hPy, List.length_append, hn1]; rfl
  have hyr : 0 ≤ y ∧ y ≤ 65535 := by
    have := chk_range RO.out
    exact wordsP_in RO.out this.1 this.2 y (by rw [hLe, hPy]; simp)
  obtain ⟨hy0, hy1⟩ := hyr
  have TORN := Lib.hid (show unpackO (P ++ [y + 1]) = false from torn RO.out (by rw [HL.out, hPy]))
  have hyL : L[n1]? = some y := by rw [hPy, ← hn1, List.getElem?_append_right (Nat.le_refl _), Nat.sub_self]; rfl
  have hset : L.set n1 (y + 1) = P ++ [y + 1] := by rw [hPy, ← hn1, List.set_append_right _ _ (Nat.le_refl _), Nat.sub_self]; rfl
  have HY := Lib.hid hyL
  have HSET := Lib.hid hset
  have HPL := Lib.hid (show n1 + 1 = (P ++ [y + 1]).length by rw [List.length_append, hn1]; rfl)
  have hn18 : n1 + 1 ≤ 18 := by omega
  clear hLe hPy hyL hset ho4 hA3 hn1
  subst hm1
  have hz : ((n1 : Int) + 1 == 0) = false := by rw [beq_eq_false_iff_ne]; omega
  have hea : Below w5.heap.size w5 (w5.alloc (.cells #[] 3)) := (Below.refl _ _).alloc (Nat.le_refl _) _
  have S5 := Lib.hid ((O3.out w5 hj5).1.below hea)
  go_wp2_with (with_reducible refine wpList_app elI rfl (.tmp 33) (.tmp 34) rfl w5.heap.size _ _ _ [] rfl rfl (Ow.empty w5 (Nat.le_refl _)) _ _ _ L rfl HM.out.symm S5.out ?c1 (by decide) hea.size ?_)
  case c1 => first | omega | (rw [HM.out]; simp; omega)
  intro A7 c7 w7 ho7 hg7 _
  have hb7 : Below w5.heap.size w5 w7 := below_app hea hg7 hea.size (fun g h => (by simp [blk] at h; omega))
  have hk7 := bstep hk5 hb7 hk5.size
  try rw [List.nil_append] at ho7
  try rw [List.nil_append]
  try rw [HM.out]
  obtain ⟨g7, rfl, hg7B, hlc7, hcm7, hbl7⟩ := ho7.resolve_left (by rintro ⟨_, _, h⟩; exact hLne h)
  rw [HM.out] at hlc7
  have d7 := hbl7.row.inn (Below.refl _ _) hbl7.lt HY.out
  simp only [Nat.zero_add] at d7
  have f7 := hbl7.frozen n1
  have hl7 := hbl7.lt
  have BL := Lib.hid hbl7
  have HCM := Lib.hid hcm7
  have hcm8 : c7 ≤ 9223372036854775807 := by unfold maxLen at hcm7; omega
  have hst := hbl7.store (x := y) (x' := y + 1) (u := .int .i64 (y + 1)) (i := n1) (j := 0) (fun _ => rfl) HY.out (by decide) rfl
  rw [HSET.out] at hst
  simp only [Nat.mul_one, Nat.add_zero] at hst
  have ST := Lib.hid hst
  have hk8 : Below w2.heap.size w2 (w7.setCell ⟨g7, n1, none⟩ (.int .i64 (y + 1))) := hk7.setCell (show w2.heap.size ≤ g7 by have := hk5.size; omega) _
  clear hst hbl7 ho7 hg7 hcm7 x0 x1 x2 x3 x4 x5 S5
  go_wp2_with (first | (go_at_call 35; refine (impl_UP0 TORN.out HPL.out (by rw [← HPL.out]; omega) hcm8 ⟨by rw [← HPL.out]; exact hlc7, ST.out.sl.2⟩).mono ?_; rintro e w9 ⟨rfl, hb9⟩; have hk9 := bstep hk8 hb9 hk8.size))
  go_ret
  exact ⟨by simp, HB.out.trans ((hk9.alloc hk9.size _).mono HB.out.size)⟩
end Go.Proofs.Ytnkdhpbbiilekaa
