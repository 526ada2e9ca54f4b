/- The draw of UnpackPacket, walked. -/
import Derived.Test.YtnkdhpbbiilekaaKv
namespace Go.Proofs.Ytnkdhpbbiilekaa
open Go.RowKit
set_option maxHeartbeats 2000000 in
theorem DrawUnpackPacket_ (A : Option Addr) (c : Nat) (l : List Int) (w : World) (hi : CodeIn w A c l) :
    Calls Try.prog 36 #[.slice A l.length c] w (fun e w' => ∃ (A : Option Addr) (c n : Nat) (l : List Int), e = .returned (.slice A n c) ∧ n = l.length ∧ l.length ≤ 19 ∧ Ow encI 1 3 w.heap.size w' A c l ∧ Below w.heap.size w w') := by
  have HI := Lib.hid hi
  clear hi
  go_enter Try.func36, Try.ntmps36
  go_wp2_with fail
  refine (newReader_at _ _ _ w rfl HI.out).mono ?_
  rintro e w2 ⟨rfl, hr, hb, hlt⟩
  have R2 := Lib.hid hr
  have B2 := Lib.hid hb
  clear hr hb
  go_wp2_with fail
  refine (somePacket_ _ 0 _ (by omega) R2.out).mono ?_
  rintro e w3 ⟨k, fa, fp, ta, tp, A3, c3, d, rfl, hok, ho3, hr3, hg3⟩
  have hd12 : d.length ≤ 12 := (okPk_iff.1 hok).2.2.2.1
  have z3 := hg3.size
  have R3 := Lib.hid hr3
  have B3 := Lib.hid (below_app B2.out hg3 (by omega) (fun g h => by injection h with h; omega))
  have O3 := Lib.hid ho3
  obtain ⟨L, hL⟩ : ∃ L, packV ⟨k, fa, fp, ta, tp, d⟩ = L := ⟨_, rfl⟩
  obtain ⟨m, hm⟩ : ∃ m, L.length = m := ⟨_, rfl⟩
  have hm18 : m ≤ 18 := by rw [← hm, ← hL]; exact pack_len _
  have hm6 : 6 ≤ m := by rw [← hm, ← hL, packV_ok hok, wordsP_len]; omega
  have HOK := Lib.hid hok
  have HL := Lib.hid hL
  have HM := Lib.hid hm
  clear hr3 hg3 ho3 hok hL hm
  go_wp2_with fail
  refine (spec_PackPacket _ _ _ _ _ _ _ _ _ _ rfl (by omega) O3.out.sl L m true HOK.out HL.out HM.out).mono ?_
  rintro e w4 ⟨A4, c4, rfl, ho4, hb4⟩
  have z4 := hb4.size
  have R4 := Lib.hid (R3.out.below_ hb4)
  have B4 := Lib.hid (bstep B3.out hb4 (by omega))
  have O4 := Lib.hid ho4
  clear ho4 hb4
  go_wp2_with fail
  refine (pick_ _ 100 6 _ (by omega) (by omega) (by omega) (R4.out.mono (by omega))).mono ?_
  rintro e w5 ⟨x, rfl, hx0, _, _, hr5, hg5⟩
  have z5 := hg5.size
  have R5 := Lib.hid hr5
  have B5 := Lib.hid (below_app B4.out hg5 (by omega) (fun g h => by injection h with h; omega))
  have O5 := Lib.hid (ow_away O4.out hg5 (by omega))
  have hLne : L ≠ [] := by intro e; have := HM.out; rw [e] at this; simp at this; omega
  clear hr5 hg5
  by_cases e0 : x = 0
  · subst e0
    go_wp2_with fail
    refine (pick_ _ 101 (m : Int) _ (by omega) (by omega) (by omega) R5.out).mono ?_
    rintro e w6 ⟨j, rfl, hj0, hj1, _, hr6, hg6⟩
    have hj1 := hj1 (by omega)
    have z6 := hg6.size
    have B6 := Lib.hid (below_app B5.out hg6 (by omega) (fun g h => by injection h with h; omega))
    have O6 := Lib.hid (ow_away O5.out hg6 (by omega))
    have R6 := Lib.hid hr6
    clear hr6 hg6
    go_wp2_with fail
    refine (someWord_ _ 102 _ (by omega) R6.out).mono ?_
    rintro e w7 ⟨z, rfl, _, _, _, hg7⟩
    have z7 := hg7.size
    have B7 := Lib.hid (below_app B6.out hg7 (by omega) (fun g h => by injection h with h; omega))
    have O7 := Lib.hid (ow_away O6.out hg7 (by omega))
    obtain ⟨jn, rfl⟩ : ∃ jn : Nat, j = (jn : Int) := ⟨j.toNat, by omega⟩
    have hjm : jn < m := by omega
    obtain ⟨g, rfl, hgB, hlc, hcm, hbl⟩ := O7.out.resolve_left (by rintro ⟨_, _, h⟩; exact hLne h)
    obtain ⟨u, hu⟩ : ∃ u, L[jn]? = some u := ⟨_, List.getElem?_eq_getElem (by rw [HM.out]; exact hjm)⟩
    have d7 := hbl.row.inn (Below.refl _ _) hbl.lt hu
    simp only [Nat.zero_add] at d7
    have f7 := hbl.frozen jn
    have hl7 := hbl.lt
    have hst := hbl.store (x := u) (x' := z) (u := .int .i64 z) (i := jn) (j := 0) (fun _ => rfl) hu (by decide) rfl
    simp only [Nat.mul_one, Nat.add_zero] at hst
    have ST := Lib.hid hst
    have HLC := Lib.hid hlc
    have HCM := Lib.hid hcm
    clear hg7 hst hbl hlc hcm hu
    go_wp2
    go_ret
    refine ⟨some ⟨g, 0, none⟩, c4, m, L.set jn z, rfl, by rw [List.length_set]; exact HM.out.symm, by rw [List.length_set, HM.out]; omega, .inr ⟨g, rfl, by omega, by rw [List.length_set]; exact HLC.out, HCM.out, by simpa using ST.out⟩, ?_⟩
    exact B7.out.setCell (show w.heap.size ≤ g by omega) _
  by_cases e1 : x = 1
  · subst e1
    go_wp2_with fail
    refine (someWord_ _ 101 _ (by omega) R5.out).mono ?_
    rintro e w6 ⟨z, rfl, _, _, _, hg6⟩
    have z6 := hg6.size
    have B6 := Lib.hid (below_app B5.out hg6 (by omega) (fun g h => by injection h with h; omega))
    have O6 := Lib.hid (ow_away O5.out hg6 (by omega))
    clear hg6
    go_wp2_with (with_reducible refine wpList_app elI rfl (.tmp 24) (.tmp 27) rfl w3.heap.size _ _ _ L rfl HM.out.symm (O6.out.alloc _) _ _ _ [z] rfl rfl (blI w6 z).sl ?c1 (by decide) ?c2 ?_)
    case c1 => first | omega | (rw [HM.out]; simp; omega)
    case c2 => first | omega | (simp; omega)
    intro A9 c9 w9 hown9 hg9 _
    have B9 := below_app (B6.out.alloc (by omega) (.cells #[.int .i64 z] 3)) hg9 (by simp; omega) (fun g hg => by have := (O6.out.blk g hg).1; omega)
    have O9 := Lib.hid hown9
    clear hown9 hg9
    go_wp2
    go_ret
    exact ⟨A9, c9, _, L ++ [z], rfl, by first | rfl | (simp [HM.out]), by rw [List.length_append, HM.out]; simp; omega, O9.out.base (by omega), B9⟩
  by_cases e2 : x = 2
  · subst e2
    go_wp2_with fail
    refine (pick_ _ 101 (m : Int) _ (by omega) (by omega) (by omega) R5.out).mono ?_
    rintro e w6 ⟨j, rfl, hj0, hj1, _, _, hg6⟩
    have hj1 := hj1 (by omega)
    have z6 := hg6.size
    have B6 := Lib.hid (below_app B5.out hg6 (by omega) (fun g h => by injection h with h; omega))
    have O6 := Lib.hid (ow_away O5.out hg6 (by omega))
    obtain ⟨jn, rfl⟩ : ∃ jn : Nat, j = (jn : Int) := ⟨j.toNat, by omega⟩
    have hjm : jn < m := by omega
    have hmc : m ≤ c4 := by have := O6.out.le; rw [HM.out] at this; exact this
    have hcm8 : c4 ≤ 9223372036854775807 := by have := O6.out.capm; unfold maxLen at this; omega
    clear hg6
    go_wp2
    go_ret
    exact ⟨A4, c4, jn, L.take jn, rfl, by rw [List.length_take, HM.out]; omega, by rw [List.length_take, HM.out]; omega, (O6.out.cut jn).base (by omega), B6.out⟩
  have n0 : (x == 0) = false := by simpa using e0
  have n1 : (x == 1) = false := by simpa using e1
  have n2 : (x == 2) = false := by simpa using e2
  go_wp2
  go_ret
  exact ⟨A4, c4, m, L, rfl, HM.out.symm, by rw [HM.out]; omega, O5.out.base (by omega), B5.out⟩
end Go.Proofs.Ytnkdhpbbiilekaa
