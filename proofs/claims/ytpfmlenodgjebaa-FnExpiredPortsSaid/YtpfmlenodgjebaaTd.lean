/- DeleteFunc on mappings, walked. -/
import Derived.Test.YtpfmlenodgjebaaMk
namespace Go.Proofs.Ytpfmlenodgjebaa
open Go.RowKit
theorem mid_atM {F X : List Mp} {m : Nat} (h1 : m = F.length) (h2 : 0 < X.length) (R : List Mp) : ∃ a q p t, (F ++ X ++ R)[m]? = some ⟨a, q, p, t⟩ := mt_at (by rw [List.length_append, List.length_append]; omega)
theorem mid_setM {F X l : List Mp} {n m : Nat} {x : Mp} (h1 : m = F.length) (hX : X ≠ []) (h : l[n]? = some x) : (F ++ X ++ l.drop n).set m x = F ++ [x] ++ (X.tail ++ [x]) ++ l.drop (n + 1) := by
  obtain ⟨y, X', rfl⟩ := List.exists_cons_of_ne_nil hX
  rw [List.append_assoc, List.set_append_right m _ (by omega), h1, Nat.sub_self, drop_cons h]
  simp
theorem one_belowM {w w' : World} {a q p t : Int} {ty : TypeId} (hb : Below (w.alloc (.cells #[.int .i64 a, .int .i64 q, .int .i64 p, .int .i64 t] ty)).heap.size (w.alloc (.cells #[.int .i64 a, .int .i64 q, .int .i64 p, .int .i64 t] ty)) w') :
    (w'.cell? ⟨w.heap.size, 0, none⟩ = some (.int .i64 a) ∧ w'.cell? ⟨w.heap.size, 1, none⟩ = some (.int .i64 q) ∧ w'.cell? ⟨w.heap.size, 2, none⟩ = some (.int .i64 p) ∧ w'.cell? ⟨w.heap.size, 3, none⟩ = some (.int .i64 t)) ∧ w.heap.size < w'.heap.size := by
  have hz := hb.size
  rw [alloc_size] at hz
  exact ⟨⟨bcell hb (by rw [alloc_size]; exact Nat.lt_succ_self _) (cell_of_row _ _ _ _ _ _ (heap_alloc_new w _)), bcell hb (by rw [alloc_size]; exact Nat.lt_succ_self _) (cell_of_row _ _ _ _ _ _ (heap_alloc_new w _)), bcell hb (by rw [alloc_size]; exact Nat.lt_succ_self _) (cell_of_row _ _ _ _ _ _ (heap_alloc_new w _)), bcell hb (by rw [alloc_size]; exact Nat.lt_succ_self _) (cell_of_row _ _ _ _ _ _ (heap_alloc_new w _))⟩, hz⟩
set_option maxHeartbeats 4000000 in
theorem DeleteFunc_mt (A : Option Addr) (c B : Nat) (l : List Mp) (g : FuncId) (cb : Array Value) (f : Mp → Bool) (w : World) (hl : l.length ≤ 2000000) (hs : Ow encM 4 37 B w A c l) (hB : B ≤ w.heap.size)
    (eg : ∀ args W, (callFunc g args).run Try.prog W = .ok (.enter g args) W) (hp : ∀ a q p t W, w.grownBy W (blk A) → Calls Try.prog g (#[.agg #[.int .i64 a, .int .i64 q, .int .i64 p, .int .i64 t]] ++ cb) W (Ret W (.bool (f ⟨a, q, p, t⟩)))) :
    Calls Try.prog 84 #[.slice A l.length c, .func (.func g) #[] cb] w
      (fun e w' => e = .returned (.slice A (keep f l).length c) ∧ Ow encM 4 37 B w' A c (keep f l) ∧ w.grownBy w' (blk A)) := by
  have HP := Lib.hid hp
  have EG := Lib.hid eg
  have HPB := Lib.hid (fun a q p t W (h : Below w.heap.size w W) => hp a q p t W (grown_of_below h))
  have HSL := Lib.hid hs.sl
  clear hp
  cases hany : l.any f
  · have hi := idx_nonneg f l
    rw [hany] at hi
    have hi1 : idx f l = -1 := idx_not (by
      intro y hy
      rw [List.any_eq_false] at hany
      simpa using hany y hy)
    have hfl : (keep f l) = l := by
      unfold keep
      rw [List.filter_eq_self]
      intro y hy
      rw [List.any_eq_false] at hany
      simpa using hany y hy
    rw [hfl]
    have HI := Lib.hid hi1
    have HS := Lib.hid hs
    clear hi hi1 hfl hany hs eg
    go_enter Try.func84, Try.ntmps84
    go_wp2_with (go_at_call 90; refine (IndexFunc_mt _ _ _ _ _ f _ hl HSL.out EG.out HPB.out).mono ?_; rintro e w2 ⟨rfl, hb2⟩; rw [HI.out])
    go_ret
    exact ⟨rfl, HS.out.below hb2, grown_of_below hb2⟩
  · obtain ⟨k, x, hk, hfx, hkn, hki⟩ := idx_found hany
    have hne : l ≠ [] := by rintro rfl; simp at hk
    obtain ⟨gb, rfl, hgB, hlc, hcm, hbl⟩ := hs.resolve_left (by rintro ⟨_, _, h⟩; exact hne h)
    have hkl := lt_of_get hk
    have hm : c ≤ 9223372036854775807 := by unfold maxLen at hcm; omega
    have HK := Lib.hid hk
    have HF := Lib.hid hfx
    have HN := Lib.hid hkn
    have HI := Lib.hid hki
    have HBL := Lib.hid hbl
    have hgl := hbl.lt
    have hk1 : ((k : Int) == -1) = false := by rw [beq_eq_false_iff_ne]; omega
    clear hany hk hfx hkn hki hbl hs hne
    go_enter Try.func84, Try.ntmps84
    go_wp2_with (go_at_call 90; refine (IndexFunc_mt _ _ _ _ _ f _ hl HSL.out EG.out HPB.out).mono ?_; rintro e w2 ⟨rfl, hb2⟩; rw [HI.out])
    go_loopw [5, 6] (fun i j wr => ∃ (n m : Nat) (X : List Mp), n ≤ l.length ∧ j = .int .i64 n ∧ i = .int .i64 m ∧ m = (keep f (l.take n)).length ∧ m + X.length = n ∧ X ≠ [] ∧ Bl encM 4 37 wr gb (c * 4) (keep f (l.take n) ++ X ++ l.drop n) ∧ w.grownBy wr (some gb)) (fun _ j _ => l.length - (intOf j).toNat)
    case atStart =>
      refine ⟨k + 1, k, [x], by omega, by go_num, rfl, ?_, by simp, by simp, ?_, grown_of_below hb2⟩
      · rw [keep_start HK.out HF.out HN.out, List.length_take]; omega
      · have := HBL.out.below hb2 hgl
        rw [keep_start HK.out HF.out HN.out, List.append_assoc, List.singleton_append, ← drop_cons HK.out, List.take_append_drop]
        exact this
    case round =>
      obtain ⟨n, m, X, hn, rfl, rfl, hmF, hmX, hX, hB3, hg3⟩ := hrel
      have HMF := Lib.hid hmF
      have HMX := Lib.hid hmX
      have HX := Lib.hid hX
      have HB3 := Lib.hid hB3
      have HG3 := Lib.hid hg3
      have hX0 : 0 < X.length := List.length_pos_iff.2 hX
      have hgl3 := hB3.lt
      have hmn : m < n := by omega
      clear hb2 hmF hmX hX hB3 hg3
      by_cases hlt : n < l.length
      · obtain ⟨a, q, p, t, hx⟩ := mt_at hlt
        have hy := mid_get HMF.out HMX.out hx
        obtain ⟨⟨d0, d1, d2, d3⟩, _⟩ := HB3.out.mtAt hy
        have XX := Lib.hid hx
        have hwa : Below wr.heap.size wr (wr.alloc (.cells #[.int .i64 a, .int .i64 q, .int .i64 p, .int .i64 t] 37)) := (Below.refl _ _).alloc (Nat.le_refl _) _
        have C := Lib.hid (HP.out a q p t _ (grown_below HG3.out hwa))
        have HWA := Lib.hid hwa
        clear hx hy hwa
        cases hv : f ⟨a, q, p, t⟩
        · have HV := Lib.hid hv
          clear hv
          obtain ⟨a', q', p', t', hz⟩ := mid_atM HMF.out hX0 (l.drop n)
          have Z := Lib.hid hz
          clear hz
          go_wp2_with fail
          refine (HV.out ▸ C.out).mono ?_
          rintro e w4 ⟨rfl, hb4⟩
          obtain ⟨⟨e0, e1, e2, e3⟩, f0, f1, f2, f3⟩ := ((HB3.out.alloc _).below hb4 (by simp; omega)).mtAt Z.out
          obtain ⟨⟨x0, x1, x2, x3⟩, hz4⟩ := one_belowM hb4
          go_wp2
          go_roundw
          case rel =>
            have hkp := keep_snoc (f := f) XX.out
            rw [HV.out] at hkp
            simp only [Bool.false_eq_true, if_false] at hkp
            refine ⟨n + 1, m + 1, X.tail ++ [⟨a, q, p, t⟩], by omega, by go_num, by go_num, ?_, ?_, by simp, ?_, ?_⟩
            · rw [hkp, List.length_append, ← HMF.out]; rfl
            · have := HMX.out
              rw [List.length_append, List.length_tail]; simp; omega
            · have := ((HB3.out.alloc _).below hb4 (by simp; omega)).store4 Z.out a q p t
              rw [mid_setM HMF.out HX.out XX.out] at this
              rw [hkp]
              exact this
            · refine grown_setCell (grown_setCell (grown_setCell (grown_setCell (grown_below (grown_below HG3.out HWA.out) hb4) ?_ _) ?_ _) ?_ _) ?_ _ <;> exact .inl rfl
          case measure => simp [intOf]; omega
        · have HV := Lib.hid hv
          clear hv
          go_wp2_with fail
          refine (HV.out ▸ C.out).mono ?_
          rintro e w4 ⟨rfl, hb4⟩
          go_wp2
          go_roundw
          case rel =>
            have hkp := keep_snoc (f := f) XX.out
            rw [HV.out, if_pos rfl, List.append_nil] at hkp
            refine ⟨n + 1, m, X ++ [⟨a, q, p, t⟩], by omega, by go_num, rfl, by rw [hkp]; exact HMF.out, ?_, by simp, ?_, grown_below (grown_below HG3.out HWA.out) hb4⟩
            · have := HMX.out
              rw [List.length_append]; simp; omega
            · have := (HB3.out.alloc _).below hb4 (by simp; omega)
              rw [hkp]
              rw [drop_cons XX.out, List.append_assoc] at this
              simpa using this
          case measure => simp [intOf]; omega
      · have hnl : n = l.length := by omega
        have hmc : m < c := by omega
        have hmF := HMF.out
        have hB3 := HB3.out
        have hmX := HMX.out
        rw [hnl, List.take_length] at hmF
        rw [hnl, List.take_length, List.drop_length, List.append_nil] at hB3
        rw [hnl] at hmX
        have HM2 := Lib.hid hmF
        have HB4 := Lib.hid hB3
        have HX2 := Lib.hid hmX
        have HNL := Lib.hid hnl
        clear hmF hB3 hmX hnl
        go_wp2_with (with_reducible refine wpList_clear elM rfl (.tmp 38) rfl gb (c * 4) m (l.length - m) (c - m) (keep f l ++ X) HB4.out rfl ?c1 ?c2 ?_)
        case c1 => have h1 := HM2.out; have h2 := HX2.out; rw [List.length_append]; omega
        case c2 => omega
        intro w5 hb5 hg5
        go_wp2
        go_ret
        have hm2 := HM2.out
        have hb6 : Bl encM 4 37 w5 gb (c * 4) (keep f l) := by
          rw [hm2, List.take_left] at hb5
          exact hb5
        refine ⟨by rw [← hm2]; rfl, .inr ⟨gb, rfl, hgB, by omega, hcm, hb6⟩, grown_trans HG3.out hg5 (.inl rfl)⟩
end Go.Proofs.Ytpfmlenodgjebaa
