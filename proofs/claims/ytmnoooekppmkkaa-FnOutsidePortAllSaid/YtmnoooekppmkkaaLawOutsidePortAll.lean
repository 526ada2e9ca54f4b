/- The walk of FnOutsidePortAll. -/
import Derived.Test.YtmnoooekppmkkaaMk
namespace Go.Proofs.Ytmnoooekppmkkaa
open Go.RowKit
set_option maxHeartbeats 4000000 in
theorem FnOutsidePortAll_walk (A : Option Addr) (c : Nat) (l : List Int) (w : World) (hi : CodeIn w A c l) :
    Calls Try.prog 10 #[.slice A l.length c] w (Ret w (.bool true)) := by
  have hc := hi.1
  have hlc := hi.2.1.1
  unfold maxLen at hc
  have HI := Lib.hid hi
  clear hi
  by_cases hbig : 1048576 < l.length
  · go_enter Try.func10, Try.ntmps10
    go_wp2
    go_ret
    exact ⟨rfl, Below.refl _ _⟩
  go_enter Try.func10, Try.ntmps10
  go_wp2_with fail
  refine (DrawOutsidePort_ _ _ _ _ HI.out).mono ?_
  rintro e w1 ⟨A1, c1, l1, a, q, rfl, hl1, ho, hb⟩
  obtain ⟨w2, hw2⟩ : ∃ x, x = w1.alloc (.cells #[.int .i64 a, .int .i64 q] 25) := ⟨_, rfl⟩
  have hq : Below w1.heap.size w1 w2 := by subst hw2; exact (Below.refl _ _).alloc (Nat.le_refl _) _
  have SL := Lib.hid (fun W (h : Below w2.heap.size w2 W) => ho.sl.below (hq.trans (h.mono hq.size)))
  have EC := Lib.hid (fun W (h : Below w2.heap.size w2 W) => end_cells w1 a q (W := W) (by subst hw2; exact h))
  have HB := Lib.hid (hb.trans (hq.mono hb.size))
  have hk : Below w2.heap.size w2 w2 := Below.refl _ _
  have hl2 : l1.length ≤ 2000000 := by omega
  have WQ := Lib.hid hw2
  clear hb ho hw2
  obtain ⟨x0, x1, xz⟩ := EC.out w2 hk
  obtain ⟨v, hv⟩ : ∃ v, outP l1 a q = v := ⟨_, rfl⟩
  have HP := Lib.hid hv
  clear hv
  cases hm : vM l1
  · have HV := Lib.hid hm
    clear hm
    go_wp2_with fail
    rw [← WQ.out]
    refine (impl_OP HP.out rfl hl2 (SL.out _ hk)).mono ?_
    rintro e w3 ⟨rfl, hb3⟩
    have hk3 : Below w2.heap.size w2 w3 := bstep (by assumption) hb3 (Below.size (by assumption))
    obtain ⟨x0, x1, xz⟩ := EC.out w3 hk3
    go_wp2_with (first | (go_at_call 21; (with_reducible refine (spec_OP HP.out rfl hl2 (SL.out _ (by assumption))).mono ?_); rintro e w3 ⟨rfl, hb3⟩; have hk3 : Below w2.heap.size w2 w3 := bstep (by assumption) hb3 (Below.size (by assumption)); obtain ⟨x0, x1, xz⟩ := EC.out w3 hk3) | (go_at_call 25; (with_reducible refine (impl_VT HV.out rfl hl2 (SL.out _ (by assumption))).mono ?_); rintro e w3 ⟨rfl, hb3⟩; have hk3 : Below w2.heap.size w2 w3 := bstep (by assumption) hb3 (Below.size (by assumption)); obtain ⟨x0, x1, xz⟩ := EC.out w3 hk3))
    go_ret
    exact ⟨by simp, HB.out.trans (Below.mono (by assumption) HB.out.size)⟩
  · have HV := Lib.hid hm
    have HU := Lib.hid (show l1.any (sameE a q) = decide (0 ≤ v) by rw [← HP.out, outP_any hm])
    clear hm
    go_wp2_with fail
    rw [← WQ.out]
    refine (impl_OP HP.out rfl hl2 (SL.out _ hk)).mono ?_
    rintro e w3 ⟨rfl, hb3⟩
    have hk3 : Below w2.heap.size w2 w3 := bstep (by assumption) hb3 (Below.size (by assumption))
    obtain ⟨x0, x1, xz⟩ := EC.out w3 hk3
    go_wp2_with (first | (go_at_call 21; (with_reducible refine (spec_OP HP.out rfl hl2 (SL.out _ (by assumption))).mono ?_); rintro e w3 ⟨rfl, hb3⟩; have hk3 : Below w2.heap.size w2 w3 := bstep (by assumption) hb3 (Below.size (by assumption)); obtain ⟨x0, x1, xz⟩ := EC.out w3 hk3) | (go_at_call 25; (with_reducible refine (impl_VT HV.out rfl hl2 (SL.out _ (by assumption))).mono ?_); rintro e w3 ⟨rfl, hb3⟩; have hk3 : Below w2.heap.size w2 w3 := bstep (by assumption) hb3 (Below.size (by assumption)); obtain ⟨x0, x1, xz⟩ := EC.out w3 hk3))
    have hkr : Below w2.heap.size w2 w3 := by assumption
    clear x0 x1 xz hk3 hb3
    go_loopw [6, 7] (fun s i wr => ∃ m : Nat, m ≤ l1.length ∧ i = .int .i64 m ∧ s = .bool ((l1.take m).any (sameE a q)) ∧ Below w2.heap.size w2 wr) (fun _ i _ => l1.length - (intOf i).toNat)
    case atStart => exact ⟨0, Nat.zero_le _, rfl, by simp, hkr⟩
    case round =>
      obtain ⟨m, hm, rfl, rfl, hbr⟩ := hrel
      clear hkr hk
      by_cases hlt : m < l1.length
      · obtain ⟨b, ob, rfl, hbs, hcr⟩ := (SL.out wr hbr).base hlt
        obtain ⟨a', q', p', t', hx⟩ := mt_at hlt
        obtain ⟨d0, d1, d2, d3⟩ := hcr.mt (Below.refl wr.heap.size wr) hbs hx
        obtain ⟨x0, x1, xz⟩ := EC.out _ hbr
        have hsn : ∀ r, ((a' == a) && (q' == q)) = r → (l1.take (m + 1)).any (sameE a q) = ((l1.take m).any (sameE a q) || r) := by
          rintro r rfl
          rw [take_succ hx, List.any_append]
          simp [sameE]
        have SN := Lib.hid hsn
        have OM := Lib.hid (outP_mem HV.out (List.mem_of_getElem? hx))
        have SLr := Lib.hid (fun W (h : Below wr.heap.size wr W) => SL.out W (hbr.trans (h.mono hbr.size)))
        have HCR := Lib.hid (fun W (h : Below wr.heap.size wr W) => hcr.mt h hbs hx)
        clear hsn hcr hx
        have main : ∀ r, ((l1.take m).any (sameE a q) || ((a' == a) && (q' == q))) = r → True := fun _ _ => trivial
        clear main
        cases hs : (l1.take m).any (sameE a q)
        · cases he : ((a' == a) && (q' == q))
          all_goals
            have E := eqlEnB _ _ _ _ he
            have HE := Lib.hid (SN.out _ he)
            rw [hs] at HE
            clear hs he
            go_wp2
            go_quiet (fail)
            go_wp2_with fail
            refine wp_region_bw wr.heap.size wr (bdrewN (Below.refl _ _) _) (by kernel_rfl) (by kernel_rfl) ?_
            have z0 : ∀ y : BW wr.heap.size wr, y.w.cell? ⟨b, ob + m * 4, none⟩ = some (.int .i64 a') := bwCell hbs d0
            have z1 : ∀ y : BW wr.heap.size wr, y.w.cell? ⟨b, ob + m * 4 + 1, none⟩ = some (.int .i64 q') := bwCell hbs d1
            have z2 : ∀ y : BW wr.heap.size wr, y.w.cell? ⟨b, ob + m * 4 + 2, none⟩ = some (.int .i64 p') := bwCell hbs d2
            repeat (go_big_quiet_step (first | (go_at_call 23; exact bwCall (Nat.le_refl _) (impl_OP OM.out rfl hl2 (SLr.out _ (BW.h _))))))
            refine wpQuiet_nil ?_
            rintro _ ⟨⟨w6, h6⟩, rfl⟩
            have hb6 := hbr.trans (h6.mono hbr.size)
            go_wp2
            go_roundw
            case rel => exact ⟨m + 1, by omega, by go_num, by rw [HE.out]; rfl, hb6⟩
            case measure => simp [intOf]; omega
        · have HE := Lib.hid (SN.out _ rfl)
          rw [hs] at HE
          clear hs
          go_wp2
          go_quiet (fail)
          go_wp2_with fail
          refine wp_region_bw wr.heap.size wr (bdrewN (Below.refl _ _) _) (by kernel_rfl) (by kernel_rfl) ?_
          have z0 : ∀ y : BW wr.heap.size wr, y.w.cell? ⟨b, ob + m * 4, none⟩ = some (.int .i64 a') := bwCell hbs d0
          have z1 : ∀ y : BW wr.heap.size wr, y.w.cell? ⟨b, ob + m * 4 + 1, none⟩ = some (.int .i64 q') := bwCell hbs d1
          have z2 : ∀ y : BW wr.heap.size wr, y.w.cell? ⟨b, ob + m * 4 + 2, none⟩ = some (.int .i64 p') := bwCell hbs d2
          repeat (go_big_quiet_step (first | (go_at_call 23; exact bwCall (Nat.le_refl _) (impl_OP OM.out rfl hl2 (SLr.out _ (BW.h _))))))
          refine wpQuiet_nil ?_
          rintro _ ⟨⟨w6, h6⟩, rfl⟩
          have hb6 := hbr.trans (h6.mono hbr.size)
          go_wp2
          go_roundw
          case rel => exact ⟨m + 1, by omega, by go_num, by rw [HE.out]; rfl, hb6⟩
          case measure => simp [intOf]; omega
      · have hml : l1.take m = l1 := List.take_of_length_le (by omega)
        rw [hml, HU.out]
        clear hml
        by_cases h0 : 0 ≤ v
        · rw [decide_eq_true h0]
          go_wp2
          go_ret
          exact ⟨rfl, HB.out.trans (hbr.mono HB.out.size)⟩
        · rw [decide_eq_false h0]
          go_wp2
          go_ret
          exact ⟨by first | rfl | (simp; done) | (simp; omega), HB.out.trans (hbr.mono HB.out.size)⟩
end Go.Proofs.Ytmnoooekppmkkaa
