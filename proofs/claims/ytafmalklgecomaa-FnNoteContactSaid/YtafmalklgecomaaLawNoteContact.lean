/- The walk of FnNoteContact. -/
import Derived.Test.YtafmalklgecomaaCk
namespace Go.Proofs.Ytafmalklgecomaa
open Go.RowKit
set_option maxHeartbeats 4000000 in
theorem FnNoteContact_walk (A : Option Addr) (c : Nat) (l : List Int) (w : World) (hi : CodeIn w A c l) :
    Calls Try.prog 13 #[.slice A l.length c] w (Ret w (.bool true)) := by
  have hc := hi.1
  have hlc := hi.2.1.1
  unfold maxLen at hc
  have HI := Lib.hid hi
  clear hi
  by_cases hbig : 1048576 < l.length
  · go_enter Try.func13, Try.ntmps13
    go_wp2
    go_ret
    exact ⟨rfl, Below.refl _ _⟩
  go_enter Try.func13, Try.ntmps13
  go_wp2_with fail
  refine (DrawNoteContact_ _ _ _ _ HI.out).mono ?_
  rintro e w2 ⟨A1, c1, l1, p, a, q, rfl, hl1, ho, hb⟩
  obtain ⟨wq, hwq⟩ : ∃ x, x = w2.alloc (.cells #[.int .i64 p, .int .i64 a, .int .i64 q] 29) := ⟨_, rfl⟩
  have hq : Below w2.heap.size w2 wq := by subst hwq; exact (Below.refl _ _).alloc (Nat.le_refl _) _
  have SL := Lib.hid (fun W (h : Below wq.heap.size wq W) => ho.sl.below (hq.trans (h.mono hq.size)))
  have EC := Lib.hid (fun W (h : Below wq.heap.size wq W) => ct_cells w2 p a q (W := W) (by subst hwq; exact h))
  have HB := Lib.hid (hb.trans (hq.mono hb.size))
  have hk : Below wq.heap.size wq wq := Below.refl _ _
  have hl2 : l1.length ≤ 2000000 := by omega
  have WQ := Lib.hid hwq
  clear hb ho hwq
  obtain ⟨x0, x1, x2, xz⟩ := EC.out wq hk
  cases hv : (vC l1 && okC ⟨p, a, q⟩)
  · have HV := Lib.hid hv
    clear hv
    go_wp2_with fail
    rw [← WQ.out]
    refine (NoteNo HV.out rfl hl2 (SL.out _ hk)).mono ?_
    rintro e w3 ⟨rfl, hb3⟩
    have hk3 : Below wq.heap.size wq w3 := bstep (by assumption) hb3 (Below.size (by assumption))
    obtain ⟨x0, x1, x2, xz⟩ := EC.out w3 hk3
    go_wp2_with (first | (go_at_call 29; (with_reducible refine (spec_NoteNo HV.out rfl hl2 (SL.out _ (by assumption))).mono ?_); rintro e w3 ⟨rfl, hb3⟩; have hk3 : Below wq.heap.size wq w3 := bstep (by assumption) hb3 (Below.size (by assumption)); obtain ⟨x0, x1, x2, xz⟩ := EC.out w3 hk3) | (go_at_call 30; (refine (eqCts (l := []) (l' := []) (r := true) rfl rfl rfl (by simp) (by simp) Sl.nil Sl.nil).mono ?_); rintro e w3 ⟨rfl, hb3⟩; have hk3 : Below wq.heap.size wq w3 := bstep (by assumption) hb3 (Below.size (by assumption)); obtain ⟨x0, x1, x2, xz⟩ := EC.out w3 hk3))
    go_ret
    exact ⟨rfl, HB.out.trans (Below.mono (by assumption) HB.out.size)⟩
  · obtain ⟨L, hL⟩ : ∃ L, noteC l1 ⟨p, a, q⟩ = L := ⟨_, rfl⟩
    obtain ⟨n, hn⟩ : ∃ n, L.length = n := ⟨_, rfl⟩
    have hv1 : vC l1 = true := by cases h : vC l1 <;> simp_all
    have hv2 : okC ⟨p, a, q⟩ = true := by cases h : okC ⟨p, a, q⟩ <;> simp_all
    have hn3 : n ≤ 10 ∧ 1 ≤ n ∧ n ≤ l1.length + 1 := by rw [← hn, ← hL]; exact noteC_len
    obtain ⟨hn10, hn1, hnl⟩ := hn3
    have HL := Lib.hid hL
    have HN := Lib.hid hn
    have HV := Lib.hid hv
    have HV1 := Lib.hid hv1
    have HV2 := Lib.hid hv2
    have hL2 : L.length ≤ 2000000 := by omega
    clear hL hn hv hv1 hv2
    go_wp2_with fail
    rw [← WQ.out]
    refine (NoteYes HV.out HL.out HN.out rfl hl2 (SL.out _ hk)).mono ?_
    rintro e w3 ⟨A3, rfl, hout, hb3⟩
    have hk3 : Below wq.heap.size wq w3 := bstep hk hb3 hk.size
    obtain ⟨x0, x1, x2, xz⟩ := EC.out w3 hk3
    have HO3 := Lib.hid hout
    clear hout
    go_wp2_with fail
    refine (spec_NoteYes HV.out HL.out HN.out rfl hl2 (SL.out _ hk3)).mono ?_
    rintro e w4 ⟨A4, c4, rfl, hown, hb4⟩
    have hk4 : Below wq.heap.size wq w4 := bstep hk3 hb4 hk3.size
    obtain ⟨x0, x1, x2, xz⟩ := EC.out w4 hk4
    have HO4 := Lib.hid (HO3.out.below hb4)
    have HW4 := Lib.hid hown
    clear hown
    go_wp2_with fail
    refine (eqCts (l := L) (l' := L) (r := true) (decide_eq_true rfl) HN.out.symm HN.out.symm hL2 hL2 HO4.out.1 HW4.out.sl).mono ?_
    rintro e w5 ⟨rfl, hb5⟩
    have hk5 : Below wq.heap.size wq w5 := bstep hk4 hb5 hk4.size
    obtain ⟨x0, x1, x2, xz⟩ := EC.out w5 hk5
    have HO := Lib.hid (HO4.out.below hb5)
    have HW := Lib.hid (HW4.out.sl.below hb5)
    have SL5 := Lib.hid (fun W (h : Below w5.heap.size w5 W) => SL.out W (hk5.trans (h.mono hk5.size)))
    have OL5 := Lib.hid (fun W (h : Below w5.heap.size w5 W) => HO.out.1.below h)
    have WL5 := Lib.hid (fun W (h : Below w5.heap.size w5 W) => HW.out.below h)
    have EC5 := Lib.hid (fun W (h : Below w5.heap.size w5 W) => EC.out W (hk5.trans (h.mono hk5.size)))
    have HB5 := Lib.hid (HB.out.trans (hk5.mono HB.out.size))
    clear hb3 hb4 hb5 hk hk3 hk4 hk5 HO4 HO3 HW4 SL EC
    have hk : Below w5.heap.size w5 w5 := Below.refl _ _
    obtain ⟨m, rfl⟩ : ∃ m, n = m + 1 := ⟨n - 1, by omega⟩
    have hg := noteC_good HV1.out HV2.out
    have hm := noteC_mem l1 ⟨p, a, q⟩
    have hlast := noteC_last l1 ⟨p, a, q⟩
    rw [HL.out] at hg hm hlast
    rw [HN.out, Nat.add_sub_cancel] at hlast
    obtain ⟨b, o, rfl, hbs, hcr⟩ := HO.out.1.base (i := m) (by rw [HN.out]; omega)
    obtain ⟨e0, e1, e2⟩ := hcr.ct (Below.refl w5.heap.size w5) hbs hlast
    have d0 : ∀ y : BW w5.heap.size w5, y.w.cell? ⟨b, o + m * 3, none⟩ = some (.int .i64 p) := bwCell hbs e0
    have d1 : ∀ y : BW w5.heap.size w5, y.w.cell? ⟨b, o + m * 3 + 1, none⟩ = some (.int .i64 a) := bwCell hbs e1
    have d2 : ∀ y : BW w5.heap.size w5, y.w.cell? ⟨b, o + m * 3 + 2, none⟩ = some (.int .i64 q) := bwCell hbs e2
    have y0 : ∀ y : BW w5.heap.size w5, y.w.cell? ⟨w2.heap.size, 0, none⟩ = some (.int .i64 p) := bwCell xz x0
    have y1 : ∀ y : BW w5.heap.size w5, y.w.cell? ⟨w2.heap.size, 1, none⟩ = some (.int .i64 a) := bwCell xz x1
    have y2 : ∀ y : BW w5.heap.size w5, y.w.cell? ⟨w2.heap.size, 2, none⟩ = some (.int .i64 q) := bwCell xz x2
    have C1 := Lib.hid (fun (y : BW w5.heap.size w5) => impl_VC hg HN.out.symm hL2 (OL5.out y.w y.h))
    have C2 := Lib.hid (fun (y : BW w5.heap.size w5) => impl_LI (letsIn_own hg hm) HN.out.symm hL2 (OL5.out y.w y.h))
    have E := eqCt p a q p a q (r := true) (decide_eq_true rfl)
    have b0 : (0 : Int) ≤ (m : Int) := by omega
    have b1 : (m : Int) + 1 ≤ 10 := by omega
    clear hg hm hlast hcr e0 e1 e2 x0 x1 x2
    have q1 : IntKind.i64.wrap ((m : Int) + 1 - 1) = (m : Int) := by rw [show (m : Int) + 1 - 1 = (m : Int) from by omega]; exact IntWalk.i64_in _ (by omega)
    have q2 : (m : Int).toNat = m := by omega
    have q3 : (m : Int) < (m : Int) + 1 := by omega
    go_wp2_with fail
    refine wp_region_bw w5.heap.size w5 (Below.refl _ _) (by kernel_rfl) (by kernel_rfl) ?_
    repeat (go_big_quiet_step (first | (go_at_call 18; exact bwCall (Nat.le_refl _) (C1.out _)) | (go_at_call 24; exact bwCall (Nat.le_refl _) (C2.out _))))
    refine wpQuiet_nil ?_
    rintro _ ⟨⟨w6, h6⟩, rfl⟩
    go_wp2
    go_ret
    exact ⟨rfl, HB5.out.trans (h6.mono HB5.out.size)⟩
end Go.Proofs.Ytafmalklgecomaa
