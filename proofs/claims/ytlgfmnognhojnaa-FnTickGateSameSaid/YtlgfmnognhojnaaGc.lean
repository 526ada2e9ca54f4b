/- The reference's validGate, walked. -/
import Derived.Test.YtlgfmnognhojnaaGb
namespace Go.Proofs.Ytlgfmnognhojnaa
open Go.RowKit
set_option maxHeartbeats 8000000 in
theorem spec_validGate (b n o f h t : Int) (T : List Mp) (C : List Ct) (At Ac : Option Addr) (ct cc nt nc : Nat) (w : World) (hnt : nt = T.length) (hnc : nc = C.length) (hlT : T.length ≤ 2000000) (hlC : C.length ≤ 2000000) (hT : Sl encM 4 w At ct T) (hC : Sl encC 3 w Ac cc C) :
    Calls Try.prog 30 #[.agg #[.int .i64 b, .int .i64 n, .int .i64 o, .slice At nt ct, .slice Ac nc cc, .int .i64 f, .int .i64 h, .int .i64 t]] w (Ret w (.bool (okG ⟨b, n, o, T, C, f, h, t⟩))) := by
  obtain ⟨wq, hwq⟩ : ∃ y, y = w.alloc (.cells #[.int .i64 b, .int .i64 n, .int .i64 o, .slice At nt ct, .slice Ac nc cc, .int .i64 f, .int .i64 h, .int .i64 t] 28) := ⟨_, rfl⟩
  have hq : Below w.heap.size w wq := by subst hwq; exact (Below.refl _ _).alloc (Nat.le_refl _) _
  have hzq : w.heap.size < wq.heap.size := by subst hwq; simp
  have bg : BlAt wq w.heap.size #[.int .i64 b, .int .i64 n, .int .i64 o, .slice At nt ct, .slice Ac nc cc, .int .i64 f, .int .i64 h, .int .i64 t] := by subst hwq; exact BlAt.new _ _ _
  have BG := Lib.hid (fun W (h : Below wq.heap.size wq W) => bg.below h hzq)
  have ST := Lib.hid (fun W (h : Below wq.heap.size wq W) => hT.below (hq.trans (h.mono hq.size)))
  have SC := Lib.hid (fun W (h : Below wq.heap.size wq W) => hC.below (hq.trans (h.mono hq.size)))
  have WQ := Lib.hid hwq
  have hk0 : Below wq.heap.size wq wq := Below.refl _ _
  clear hwq hT hC bg
  obtain ⟨r0, hr0⟩ : ∃ r, okN b n = r := ⟨_, rfl⟩
  have R0 := Lib.hid hr0
  obtain ⟨r1, hr1⟩ : ∃ r, isW o = r := ⟨_, rfl⟩
  have R1 := Lib.hid hr1
  obtain ⟨r2, hr2⟩ : ∃ r, hasN b n o = r := ⟨_, rfl⟩
  have R2 := Lib.hid hr2
  obtain ⟨r3, hr3⟩ : ∃ r, vM T = r := ⟨_, rfl⟩
  have R3 := Lib.hid hr3
  obtain ⟨r4, hr4⟩ : ∃ r, vC C = r := ⟨_, rfl⟩
  have R4 := Lib.hid hr4
  obtain ⟨r5, hr5⟩ : ∃ r, inR f 0 2 = r := ⟨_, rfl⟩
  have R5 := Lib.hid hr5
  obtain ⟨r6, hr6⟩ : ∃ r, inR h 1 500 = r := ⟨_, rfl⟩
  have R6 := Lib.hid hr6
  obtain ⟨r7, hr7⟩ : ∃ r, inR t 0 10000 = r := ⟨_, rfl⟩
  have R7 := Lib.hid hr7
  have hv : okG ⟨b, n, o, T, C, f, h, t⟩ = ((r0 && (r1 && (!r2 && (r3 && (r4 && (r5 && (r6 && r7))))))) && (T.all (okMg b n t h) && C.all (okCg T))) := by
    unfold okG headG
    show ((okN b n && (isW o && (!hasN b n o && (vM T && (vC C && (inR f 0 2 && (inR h 1 500 && inR t 0 10000))))))) && _) = _
    rw [hr0, hr1, hr2, hr3, hr4, hr5, hr6, hr7]
  rw [hv]
  have HNT := Lib.hid hnt
  have HNC := Lib.hid hnc
  clear hv hr0 hr1 hr2 hr3 hr4 hr5 hr6 hr7 hnt hnc
  obtain ⟨x0, x1, x2, x3, x4, x5, x6, x7⟩ := gcells (BG.out wq hk0)
  go_enter Try.func30, Try.ntmps30
  go_wp2_with fail
  rw [← WQ.out]
  clear x0 x1 x2 x3 x4 x5 x6 x7
  refine (spec_validNet b n _).mono ?_
  rintro e w1 ⟨rfl, hk1⟩
  rw [R0.out]
  cases r0
  · go_wp2
    go_ret
    exact ⟨rfl, hq.trans (hk1.mono hq.size)⟩
  obtain ⟨x0, x1, x2, x3, x4, x5, x6, x7⟩ := gcells (BG.out w1 hk1)
  go_wp2_with fail
  refine (spec_validAddr o _).mono ?_
  rintro e w' ⟨rfl, rfl⟩
  rw [R1.out]
  cases r1
  · go_wp2
    go_ret
    exact ⟨rfl, hq.trans (hk1.mono hq.size)⟩
  obtain ⟨h0, h1⟩ := okN_bits R0.out
  obtain ⟨b0, b1⟩ := okN_base R0.out
  go_wp2_with fail
  refine (spec_inNet b n o _ h0 h1 b0 b1).mono ?_
  rintro e w2 ⟨rfl, hb2⟩
  rw [R2.out]
  have hk2 := bstep hk1 hb2 hk1.size
  clear x0 x1 x2 x3 x4 x5 x6 x7
  cases r2
  rotate_left
  · go_wp2
    go_ret
    exact ⟨rfl, hq.trans (hk2.mono hq.size)⟩
  obtain ⟨x0, x1, x2, x3, x4, x5, x6, x7⟩ := gcells (BG.out w2 hk2)
  go_wp2_with fail
  refine (spec_VTt R3.out HNT.out hlT (ST.out _ hk2)).mono ?_
  rintro e w3 ⟨rfl, hb3⟩
  have hk3 := bstep hk2 hb3 hk2.size
  clear x0 x1 x2 x3 x4 x5 x6 x7
  cases r3
  · go_wp2
    go_ret
    exact ⟨rfl, hq.trans (hk3.mono hq.size)⟩
  obtain ⟨x0, x1, x2, x3, x4, x5, x6, x7⟩ := gcells (BG.out w3 hk3)
  go_wp2_with fail
  refine (spec_VCc R4.out HNC.out hlC (SC.out _ hk3)).mono ?_
  rintro e w4 ⟨rfl, hb4⟩
  have hk4 := bstep hk3 hb4 hk3.size
  clear x0 x1 x2 x3 x4 x5 x6 x7
  cases r4
  · go_wp2
    go_ret
    exact ⟨rfl, hq.trans (hk4.mono hq.size)⟩
  obtain ⟨x0, x1, x2, x3, x4, x5, x6, x7⟩ := gcells (BG.out w4 hk4)
  go_wp2_with fail
  refine (spec_inRange f 0 2 _).mono ?_
  rintro e w' ⟨rfl, rfl⟩
  rw [R5.out]
  cases r5
  · go_wp2
    go_ret
    exact ⟨rfl, hq.trans (hk4.mono hq.size)⟩
  go_wp2_with fail
  refine (spec_inRange h 1 500 _).mono ?_
  rintro e w' ⟨rfl, rfl⟩
  rw [R6.out]
  cases r6
  · go_wp2
    go_ret
    exact ⟨rfl, hq.trans (hk4.mono hq.size)⟩
  go_wp2_with fail
  refine (spec_inRange t 0 10000 _).mono ?_
  rintro e w' ⟨rfl, rfl⟩
  rw [R7.out]
  cases r7
  · go_wp2
    go_ret
    exact ⟨rfl, hq.trans (hk4.mono hq.size)⟩
  go_wp2
  clear x0 x1 x2 x3 x4 x5 x6 x7
  obtain ⟨t0, t1⟩ := inR_iff.1 R7.out
  have HLT := Lib.hid (fun (x : Mp) (hx : x ∈ T) => last_in R3.out hx)
  go_loopw [3] (fun i wr => ∃ k : Nat, k ≤ T.length ∧ i = .int .i64 k ∧ Below wq.heap.size wq wr ∧ ∀ x ∈ T.take k, okMg b n t h x = true) (fun i _ => T.length - (intOf i).toNat)
  case atStart => exact ⟨0, Nat.zero_le _, rfl, hk4, by simp⟩
  case round =>
    obtain ⟨k, hk, rfl, hb, hn⟩ := hrel
    have HN := Lib.hid hn
    clear hn hk4 hb4 hk3 hb3 hk2 hb2 hk1
    obtain ⟨x0, x1, x2, x3, x4, x5, x6, x7⟩ := gcells (BG.out wr hb)
    by_cases hlt : k < T.length
    · have hlc := (ST.out _ hb).1
      obtain ⟨B, O, rfl, hbs, hc⟩ := (ST.out _ hb).base hlt
      obtain ⟨a, q, p, l, hx⟩ := mt_at hlt
      have hm := HLT.out _ (List.mem_of_getElem? hx)
      obtain ⟨l0, l1⟩ := hm
      have X := Lib.hid hx
      have hntk : k < nt := by rw [HNT.out]; exact hlt
      have hntc : nt ≤ ct := by rw [HNT.out]; exact hlc
      have dd := Lib.hid (fun (y : BW wr.heap.size wr) => hc.mt y.h hbs hx)
      have c0 : ∀ y : BW wr.heap.size wr, y.w.cell? ⟨B, O + k * 4, none⟩ = some (.int .i64 a) := fun y => (dd.out y).1
      have c1 : ∀ y : BW wr.heap.size wr, y.w.cell? ⟨B, O + k * 4 + 1, none⟩ = some (.int .i64 q) := fun y => (dd.out y).2.1
      have c2 : ∀ y : BW wr.heap.size wr, y.w.cell? ⟨B, O + k * 4 + 2, none⟩ = some (.int .i64 p) := fun y => (dd.out y).2.2.1
      have c3 : ∀ y : BW wr.heap.size wr, y.w.cell? ⟨B, O + k * 4 + 3, none⟩ = some (.int .i64 l) := fun y => (dd.out y).2.2.2
      have gg := Lib.hid (fun (y : BW wr.heap.size wr) => gcells (BG.out _ (bstep hb y.h hb.size)))
      have g0 : ∀ y : BW wr.heap.size wr, y.w.cell? ⟨w.heap.size, 0, none⟩ = some (.int .i64 b) := fun y => (gg.out y).1
      have g1 : ∀ y : BW wr.heap.size wr, y.w.cell? ⟨w.heap.size, 1, none⟩ = some (.int .i64 n) := fun y => (gg.out y).2.1
      have g3 : ∀ y : BW wr.heap.size wr, y.w.cell? ⟨w.heap.size, 3, none⟩ = some (.slice (some ⟨B, O, none⟩) nt ct) := fun y => (gg.out y).2.2.2.1
      have g6 : ∀ y : BW wr.heap.size wr, y.w.cell? ⟨w.heap.size, 6, none⟩ = some (.int .i64 h) := fun y => (gg.out y).2.2.2.2.2.2.1
      have g7 : ∀ y : BW wr.heap.size wr, y.w.cell? ⟨w.heap.size, 7, none⟩ = some (.int .i64 t) := fun y => (gg.out y).2.2.2.2.2.2.2
      clear hc hx
      obtain ⟨r, hr⟩ : ∃ r, hasN b n a = r := ⟨_, rfl⟩
      have HR := Lib.hid hr
      have C1 := Lib.hid (fun W => hr ▸ spec_inNet b n a W h0 h1 b0 b1)
      clear hr
      cases r
      · go_wp2_with fail
        refine wp_region_bw wr.heap.size wr (Below.refl _ _) (by kernel_rfl) (by kernel_rfl) ?_
        repeat (go_big_quiet_step (first | (go_at_call 73; exact bwCall (Nat.le_refl _) (C1.out _))))
        refine wpQuiet_nil ?_
        rintro _ ⟨⟨w5, h5⟩, rfl⟩
        go_wp2
        go_ret
        have hk5 := bstep hb h5 hb.size
        have hf : T.all (okMg b n t h) = false := all_bad X.out (by unfold okMg; rw [HR.out]; rfl)
        exact ⟨by rw [hf]; rfl, hq.trans (hk5.mono hq.size)⟩
      by_cases htl : t < l
      · go_wp2_with fail
        refine wp_region_bw wr.heap.size wr (Below.refl _ _) (by kernel_rfl) (by kernel_rfl) ?_
        repeat (go_big_quiet_step (first | (go_at_call 73; exact bwCall (Nat.le_refl _) (C1.out _))))
        refine wpQuiet_nil ?_
        rintro _ ⟨⟨w5, h5⟩, rfl⟩
        go_wp2
        go_ret
        have hk5 := bstep hb h5 hb.size
        have hf : T.all (okMg b n t h) = false := all_bad X.out (by unfold okMg; rw [decide_eq_false (show ¬ l ≤ t by omega)]; simp)
        exact ⟨by rw [hf]; rfl, hq.trans (hk5.mono hq.size)⟩
      have hdl : decide (t < l) = false := decide_eq_false htl
      obtain ⟨s, hs⟩ : ∃ s, exq t h ⟨a, q, p, l⟩ = s := ⟨_, rfl⟩
      have HS := Lib.hid hs
      have C2 := Lib.hid (fun W => hs ▸ spec_expired a q p l t h W t0 t1 l0 l1)
      clear hs
      cases s
      all_goals
        go_wp2_with fail
        refine wp_region_bw wr.heap.size wr (Below.refl _ _) (by kernel_rfl) (by kernel_rfl) ?_
        repeat (go_big_quiet_step (first | (go_at_call 73; exact bwCall (Nat.le_refl _) (C1.out _)) | (go_at_call 76; exact bwCall (Nat.le_refl _) (C2.out _))))
        refine wpQuiet_nil ?_
        rintro _ ⟨⟨w5, h5⟩, rfl⟩
        clear x0 x1 x2 x3 x4 x5 x6 x7
        go_wp2
        have hk5 := bstep hb h5 hb.size
      · go_roundw
        case rel => exact ⟨k + 1, by omega, by go_num, hk5, all_step X.out (by unfold okMg; rw [HR.out, HS.out, decide_eq_true (show l ≤ t by omega)]; rfl) HN.out⟩
        case measure => simp [intOf]; omega
      · go_ret
        have hf : T.all (okMg b n t h) = false := all_bad X.out (by unfold okMg; rw [HS.out]; simp)
        exact ⟨by rw [hf]; rfl, hq.trans (hk5.mono hq.size)⟩
    · have hkl : k = T.length := by omega
      have hall : T.all (okMg b n t h) = true := by
        have := HN.out
        rw [hkl, List.take_length] at this
        exact List.all_eq_true.2 this
      have HALL := Lib.hid hall
      have hntk : ¬ k < nt := by rw [HNT.out]; exact hlt
      clear hall hkl
      go_wp2
      clear x0 x1 x2 x3 x4 x5 x6 x7
      go_loopw [4] (fun i wr => ∃ k : Nat, k ≤ C.length ∧ i = .int .i64 k ∧ Below wq.heap.size wq wr ∧ ∀ x ∈ C.take k, okCg T x = true) (fun i _ => C.length - (intOf i).toNat)
      case atStart => exact ⟨0, Nat.zero_le _, rfl, hb, by simp⟩
      case round =>
        obtain ⟨j, hj, rfl, hb', hn⟩ := hrel
        have HN2 := Lib.hid hn
        clear hn hb
        obtain ⟨x0, x1, x2, x3, x4, x5, x6, x7⟩ := gcells (BG.out _ hb')
        by_cases hlt2 : j < C.length
        · have hlc := (SC.out _ hb').1
          obtain ⟨B, O, rfl, hbs, hc⟩ := (SC.out _ hb').base hlt2
          obtain ⟨p, a, q, hx⟩ := ct_at hlt2
          have X := Lib.hid hx
          have hncj : j < nc := by rw [HNC.out]; exact hlt2
          have hncc : nc ≤ cc := by rw [HNC.out]; exact hlc
          have HBF := Lib.hid (byP_free T p)
          have dd := Lib.hid (fun (y : BW wr.heap.size wr) => hc.ct y.h hbs hx)
          have c0 : ∀ y : BW wr.heap.size wr, y.w.cell? ⟨B, O + j * 3, none⟩ = some (.int .i64 p) := fun y => (dd.out y).1
          have gg := Lib.hid (fun (y : BW wr.heap.size wr) => gcells (BG.out _ (bstep hb' y.h hb'.size)))
          have g3 : ∀ y : BW wr.heap.size wr, y.w.cell? ⟨w.heap.size, 3, none⟩ = some (.slice At nt ct) := fun y => (gg.out y).2.2.2.1
          have g4 : ∀ y : BW wr.heap.size wr, y.w.cell? ⟨w.heap.size, 4, none⟩ = some (.slice (some ⟨B, O, none⟩) nc cc) := fun y => (gg.out y).2.2.2.2.1
          have C1 := Lib.hid (fun (y : BW wr.heap.size wr) => spec_byPort At ct nt T p y.w HNT.out hlT (ST.out _ (bstep hb' y.h hb'.size)))
          clear hc hx
          obtain ⟨v, hv⟩ : ∃ v, byP T p = v := ⟨_, rfl⟩
          have HV := Lib.hid hv
          clear hv
          by_cases hs : v < 0
          · have hds : decide (v < 0) = true := decide_eq_true hs
            go_wp2_with fail
            refine wp_region_bw wr.heap.size wr (Below.refl _ _) (by kernel_rfl) (by kernel_rfl) ?_
            repeat (go_big_quiet_step (first | (go_at_call 77; exact bwSame (HV.out ▸ C1.out _))))
            refine wpQuiet_nil ?_
            rintro _ ⟨⟨w5, h5⟩, rfl⟩
            clear x0 x1 x2 x3 x4 x5 x6 x7
            go_wp2
            have hk5 := bstep hb' h5 hb'.size
            have hu : used T p = false := by have := HBF.out; rw [HV.out, hds] at this; simpa using this.symm
            go_ret
            have hf : C.all (okCg T) = false := all_bad X.out hu
            exact ⟨by rw [hf]; simp, hq.trans (hk5.mono hq.size)⟩
          · have hds : decide (v < 0) = false := decide_eq_false hs
            go_wp2_with fail
            refine wp_region_bw wr.heap.size wr (Below.refl _ _) (by kernel_rfl) (by kernel_rfl) ?_
            repeat (go_big_quiet_step (first | (go_at_call 77; exact bwSame (HV.out ▸ C1.out _))))
            refine wpQuiet_nil ?_
            rintro _ ⟨⟨w5, h5⟩, rfl⟩
            clear x0 x1 x2 x3 x4 x5 x6 x7
            have hu : used T p = true := by have := HBF.out; rw [HV.out, hds] at this; simpa using this.symm
            have HU := Lib.hid hu
            clear hu
            go_wp2
            have hk5 := bstep hb' h5 hb'.size
            go_roundw
            case rel => exact ⟨j + 1, by omega, by go_num, hk5, all_step X.out HU.out HN2.out⟩
            case measure => simp [intOf]; omega
        · have hkl : j = C.length := by omega
          have hall : C.all (okCg T) = true := by
            have := HN2.out
            rw [hkl, List.take_length] at this
            exact List.all_eq_true.2 this
          have HALL2 := Lib.hid hall
          have hncj : ¬ j < nc := by rw [HNC.out]; exact hlt2
          clear hall hkl
          go_wp2
          go_ret
          exact ⟨by rw [HALL.out, HALL2.out]; rfl, hq.trans (hb'.mono hq.size)⟩
theorem spec_ValidGate (b n o f h t : Int) (T : List Mp) (C : List Ct) (At Ac : Option Addr) (ct cc nt nc : Nat) (w : World) (hnt : nt = T.length) (hnc : nc = C.length) (hlT : T.length ≤ 2000000) (hlC : C.length ≤ 2000000) (hT : Sl encM 4 w At ct T) (hC : Sl encC 3 w Ac cc C) :
    Calls Try.prog 16 #[.agg #[.int .i64 b, .int .i64 n, .int .i64 o, .slice At nt ct, .slice Ac nc cc, .int .i64 f, .int .i64 h, .int .i64 t]] w (Ret w (.bool (okG ⟨b, n, o, T, C, f, h, t⟩))) := by
  obtain ⟨wq, hwq⟩ : ∃ y, y = w.alloc (.cells #[.int .i64 b, .int .i64 n, .int .i64 o, .slice At nt ct, .slice Ac nc cc, .int .i64 f, .int .i64 h, .int .i64 t] 28) := ⟨_, rfl⟩
  have hq : Below w.heap.size w wq := by subst hwq; exact (Below.refl _ _).alloc (Nat.le_refl _) _
  have hzq : w.heap.size < wq.heap.size := by subst hwq; simp
  have bg : BlAt wq w.heap.size #[.int .i64 b, .int .i64 n, .int .i64 o, .slice At nt ct, .slice Ac nc cc, .int .i64 f, .int .i64 h, .int .i64 t] := by subst hwq; exact BlAt.new _ _ _
  have BG := Lib.hid (fun W (h : Below wq.heap.size wq W) => bg.below h hzq)
  have ST := Lib.hid (fun W (h : Below wq.heap.size wq W) => hT.below (hq.trans (h.mono hq.size)))
  have SC := Lib.hid (fun W (h : Below wq.heap.size wq W) => hC.below (hq.trans (h.mono hq.size)))
  have WQ := Lib.hid hwq
  have hk0 : Below wq.heap.size wq wq := Below.refl _ _
  clear hwq hT hC bg
  obtain ⟨x0, x1, x2, x3, x4, x5, x6, x7⟩ := gcells (BG.out wq hk0)
  have HNT := Lib.hid hnt
  have HNC := Lib.hid hnc
  clear hnt hnc
  go_enter Try.func16, Try.ntmps16
  go_wp2_with fail
  rw [← WQ.out]
  refine (spec_validGate b n o f h t T C At Ac ct cc nt nc _ HNT.out HNC.out hlT hlC (ST.out _ hk0) (SC.out _ hk0)).mono ?_
  rintro e w2 ⟨rfl, hb2⟩
  go_wp2
  go_ret
  exact ⟨rfl, hq.trans (hb2.mono hq.size)⟩
end Go.Proofs.Ytlgfmnognhojnaa
