/- Time passing in gates: the reference's tick and TickGate. -/
import Derived.Test.YtlgfmnognhojnaaGe
namespace Go.Proofs.Ytlgfmnognhojnaa
open Go.RowKit
theorem dropAll_take {I : List Int} {k : Nat} {x : Int} (C : List Ct) (h : I[k]? = some x) : dropAll (I.take (k + 1)) C = dropC (dropAll (I.take k) C) x := by rw [take_succ h, dropAll_snoc]
theorem dropV_take {I : List Int} {k : Nat} {C : List Ct} (x : Int) (hC : vC C = true) : dropV (dropAll (I.take k) C) x = dropC (dropAll (I.take k) C) x := (dropV_good (dropAll_vC hC)).1
theorem setCell_size (w : World) (p : Addr) (u : Value) : (w.setCell p u).heap.size = w.heap.size := by simp
set_option maxRecDepth 4000 in
set_option maxHeartbeats 8000000 in
theorem spec_tick (b n o f h t : Int) (T : List Mp) (C : List Ct) (At Ac : Option Addr) (ct cc nt nc : Nat) (w : World) (hnt : nt = T.length) (hnc : nc = C.length) (hlT : T.length ≤ 2000000) (hlC : C.length ≤ 2000000) (hT : Sl encM 4 w At ct T) (hC : Sl encC 3 w Ac cc C) (now : Int) (hok : okG ⟨b, n, o, T, C, f, h, t⟩ = true) (hnow : inR now t 10000 = true) (T' : List Mp) (C' : List Ct) (mT mC : Nat) (hT' : keep (exq now h) T = T') (hC' : dropAll (goneOf now h T) C = C') (hmT : T'.length = mT) (hmC : C'.length = mC) :
    Calls Try.prog 32 #[.agg #[.int .i64 b, .int .i64 n, .int .i64 o, .slice At nt ct, .slice Ac nc cc, .int .i64 f, .int .i64 h, .int .i64 t], .int .i64 now] w (fun e w' => ∃ A1 c1 A2 c2, e = .returned (.agg #[.int .i64 b, .int .i64 n, .int .i64 o, .slice A1 mT c1, .slice A2 mC c2, .int .i64 f, .int .i64 h, .int .i64 now]) ∧ Out encM 4 w.heap.size w' A1 c1 T' ∧ Out encC 3 w.heap.size w' A2 c2 C' ∧ Below w.heap.size w w') := by
  subst hnt
  subst hnc
  obtain ⟨wq, hwq⟩ : ∃ y, y = (w.alloc (.cells #[.int .i64 b, .int .i64 n, .int .i64 o, .slice At T.length ct, .slice Ac C.length cc, .int .i64 f, .int .i64 h, .int .i64 t] 28)).alloc (.cells #[.int .i64 0, .int .i64 0, .int .i64 0, .slice none 0 0, .slice none 0 0, .int .i64 0, .int .i64 0, .int .i64 0] 28) := ⟨_, rfl⟩
  have hq : Below w.heap.size w wq := by subst hwq; exact ((Below.refl _ _).alloc (Nat.le_refl _) _).alloc (by simp) _
  have hzq : wq.heap.size = w.heap.size + 1 + 1 := by subst hwq; simp
  have bg : BlAt wq w.heap.size #[.int .i64 b, .int .i64 n, .int .i64 o, .slice At T.length ct, .slice Ac C.length cc, .int .i64 f, .int .i64 h, .int .i64 t] := by subst hwq; exact (BlAt.new _ _ _).alloc _
  have bz : BlAt wq (w.heap.size + 1) #[.int .i64 0, .int .i64 0, .int .i64 0, .slice none 0 0, .slice none 0 0, .int .i64 0, .int .i64 0, .int .i64 0] := by
    subst hwq
    have := BlAt.new (w.alloc (.cells #[.int .i64 b, .int .i64 n, .int .i64 o, .slice At T.length ct, .slice Ac C.length cc, .int .i64 f, .int .i64 h, .int .i64 t] 28)) 28 #[.int .i64 0, .int .i64 0, .int .i64 0, .slice none 0 0, .slice none 0 0, .int .i64 0, .int .i64 0, .int .i64 0]
    rw [alloc_size] at this
    exact this
  have BG := Lib.hid (fun W (h : Below wq.heap.size wq W) => bg.below h (by omega))
  have BZ := Lib.hid (fun W (h : Below wq.heap.size wq W) => bz.below h (by omega))
  have ST := Lib.hid (fun W (h : Below wq.heap.size wq W) => hT.below (hq.trans (h.mono hq.size)))
  have SC := Lib.hid (fun W (h : Below wq.heap.size wq W) => hC.below (hq.trans (h.mono hq.size)))
  have WQ := Lib.hid hwq
  have hk0 : Below wq.heap.size wq wq := Below.refl _ _
  have htim : tim T now h = true := okG_tim hok hnow
  have hvC : vC C = true := (okG_iff.1 hok).1.C
  obtain ⟨hvT, ⟨n0, n1⟩, _⟩ := tim_iff.1 htim
  have HLT := Lib.hid (fun (x : Mp) (hx : x ∈ T) => last_in hvT hx)
  obtain ⟨I, hI⟩ : ∃ I, goneOf now h T = I := ⟨_, rfl⟩
  obtain ⟨mI, hmI⟩ : ∃ m, I.length = m := ⟨_, rfl⟩
  have hIV : goneV T now h = I := by unfold goneV; rw [if_pos htim, hI]
  have hIl : I.length ≤ T.length := by rw [← hI]; exact goneOf_len _ _ _
  have HIV := Lib.hid hIV
  have HMI := Lib.hid hmI
  have HTT := Lib.hid hT'
  have HCC := Lib.hid (hI ▸ hC')
  have HMT := Lib.hid hmT
  have HMC := Lib.hid hmC
  have HVC := Lib.hid hvC
  have hI2 : mI ≤ 2000000 := by omega
  have HS1 := Lib.hid (show w.heap.size + 1 < wq.heap.size by omega)
  clear hwq hT hC bz hzq hok hnow htim hvC hvT hI hIV hT' hC' hmT hmC hmI hIl
  obtain ⟨x0, x1, x2, x3, x4, x5, x6, x7⟩ := gcells (bg)
  clear bg
  go_enter Try.func32, Try.ntmps32
  go_wp2_with fail
  rw [← WQ.out]
  refine (spec_copyGate b n o f h t T C At Ac ct cc _ _ _ rfl rfl hlT hlC (ST.out _ hk0) (SC.out _ hk0)).mono ?_
  rintro e w2 ⟨A1, c1, A2, c2, rfl, o1, o2, hb2⟩
  clear x0 x1 x2 x3 x4 x5 x6 x7
  obtain ⟨w3, hw3⟩ : ∃ y, y = w2.alloc (.cells #[.int .i64 b, .int .i64 n, .int .i64 o, .slice A1 T.length c1, .slice A2 C.length c2, .int .i64 f, .int .i64 h, .int .i64 t] 28) := ⟨_, rfl⟩
  have hb3 : Below w2.heap.size w2 w3 := by subst hw3; exact (Below.refl _ _).alloc (Nat.le_refl _) _
  have bo : BlAt w3 w2.heap.size #[.int .i64 b, .int .i64 n, .int .i64 o, .slice A1 T.length c1, .slice A2 C.length c2, .int .i64 f, .int .i64 h, .int .i64 t] := by subst hw3; exact BlAt.new _ _ _
  have z23 : w2.heap.size < w3.heap.size := bo.lt
  have z12 := hb2.size
  have hk3 := bstep hb2 hb3 hb2.size
  have BO := Lib.hid bo
  have OC := Lib.hid (o2.below hb3)
  have HNE := Lib.hid (show ∀ g, Go.Proofs.Ytlgfmnognhojnaa.blk A2 = some g → C ≠ [] → w2.heap.size ≠ g from fun g hg hne => by have := (o2.span g hg hne).2; omega)
  have W3 := Lib.hid hw3
  have hlb := (BG.out w2 hb2).lt
  obtain ⟨x0, x1, x2, x3, x4, x5, x6, x7⟩ := gcells (BG.out w2 hb2)
  clear o1 o2 hw3 bo hb3
  go_wp2_with fail
  rw [← W3.out]
  refine (spec_EP HIV.out HMI.out rfl hlT (ST.out _ hk3)).mono ?_
  rintro e w4 ⟨Ai, ci, rfl, hoi, hb4⟩
  have z34 := hb4.size
  have hk4 := bstep hk3 hb4 hk3.size
  have OI := Lib.hid hoi.out
  have BO4 := Lib.hid (BO.out.below_ hb4)
  have OC4 := Lib.hid (OC.out.below hb4)
  clear x0 x1 x2 x3 x4 x5 x6 x7
  clear hoi hb4
  go_wp2
  go_loopw [7] (fun i wr => ∃ k : Nat, k ≤ I.length ∧ i = .int .i64 k ∧ Below wq.heap.size wq wr ∧ w3.heap.size ≤ wr.heap.size ∧ Out encI 1 w3.heap.size wr Ai ci I ∧ ∃ Ac' cc', BlAt wr w2.heap.size #[.int .i64 b, .int .i64 n, .int .i64 o, .slice A1 T.length c1, .slice Ac' (dropAll (I.take k) C).length cc', .int .i64 f, .int .i64 h, .int .i64 t] ∧ Out encC 3 wq.heap.size wr Ac' cc' (dropAll (I.take k) C) ∧ ∀ g, Go.Proofs.Ytlgfmnognhojnaa.blk Ac' = some g → (dropAll (I.take k) C) ≠ [] → w2.heap.size ≠ g) (fun i _ => I.length - (intOf i).toNat)
  case atStart => exact ⟨0, Nat.zero_le _, rfl, hk4, z34, OI.out, A2, c2, BO4.out, OC4.out, HNE.out⟩
  case round =>
    obtain ⟨k, hk, rfl, hb, hz, hoi, Ad, cd, hbo, hod, hne⟩ := hrel
    obtain ⟨L, hL⟩ : ∃ L, (dropAll (I.take k) C) = L := ⟨_, rfl⟩
    rw [hL] at hbo hod hne
    have HNL := Lib.hid hne
    clear hne
    have hLc : L.length ≤ C.length := by rw [← hL]; exact dropAll_len _ _
    have HL := Lib.hid hL
    have OIr := Lib.hid hoi
    have BOr := Lib.hid hbo
    have ODr := Lib.hid hod
    have hlo := hbo.lt
    clear hL hoi hbo hod hk4
    by_cases hlt : k < I.length
    · obtain ⟨B, O, rfl, hbs, hc⟩ := OIr.out.1.base hlt
      have hci := OIr.out.1.1
      obtain ⟨x, hx⟩ : ∃ x, I[k]? = some x := ⟨_, List.getElem?_eq_getElem hlt⟩
      have d0 := hc.inn (Below.refl _ _) hbs hx
      have hki : k < mI := by rw [← HMI.out]; exact hlt
      have hmc : mI ≤ ci := by rw [← HMI.out]; exact hci
      have HDV := Lib.hid (show dropV L x = dropAll (I.take (k + 1)) C by rw [dropAll_take C hx, ← HL.out]; exact dropV_take x HVC.out)
      obtain ⟨L', hL'⟩ : ∃ L', dropAll (I.take (k + 1)) C = L' := ⟨_, rfl⟩
      obtain ⟨m', hm'⟩ : ∃ m', L'.length = m' := ⟨_, rfl⟩
      have SD := Lib.hid (show Sl encC 3 wr.drew Ad cd L from ODr.out.1)
      have HL' := Lib.hid hL'
      have HM' := Lib.hid hm'
      obtain ⟨x0, x1, x2, x3, x4, x5, x6, x7⟩ := gcells (BOr.out)
      clear hc hx hL' hm'
      go_wp2_with fail
      go_still_tail 6, (by kernel_rfl)
      change wpList _ _ _ _ _ wr.drew
      go_wp2_with fail
      refine (spec_Drop (L := L') (m := m') (HDV.out.trans HL'.out) HM'.out rfl (by omega) SD.out).mono ?_
      rintro e w6 ⟨A6, c6, rfl, ho6, hb6⟩
      have hb6' : Below wr.heap.size wr w6 := bstep (Below.refl _ _).drew hb6 (Nat.le_refl _)
      have b6 := BOr.out.below_ hb6'
      have q4 := b6.free 4
      clear x0 x1 x2 x3 x4 x5 x6 x7
      obtain ⟨x0, x1, x2, x3, x4, x5, x6, x7⟩ := gcells (b6)
      have B6 := Lib.hid b6
      have O6 := Lib.hid ho6.out
      have hlo6 := b6.lt
      clear b6 ho6
      go_wp2
      go_roundw
      case rel =>
        have hg6 : w2.heap.size < wr.heap.size := hlo
        refine ⟨k + 1, by omega, by go_num, (bstep hb hb6' hb.size).setCell z12 _, by rw [setCell_size]; exact Nat.le_trans hz hb6'.size, (OIr.out.below hb6').farB z23 _, A6, c6, ?_, ?_, ?_⟩
        · rw [HL'.out, HM'.out]
          exact B6.out.set 4 _ rfl
        · rw [HL'.out]
          exact (O6.out.farB (show w2.heap.size < wr.drew.heap.size from hg6) _).mono (Nat.le_trans hb.size (Nat.le_refl _))
        · intro g hg hne
          rw [HL'.out] at hne
          have h6 : wr.heap.size ≤ g := (O6.out.span g hg hne).1
          omega
      case measure => simp [intOf]; omega
    · have hkl : k = I.length := by omega
      have HLC := Lib.hid (show L = C' by rw [← HL.out, hkl, List.take_length]; exact HCC.out)
      have hki : ¬ k < mI := by rw [← HMI.out]; exact hlt
      obtain ⟨x0, x1, x2, x3, x4, x5, x6, x7⟩ := gcells (BG.out wr hb)
      clear hkl
      go_wp2_with fail
      refine (spec_expire _ _ _ T now h _ rfl hlT n0 n1 HLT.out (ST.out _ hb)).mono ?_
      rintro e w6 ⟨A6, c6, rfl, ho6, hb6⟩
      rw [HTT.out] at ho6 ⊢
      rw [HMT.out]
      have hb7 := bstep hb hb6 hb.size
      have b6 := BOr.out.below_ hb6
      have z6 := BZ.out w6 hb7
      clear x0 x1 x2 x3 x4 x5 x6 x7
      obtain ⟨x0, x1, x2, x3, x4, x5, x6, x7⟩ := gcells (b6)
      obtain ⟨q0, q1, q2, q3, q4, q5, q6, q7⟩ := gfrees (b6)
      obtain ⟨y0, y1, y2, y3, y4, y5, y6, y7⟩ := gcells (z6)
      obtain ⟨p0, p1, p2, p3, p4, p5, p6, p7⟩ := gfrees (z6)
      have B6 := Lib.hid b6
      have O6 := Lib.hid ho6.out
      have D6 := Lib.hid (ODr.out.below hb6)
      have hlo6 := b6.lt
      have hs1 := HS1.out
      have hne : w2.heap.size ≠ w.heap.size + 1 := by omega
      have hne2 : w.heap.size + 1 ≠ w2.heap.size := by omega
      clear b6 z6 ho6 hs1
      go_wp2
      refine bodyPost_ret (v := .agg #[.int .i64 b, .int .i64 n, .int .i64 o, .slice A6 mT c6, .slice Ad L.length cd, .int .i64 f, .int .i64 h, .int .i64 now]) (by simp [results, Try.results32, go_sem, y0, y1, y2, y3, y4, y5, y6, y7, hne, hne2]) rfl ⟨A6, c6, Ad, cd, by rw [show L.length = mC from by rw [HLC.out]; exact HMC.out], ?_, ?_, ?_⟩
      · have hg : w2.heap.size < wr.heap.size := hlo
        have hs2 : w.heap.size + 1 < wr.heap.size := by have := HS1.out; have := hb.size; omega
        exact (out_eightB ((O6.out.farB hg _).farB hg _) hs2 _ _ _ _ _ _ _ _).mono (by have := hq.size; have := hb.size; omega)
      · rw [← HLC.out]
        have hs2 : w.heap.size + 1 < wq.heap.size := HS1.out
        exact (out_eightB ((D6.out.farN HNL.out _).farN HNL.out _) hs2 _ _ _ _ _ _ _ _).mono (by omega)
      · exact below_eight (((hq.trans (hb7.mono hq.size)).setCell (by show w.heap.size ≤ w2.heap.size; omega) _).setCell (by show w.heap.size ≤ w2.heap.size; omega) _) (Nat.le_succ _) _ _ _ _ _ _ _ _
end Go.Proofs.Ytlgfmnognhojnaa
