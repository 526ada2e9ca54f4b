/- TickGate, the reference's and the program's, walked. -/
import Derived.Test.YtlgfmnognhojnaaGf
namespace Go.Proofs.Ytlgfmnognhojnaa
open Go.RowKit
set_option maxRecDepth 4000 in
set_option maxHeartbeats 8000000 in
theorem spec_TickGate (b n o f h t : Int) (T : List Mp) (C : List Ct) (At Ac : Option Addr) (ct cc nt nc : Nat) (w : World) (hnt : nt = T.length) (hnc : nc = C.length) (hlT : T.length ≤ 2000000) (hlC : C.length ≤ 2000000) (hT : Sl encM 4 w At ct T) (hC : Sl encC 3 w Ac cc C) (now : Int) (r : Bool) (b' n' o' f' h' t' : Int) (T' : List Mp) (C' : List Ct) (mT mC : Nat) (hr : tickO ⟨b, n, o, T, C, f, h, t⟩ now = r) (hx : tickV ⟨b, n, o, T, C, f, h, t⟩ now = ⟨b', n', o', T', C', f', h', t'⟩) (hmT : T'.length = mT) (hmC : C'.length = mC) :
    Calls Try.prog 10 #[.agg #[.int .i64 b, .int .i64 n, .int .i64 o, .slice At nt ct, .slice Ac nc cc, .int .i64 f, .int .i64 h, .int .i64 t], .int .i64 now] w (fun e w' => ∃ A1 c1 A2 c2, e = .returned (.tuple #[.agg #[.int .i64 b', .int .i64 n', .int .i64 o', .slice A1 mT c1, .slice A2 mC c2, .int .i64 f', .int .i64 h', .int .i64 t'], .bool r]) ∧ Out encM 4 w.heap.size w' A1 c1 T' ∧ Out encC 3 w.heap.size w' A2 c2 C' ∧ Below w.heap.size w w') := by
  subst hnt
  subst hnc
  obtain ⟨wq, hwq⟩ : ∃ y, y = (w.alloc (.cells #[.int .i64 b, .int .i64 n, .int .i64 o, .slice At T.length ct, .slice Ac C.length cc, .int .i64 f, .int .i64 h, .int .i64 t] 28)).alloc (.cells #[.int .i64 0, .int .i64 0, .int .i64 0, .slice none 0 0, .slice none 0 0, .int .i64 0, .int .i64 0, .int .i64 0] 28) := ⟨_, rfl⟩
  have hq : Below w.heap.size w wq := by subst hwq; exact ((Below.refl _ _).alloc (Nat.le_refl _) _).alloc (by simp) _
  have hzq : wq.heap.size = w.heap.size + 1 + 1 := by subst hwq; simp
  have bg : BlAt wq w.heap.size #[.int .i64 b, .int .i64 n, .int .i64 o, .slice At T.length ct, .slice Ac C.length cc, .int .i64 f, .int .i64 h, .int .i64 t] := by subst hwq; exact (BlAt.new _ _ _).alloc _
  have bz : BlAt wq (w.heap.size + 1) #[.int .i64 0, .int .i64 0, .int .i64 0, .slice none 0 0, .slice none 0 0, .int .i64 0, .int .i64 0, .int .i64 0] := by
    subst hwq
    have := BlAt.new (w.alloc (.cells #[.int .i64 b, .int .i64 n, .int .i64 o, .slice At T.length ct, .slice Ac C.length cc, .int .i64 f, .int .i64 h, .int .i64 t] 28)) 28 #[.int .i64 0, .int .i64 0, .int .i64 0, .slice none 0 0, .slice none 0 0, .int .i64 0, .int .i64 0, .int .i64 0]
    rw [alloc_size] at this
    exact this
  have BG := Lib.hid (fun W (h : Below wq.heap.size wq W) => bg.below h (by omega))
  have BZ := Lib.hid (fun W (h : Below wq.heap.size wq W) => bz.below h (by omega))
  have ST := Lib.hid (fun W (h : Below wq.heap.size wq W) => hT.below (hq.trans (h.mono hq.size)))
  have SC := Lib.hid (fun W (h : Below wq.heap.size wq W) => hC.below (hq.trans (h.mono hq.size)))
  have WQ := Lib.hid hwq
  have hk0 : Below wq.heap.size wq wq := Below.refl _ _
  obtain ⟨r0, hr0⟩ : ∃ r, okG ⟨b, n, o, T, C, f, h, t⟩ = r := ⟨_, rfl⟩
  obtain ⟨r1, hr1⟩ : ∃ r, inR now t 10000 = r := ⟨_, rfl⟩
  have hrr : r = (r0 && r1) := by rw [← hr]; unfold tickO; rw [hr0]; show (r0 && inR now t 10000) = _; rw [hr1]
  have R0 := Lib.hid hr0
  have R1 := Lib.hid hr1
  have HS1 := Lib.hid (show w.heap.size + 1 < wq.heap.size by omega)
  unfold tickV at hx
  rw [hr] at hx
  obtain ⟨x0, x1, x2, x3, x4, x5, x6, x7⟩ := gcells (bg)
  have HX := Lib.hid hx
  have HRR := Lib.hid hrr
  clear hwq hT hC bg bz hzq hr hr0 hr1 hx hrr
  go_enter Try.func10, Try.ntmps10
  go_wp2_with fail
  rw [← WQ.out]
  refine (spec_validGate b n o f h t T C At Ac ct cc _ _ _ rfl rfl hlT hlC (ST.out _ hk0) (SC.out _ hk0)).mono ?_
  rintro e w1 ⟨rfl, hk1⟩
  rw [R0.out]
  clear x0 x1 x2 x3 x4 x5 x6 x7
  cases r0
  · obtain rfl : r = false := HRR.out
    have hx := HX.out
    simp only [Bool.false_eq_true, if_false, zeroG, Gt.mk.injEq] at hx
    obtain ⟨rfl, rfl, rfl, rfl, rfl, rfl, rfl, rfl⟩ := hx
    subst hmT
    subst hmC
    have cz := BZ.out w1 hk1
    obtain ⟨y0, y1, y2, y3, y4, y5, y6, y7⟩ := gcells (cz)
    obtain ⟨p0, p1, p2, p3, p4, p5, p6, p7⟩ := gfrees (cz)
    clear cz
    go_wp2
    refine bodyPost_ret (v := .tuple #[.agg #[.int .i64 0, .int .i64 0, .int .i64 0, .slice none 0 0, .slice none 0 0, .int .i64 0, .int .i64 0, .int .i64 0], .bool false]) (by simp [results, Try.results10, go_sem, y0, y1, y2, y3, y4, y5, y6, y7]) rfl ⟨none, 0, none, 0, rfl, ⟨Sl.nil, Fr.nil⟩, ⟨Sl.nil, Fr.nil⟩, ?_⟩
    exact below_eight (hq.trans (hk1.mono hq.size)) (Nat.le_succ _) _ _ _ _ _ _ _ _
  obtain ⟨x0, x1, x2, x3, x4, x5, x6, x7⟩ := gcells (BG.out w1 hk1)
  go_wp2_with fail
  refine (spec_inRange now t 10000 _).mono ?_
  rintro e w' ⟨rfl, rfl⟩
  rw [R1.out]
  cases r1
  · obtain rfl : r = false := HRR.out
    have hx := HX.out
    simp only [Bool.false_eq_true, if_false, zeroG, Gt.mk.injEq] at hx
    obtain ⟨rfl, rfl, rfl, rfl, rfl, rfl, rfl, rfl⟩ := hx
    subst hmT
    subst hmC
    clear x0 x1 x2 x3 x4 x5 x6 x7
    have cz := BZ.out w1 hk1
    obtain ⟨y0, y1, y2, y3, y4, y5, y6, y7⟩ := gcells (cz)
    obtain ⟨p0, p1, p2, p3, p4, p5, p6, p7⟩ := gfrees (cz)
    clear cz
    go_wp2
    refine bodyPost_ret (v := .tuple #[.agg #[.int .i64 0, .int .i64 0, .int .i64 0, .slice none 0 0, .slice none 0 0, .int .i64 0, .int .i64 0, .int .i64 0], .bool false]) (by simp [results, Try.results10, go_sem, y0, y1, y2, y3, y4, y5, y6, y7]) rfl ⟨none, 0, none, 0, rfl, ⟨Sl.nil, Fr.nil⟩, ⟨Sl.nil, Fr.nil⟩, ?_⟩
    exact below_eight (hq.trans (hk1.mono hq.size)) (Nat.le_succ _) _ _ _ _ _ _ _ _
  obtain rfl : r = true := HRR.out
  have hx := HX.out
  simp only [if_true, tickG, Gt.mk.injEq] at hx
  obtain ⟨rfl, rfl, rfl, hT', hC', rfl, rfl, rfl⟩ := hx
  have HTT := Lib.hid hT'
  have HCC := Lib.hid hC'
  have HMT := Lib.hid hmT
  have HMC := Lib.hid hmC
  clear hT' hC' hmT hmC
  go_wp2_with fail
  refine (spec_tick b n o f h t T C At Ac ct cc _ _ _ rfl rfl hlT hlC (ST.out _ hk1) (SC.out _ hk1) now R0.out R1.out T' C' mT mC HTT.out HCC.out HMT.out HMC.out).mono ?_
  rintro e w2 ⟨A1, c1, A2, c2, rfl, o1, o2, hb2⟩
  have hk2 := bstep hk1 hb2 hk1.size
  have O1 := Lib.hid o1
  have O2 := Lib.hid o2
  have z1 := hk1.size
  have cz := BZ.out w2 hk2
  clear x0 x1 x2 x3 x4 x5 x6 x7
  obtain ⟨y0, y1, y2, y3, y4, y5, y6, y7⟩ := gcells (cz)
  obtain ⟨p0, p1, p2, p3, p4, p5, p6, p7⟩ := gfrees (cz)
  clear cz o1 o2
  go_wp2
  refine bodyPost_ret (v := .tuple #[.agg #[.int .i64 b, .int .i64 n, .int .i64 o, .slice A1 mT c1, .slice A2 mC c2, .int .i64 f, .int .i64 h, .int .i64 now], .bool true]) (by simp [results, Try.results10, go_sem, y0, y1, y2, y3, y4, y5, y6, y7]) rfl ⟨A1, c1, A2, c2, rfl, ?_, ?_, ?_⟩
  · exact (out_eightB O1.out (Nat.lt_of_lt_of_le HS1.out z1) _ _ _ _ _ _ _ _).mono (Nat.le_trans hq.size z1)
  · exact (out_eightB O2.out (Nat.lt_of_lt_of_le HS1.out z1) _ _ _ _ _ _ _ _).mono (Nat.le_trans hq.size z1)
  · exact below_eight (hq.trans (hk2.mono hq.size)) (Nat.le_succ _) _ _ _ _ _ _ _ _
set_option maxRecDepth 4000 in
set_option maxHeartbeats 8000000 in
theorem impl_TickGate (b n o f h t : Int) (T : List Mp) (C : List Ct) (At Ac : Option Addr) (ct cc nt nc : Nat) (w : World) (hnt : nt = T.length) (hnc : nc = C.length) (hlT : T.length ≤ 2000000) (hlC : C.length ≤ 2000000) (hT : Sl encM 4 w At ct T) (hC : Sl encC 3 w Ac cc C) (now : Int) (r : Bool) (b' n' o' f' h' t' : Int) (T' : List Mp) (C' : List Ct) (mT mC : Nat) (hr : tickO ⟨b, n, o, T, C, f, h, t⟩ now = r) (hx : tickV ⟨b, n, o, T, C, f, h, t⟩ now = ⟨b', n', o', T', C', f', h', t'⟩) (hmT : T'.length = mT) (hmC : C'.length = mC) :
    Calls Try.prog 9 #[.agg #[.int .i64 b, .int .i64 n, .int .i64 o, .slice At nt ct, .slice Ac nc cc, .int .i64 f, .int .i64 h, .int .i64 t], .int .i64 now] w (fun e w' => ∃ A1 c1 A2 c2, e = .returned (.tuple #[.agg #[.int .i64 b', .int .i64 n', .int .i64 o', .slice A1 mT c1, .slice A2 mC c2, .int .i64 f', .int .i64 h', .int .i64 t'], .bool r]) ∧ Out encM 4 w.heap.size w' A1 c1 T' ∧ Out encC 3 w.heap.size w' A2 c2 C' ∧ Below w.heap.size w w') := by
  subst hnt
  subst hnc
  obtain ⟨wq, hwq⟩ : ∃ y, y = (w.alloc (.cells #[.int .i64 b, .int .i64 n, .int .i64 o, .slice At T.length ct, .slice Ac C.length cc, .int .i64 f, .int .i64 h, .int .i64 t] 28)).alloc (.cells #[.int .i64 0, .int .i64 0, .int .i64 0, .slice none 0 0, .slice none 0 0, .int .i64 0, .int .i64 0, .int .i64 0] 28) := ⟨_, rfl⟩
  have hq : Below w.heap.size w wq := by subst hwq; exact ((Below.refl _ _).alloc (Nat.le_refl _) _).alloc (by simp) _
  have hzq : wq.heap.size = w.heap.size + 1 + 1 := by subst hwq; simp
  have bg : BlAt wq w.heap.size #[.int .i64 b, .int .i64 n, .int .i64 o, .slice At T.length ct, .slice Ac C.length cc, .int .i64 f, .int .i64 h, .int .i64 t] := by subst hwq; exact (BlAt.new _ _ _).alloc _
  have bz : BlAt wq (w.heap.size + 1) #[.int .i64 0, .int .i64 0, .int .i64 0, .slice none 0 0, .slice none 0 0, .int .i64 0, .int .i64 0, .int .i64 0] := by
    subst hwq
    have := BlAt.new (w.alloc (.cells #[.int .i64 b, .int .i64 n, .int .i64 o, .slice At T.length ct, .slice Ac C.length cc, .int .i64 f, .int .i64 h, .int .i64 t] 28)) 28 #[.int .i64 0, .int .i64 0, .int .i64 0, .slice none 0 0, .slice none 0 0, .int .i64 0, .int .i64 0, .int .i64 0]
    rw [alloc_size] at this
    exact this
  have BG := Lib.hid (fun W (h : Below wq.heap.size wq W) => bg.below h (by omega))
  have BZ := Lib.hid (fun W (h : Below wq.heap.size wq W) => bz.below h (by omega))
  have ST := Lib.hid (fun W (h : Below wq.heap.size wq W) => hT.below (hq.trans (h.mono hq.size)))
  have SC := Lib.hid (fun W (h : Below wq.heap.size wq W) => hC.below (hq.trans (h.mono hq.size)))
  have WQ := Lib.hid hwq
  have hk0 : Below wq.heap.size wq wq := Below.refl _ _
  obtain ⟨r0, hr0⟩ : ∃ r, okG ⟨b, n, o, T, C, f, h, t⟩ = r := ⟨_, rfl⟩
  obtain ⟨r1, hr1⟩ : ∃ r, inR now t 10000 = r := ⟨_, rfl⟩
  have hrr : r = (r0 && r1) := by rw [← hr]; unfold tickO; rw [hr0]; show (r0 && inR now t 10000) = _; rw [hr1]
  have R0 := Lib.hid hr0
  have R1 := Lib.hid hr1
  have HS1 := Lib.hid (show w.heap.size + 1 < wq.heap.size by omega)
  unfold tickV at hx
  rw [hr] at hx
  obtain ⟨x0, x1, x2, x3, x4, x5, x6, x7⟩ := gcells (bg)
  have HX := Lib.hid hx
  have HRR := Lib.hid hrr
  clear hwq hT hC bg bz hzq hr hr0 hr1 hx hrr
  go_enter Try.func9, Try.ntmps9
  go_wp2_with fail
  rw [← WQ.out]
  refine (impl_ValidGate b n o f h t T C At Ac ct cc _ _ _ rfl rfl hlT hlC (ST.out _ hk0) (SC.out _ hk0)).mono ?_
  rintro e w1 ⟨rfl, hk1⟩
  rw [R0.out]
  clear x0 x1 x2 x3 x4 x5 x6 x7
  cases r0
  · obtain rfl : r = false := HRR.out
    have hx := HX.out
    simp only [Bool.false_eq_true, if_false, zeroG, Gt.mk.injEq] at hx
    obtain ⟨rfl, rfl, rfl, rfl, rfl, rfl, rfl, rfl⟩ := hx
    subst hmT
    subst hmC
    have cz := BZ.out w1 hk1
    obtain ⟨y0, y1, y2, y3, y4, y5, y6, y7⟩ := gcells (cz)
    obtain ⟨p0, p1, p2, p3, p4, p5, p6, p7⟩ := gfrees (cz)
    clear cz
    go_wp2
    refine bodyPost_ret (v := .tuple #[.agg #[.int .i64 0, .int .i64 0, .int .i64 0, .slice none 0 0, .slice none 0 0, .int .i64 0, .int .i64 0, .int .i64 0], .bool false]) (by simp [results, Try.results9, go_sem, y0, y1, y2, y3, y4, y5, y6, y7]) rfl ⟨none, 0, none, 0, rfl, ⟨Sl.nil, Fr.nil⟩, ⟨Sl.nil, Fr.nil⟩, ?_⟩
    exact below_eight (hq.trans (hk1.mono hq.size)) (Nat.le_succ _) _ _ _ _ _ _ _ _
  obtain ⟨x0, x1, x2, x3, x4, x5, x6, x7⟩ := gcells (BG.out w1 hk1)
  go_wp2_with fail
  refine (impl_in now t 10000 _).mono ?_
  rintro e w' ⟨rfl, rfl⟩
  rw [R1.out]
  cases r1
  · obtain rfl : r = false := HRR.out
    have hx := HX.out
    simp only [Bool.false_eq_true, if_false, zeroG, Gt.mk.injEq] at hx
    obtain ⟨rfl, rfl, rfl, rfl, rfl, rfl, rfl, rfl⟩ := hx
    subst hmT
    subst hmC
    clear x0 x1 x2 x3 x4 x5 x6 x7
    have cz := BZ.out w1 hk1
    obtain ⟨y0, y1, y2, y3, y4, y5, y6, y7⟩ := gcells (cz)
    obtain ⟨p0, p1, p2, p3, p4, p5, p6, p7⟩ := gfrees (cz)
    clear cz
    go_wp2
    refine bodyPost_ret (v := .tuple #[.agg #[.int .i64 0, .int .i64 0, .int .i64 0, .slice none 0 0, .slice none 0 0, .int .i64 0, .int .i64 0, .int .i64 0], .bool false]) (by simp [results, Try.results9, go_sem, y0, y1, y2, y3, y4, y5, y6, y7]) rfl ⟨none, 0, none, 0, rfl, ⟨Sl.nil, Fr.nil⟩, ⟨Sl.nil, Fr.nil⟩, ?_⟩
    exact below_eight (hq.trans (hk1.mono hq.size)) (Nat.le_succ _) _ _ _ _ _ _ _ _
  obtain rfl : r = true := HRR.out
  have hx := HX.out
  simp only [if_true, tickG, Gt.mk.injEq] at hx
  obtain ⟨rfl, rfl, rfl, hT', hC', rfl, rfl, rfl⟩ := hx
  have HTT := Lib.hid hT'
  have HCC := Lib.hid hC'
  have HMT := Lib.hid hmT
  have HMC := Lib.hid hmC
  clear hT' hC' hmT hmC
  have htim : tim T now h = true := okG_tim R0.out R1.out
  have hvC : vC C = true := (okG_iff.1 R0.out).1.C
  obtain ⟨I, hI⟩ : ∃ I, goneOf now h T = I := ⟨_, rfl⟩
  obtain ⟨mI, hmI⟩ : ∃ m, I.length = m := ⟨_, rfl⟩
  have hIV : goneV T now h = I := by unfold goneV; rw [if_pos htim, hI]
  have hIl : I.length ≤ T.length := by rw [← hI]; exact goneOf_len _ _ _
  have HIV := Lib.hid hIV
  have HMI := Lib.hid hmI
  have HCI := Lib.hid (hI ▸ HCC.out)
  have HET := Lib.hid (show expV T now h = T' by rw [exp_eq htim]; exact HTT.out)
  have HVC := Lib.hid hvC
  have hI2 : mI ≤ 2000000 := by omega
  clear htim hvC hI hIV hmI hIl
  go_wp2_with fail
  refine (impl_copyGate b n o f h t T C At Ac ct cc _ _ _ rfl rfl hlT hlC (ST.out _ hk1) (SC.out _ hk1)).mono ?_
  rintro e w2 ⟨A1, c1, A2, c2, rfl, o1, o2, hb2⟩
  have hk2 := bstep hk1 hb2 hk1.size
  clear x0 x1 x2 x3 x4 x5 x6 x7
  obtain ⟨w3, hw3⟩ : ∃ y, y = w2.alloc (.cells #[.int .i64 b, .int .i64 n, .int .i64 o, .slice A1 T.length c1, .slice A2 C.length c2, .int .i64 f, .int .i64 h, .int .i64 now] 28) := ⟨_, rfl⟩
  have hb3 : Below w2.heap.size w2 w3 := by subst hw3; exact (Below.refl _ _).alloc (Nat.le_refl _) _
  have bo : BlAt w3 w2.heap.size #[.int .i64 b, .int .i64 n, .int .i64 o, .slice A1 T.length c1, .slice A2 C.length c2, .int .i64 f, .int .i64 h, .int .i64 now] := by subst hw3; exact BlAt.new _ _ _
  have z23 : w2.heap.size < w3.heap.size := bo.lt
  have z12 := hk2.size
  have hk3 := bstep hk2 hb3 hk2.size
  have BO := Lib.hid bo
  have o3 : Out encC 3 wq.heap.size w3 A2 c2 C := (o2.below hb3).mono hk1.size
  have OC := Lib.hid o3
  have HNE := Lib.hid (show ∀ g, Go.Proofs.Ytlgfmnognhojnaa.blk A2 = some g → C ≠ [] → w2.heap.size ≠ g from fun g hg hne => by have := (o2.span g hg hne).2; omega)
  have W3 := Lib.hid hw3
  have hlb := (BG.out w2 hk2).lt
  obtain ⟨x0, x1, x2, x3, x4, x5, x6, x7⟩ := gcells (BG.out w2 hk2)
  clear o1 o2 o3 hw3 bo hb3
  go_wp2_with fail
  rw [← W3.out]
  refine (impl_EP HIV.out HMI.out rfl hlT (ST.out _ hk3)).mono ?_
  rintro e w4 ⟨Ai, rfl, hoi, hb4⟩
  have z34 := hb4.size
  have hk4 := bstep hk3 hb4 hk3.size
  have OI := Lib.hid hoi
  have BO4 := Lib.hid (BO.out.below_ hb4)
  have OC4 := Lib.hid (OC.out.below hb4)
  clear x0 x1 x2 x3 x4 x5 x6 x7
  clear hoi hb4
  go_wp2
  go_loopw [31] (fun i wr => ∃ k : Nat, k ≤ I.length ∧ i = .int .i64 k ∧ Below wq.heap.size wq wr ∧ w3.heap.size ≤ wr.heap.size ∧ Out encI 1 w3.heap.size wr Ai mI I ∧ ∃ Ac' cc', BlAt wr w2.heap.size #[.int .i64 b, .int .i64 n, .int .i64 o, .slice A1 T.length c1, .slice Ac' (dropAll (I.take k) C).length cc', .int .i64 f, .int .i64 h, .int .i64 now] ∧ Out encC 3 wq.heap.size wr Ac' cc' (dropAll (I.take k) C) ∧ ∀ g, Go.Proofs.Ytlgfmnognhojnaa.blk Ac' = some g → (dropAll (I.take k) C) ≠ [] → w2.heap.size ≠ g) (fun i _ => I.length - (intOf i).toNat)
  case atStart => exact ⟨0, Nat.zero_le _, rfl, hk4, z34, OI.out, A2, c2, BO4.out, OC4.out, HNE.out⟩
  case round =>
    obtain ⟨k, hk, rfl, hb, hz, hoi, Ad, cd, hbo, hod, hne⟩ := hrel
    obtain ⟨L, hL⟩ : ∃ L, (dropAll (I.take k) C) = L := ⟨_, rfl⟩
    rw [hL] at hbo hod hne
    have HNL := Lib.hid hne
    clear hne
    have hLc : L.length ≤ C.length := by rw [← hL]; exact dropAll_len _ _
    have HL := Lib.hid hL
    have OIr := Lib.hid hoi
    have BOr := Lib.hid hbo
    have ODr := Lib.hid hod
    have hlo := hbo.lt
    clear hL hoi hbo hod hk4
    by_cases hlt : k < I.length
    · obtain ⟨B, O, rfl, hbs, hc⟩ := OIr.out.1.base hlt
      obtain ⟨x, hx⟩ : ∃ x, I[k]? = some x := ⟨_, List.getElem?_eq_getElem hlt⟩
      have d0 := hc.inn (Below.refl _ _) hbs hx
      have hki : k < mI := by rw [← HMI.out]; exact hlt
      have HDV := Lib.hid (show dropC L x = dropAll (I.take (k + 1)) C by rw [dropAll_take C hx, ← HL.out])
      obtain ⟨x0, x1, x2, x3, x4, x5, x6, x7⟩ := gcells (BOr.out)
      clear hc hx
      go_wp2_with fail
      refine (impl_without Ad cd L x _ (by omega) ODr.out.1).mono ?_
      rintro e w6 ⟨A6, rfl, ho6, hb6⟩
      have b6 := BOr.out.below_ hb6
      have q4 := b6.free 4
      clear x0 x1 x2 x3 x4 x5 x6 x7
      obtain ⟨x0, x1, x2, x3, x4, x5, x6, x7⟩ := gcells (b6)
      have B6 := Lib.hid b6
      have O6 := Lib.hid ho6
      have hlo6 := b6.lt
      clear b6 ho6
      go_wp2
      go_roundw
      case rel =>
        refine ⟨k + 1, by omega, by go_num, (bstep hb hb6 hb.size).setCell z12 _, by rw [setCell_size]; exact Nat.le_trans hz hb6.size, (OIr.out.below hb6).farB z23 _, A6, (dropC L x).length, ?_, ?_, ?_⟩
        · rw [← HDV.out]
          exact B6.out.set 4 _ rfl
        · rw [← HDV.out]
          exact (O6.out.farB (show w2.heap.size < wr.heap.size from hlo) _).mono hb.size
        · intro g hg hne
          rw [← HDV.out] at hne
          have h6 : wr.heap.size ≤ g := (O6.out.span g hg hne).1
          omega
      case measure => simp [intOf]; omega
    · have hkl : k = I.length := by omega
      have HLC := Lib.hid (show L = C' by rw [← HL.out, hkl, List.take_length]; exact HCI.out)
      have hki : ¬ k < mI := by rw [← HMI.out]; exact hlt
      obtain ⟨x0, x1, x2, x3, x4, x5, x6, x7⟩ := gcells (BG.out wr hb)
      clear hkl
      go_wp2_with fail
      refine (impl_ET HET.out HMT.out rfl hlT (ST.out _ hb)).mono ?_
      rintro e w6 ⟨A6, rfl, ho6, hb6⟩
      have hb7 := bstep hb hb6 hb.size
      have b6 := BOr.out.below_ hb6
      have z6 := BZ.out w6 hb7
      clear x0 x1 x2 x3 x4 x5 x6 x7
      obtain ⟨x0, x1, x2, x3, x4, x5, x6, x7⟩ := gcells (b6)
      obtain ⟨q0, q1, q2, q3, q4, q5, q6, q7⟩ := gfrees (b6)
      obtain ⟨y0, y1, y2, y3, y4, y5, y6, y7⟩ := gcells (z6)
      obtain ⟨p0, p1, p2, p3, p4, p5, p6, p7⟩ := gfrees (z6)
      have B6 := Lib.hid b6
      have O6 := Lib.hid ho6
      have D6 := Lib.hid (ODr.out.below hb6)
      have hlo6 := b6.lt
      have hs1 := HS1.out
      have hne : w2.heap.size ≠ w.heap.size + 1 := by omega
      have hne2 : w.heap.size + 1 ≠ w2.heap.size := by omega
      clear b6 z6 ho6 hs1
      go_wp2
      refine bodyPost_ret (v := .tuple #[.agg #[.int .i64 b, .int .i64 n, .int .i64 o, .slice A6 mT mT, .slice Ad L.length cd, .int .i64 f, .int .i64 h, .int .i64 now], .bool true]) (by simp [results, Try.results9, go_sem, y0, y1, y2, y3, y4, y5, y6, y7, hne, hne2]) rfl ⟨A6, mT, Ad, cd, by rw [show L.length = mC from by rw [HLC.out]; exact HMC.out], ?_, ?_, ?_⟩
      · have hg : w2.heap.size < wr.heap.size := hlo
        have hs2 : w.heap.size + 1 < wr.heap.size := by have := HS1.out; have := hb.size; omega
        exact (out_eightB (O6.out.farB hg _) hs2 _ _ _ _ _ _ _ _).mono (by have := hq.size; have := hb.size; omega)
      · rw [← HLC.out]
        have hs2 : w.heap.size + 1 < wq.heap.size := HS1.out
        exact (out_eightB (D6.out.farN HNL.out _) hs2 _ _ _ _ _ _ _ _).mono (by omega)
      · exact below_eight ((hq.trans (hb7.mono hq.size)).setCell (by show w.heap.size ≤ w2.heap.size; omega) _) (Nat.le_succ _) _ _ _ _ _ _ _ _
end Go.Proofs.Ytlgfmnognhojnaa
