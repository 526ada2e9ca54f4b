/- The exact statement's helpers on gates. -/
import Derived.Test.YtlgfmnognhojnaaGe
import Derived.Test.YtlgfmnognhojnaaMk
namespace Go.Proofs.Ytlgfmnognhojnaa
open Go.RowKit
theorem laws_toNet (a p : Int) (w : World) : Calls Try.prog 50 #[.agg #[.int .i64 a, .int .i64 p]] w (Ret w (.agg #[.int .i64 a, .int .i64 p])) := by
  go_enter Try.func50, Try.ntmps50
  go_wp2
  exact bodyPost_ret (v := .agg #[.int .i64 a, .int .i64 p]) (by simp [results, Try.results50, go_sem]) rfl ⟨rfl, (((Below.refl _ _).alloc (Nat.le_refl _) _).alloc (by simp) _).alloc (by simp; omega) _⟩
theorem eqNet_same (a p : Int) (w : World) : Calls Try.prog 53 #[.agg #[.int .i64 a, .int .i64 p], .agg #[.int .i64 a, .int .i64 p]] w (Ret w (.bool true)) := by
  go_enter Try.func53, Try.ntmps53
  go_wp2
  go_ret
  exact ⟨by simp, ((Below.refl _ _).alloc (Nat.le_refl _) _).alloc (by simp) _⟩
set_option maxHeartbeats 2000000 in
theorem laws_szGate (b n o f h t : Int) (At Ac : Option Addr) (ct cc nt nc : Nat) (v : Int) (w : World) (hnt : nt ≤ 9223372036854775807) (hnc : nc ≤ 9223372036854775807) (hv : v = if (1048576 : Int) - nt < 0 then -1 else if 1048576 - (nt : Int) - nc < 0 then -1 else 1048576 - (nt : Int) - nc) :
    Calls Try.prog 15 #[.agg #[.int .i64 b, .int .i64 n, .int .i64 o, .slice At nt ct, .slice Ac nc cc, .int .i64 f, .int .i64 h, .int .i64 t], .int .i64 1048576] w (Ret w (.int .i64 v)) := by
  have hb0 : Below w.heap.size w (w.alloc (.cells #[.int .i64 b, .int .i64 n, .int .i64 o, .slice At nt ct, .slice Ac nc cc, .int .i64 f, .int .i64 h, .int .i64 t] 42)) := (Below.refl _ _).alloc (Nat.le_refl _) _
  by_cases h1 : (1048576 : Int) - nt < 0
  · rw [if_pos h1] at hv
    subst hv
    have H1 := Lib.hid h1
    go_enter Try.func15, Try.ntmps15
    go_wp2_with (first | (go_at_call 48; refine (laws_szMappingS _ _ _ _ _ hnt (by omega) (by omega)).mono ?_; rintro e w' ⟨rfl, rfl⟩; rw [if_pos H1.out]))
    go_ret
    exact ⟨rfl, hb0⟩
  rw [if_neg h1] at hv
  have H1 := Lib.hid h1
  have h1' : (0 : Int) ≤ 1048576 - nt := by omega
  by_cases h2 : 1048576 - (nt : Int) - nc < 0
  · rw [if_pos h2] at hv
    subst hv
    have H2 := Lib.hid h2
    go_enter Try.func15, Try.ntmps15
    go_wp2_with (first | (go_at_call 48; refine (laws_szMappingS _ _ _ _ _ hnt (by omega) (by omega)).mono ?_; rintro e w' ⟨rfl, rfl⟩; rw [if_neg (show ¬ ((1048576 : Int) - (nt : Int) < 0) by have := H1.out; omega)]) | (go_at_call 49; refine (laws_szContactS _ _ _ _ _ hnc (by omega) (by omega)).mono ?_; rintro e w' ⟨rfl, rfl⟩; rw [if_pos (show (1048576 : Int) - (nt : Int) - (nc : Int) < 0 by have := H2.out; omega)]))
    go_ret
    exact ⟨rfl, hb0⟩
  · rw [if_neg h2] at hv
    subst hv
    have H2 := Lib.hid h2
    go_enter Try.func15, Try.ntmps15
    go_wp2_with (first | (go_at_call 48; refine (laws_szMappingS _ _ _ _ _ hnt (by omega) (by omega)).mono ?_; rintro e w' ⟨rfl, rfl⟩; rw [if_neg (show ¬ ((1048576 : Int) - (nt : Int) < 0) by have := H1.out; omega)]) | (go_at_call 49; refine (laws_szContactS _ _ _ _ _ hnc (by omega) (by omega)).mono ?_; rintro e w' ⟨rfl, rfl⟩; rw [if_neg (show ¬ ((1048576 : Int) - (nt : Int) - (nc : Int) < 0) by have := H2.out; omega)]))
    go_ret
    exact ⟨rfl, hb0⟩
set_option maxRecDepth 4000 in
set_option maxHeartbeats 4000000 in
theorem same_eqGate {b n o f h t : Int} {T : List Mp} {C : List Ct} {At Ac At' Ac' : Option Addr} {ct cc nt nc ct' cc' nt' nc' : Nat} {w : World} (hnt : nt = T.length) (hnc : nc = C.length) (hnt' : nt' = T.length) (hnc' : nc' = C.length) (hlT : T.length ≤ 2000000) (hlC : C.length ≤ 2000000) (hT : Sl encM 4 w At ct T) (hC : Sl encC 3 w Ac cc C) (hT' : Sl encM 4 w At' ct' T) (hC' : Sl encC 3 w Ac' cc' C) :
    Calls Try.prog 18 #[.agg #[.int .i64 b, .int .i64 n, .int .i64 o, .slice At nt ct, .slice Ac nc cc, .int .i64 f, .int .i64 h, .int .i64 t], .agg #[.int .i64 b, .int .i64 n, .int .i64 o, .slice At' nt' ct', .slice Ac' nc' cc', .int .i64 f, .int .i64 h, .int .i64 t]] w (Ret w (.bool true)) := by
  obtain ⟨wq, hwq⟩ : ∃ y, y = (w.alloc (.cells #[.int .i64 b, .int .i64 n, .int .i64 o, .slice At nt ct, .slice Ac nc cc, .int .i64 f, .int .i64 h, .int .i64 t] 28)).alloc (.cells #[.int .i64 b, .int .i64 n, .int .i64 o, .slice At' nt' ct', .slice Ac' nc' cc', .int .i64 f, .int .i64 h, .int .i64 t] 28) := ⟨_, rfl⟩
  have hq : Below w.heap.size w wq := by subst hwq; exact ((Below.refl _ _).alloc (Nat.le_refl _) _).alloc (by simp) _
  have hzq : wq.heap.size = w.heap.size + 1 + 1 := by subst hwq; simp
  have bg : BlAt wq w.heap.size #[.int .i64 b, .int .i64 n, .int .i64 o, .slice At nt ct, .slice Ac nc cc, .int .i64 f, .int .i64 h, .int .i64 t] := by subst hwq; exact (BlAt.new _ _ _).alloc _
  have bz : BlAt wq (w.heap.size + 1) #[.int .i64 b, .int .i64 n, .int .i64 o, .slice At' nt' ct', .slice Ac' nc' cc', .int .i64 f, .int .i64 h, .int .i64 t] := by
    subst hwq
    have := BlAt.new (w.alloc (.cells #[.int .i64 b, .int .i64 n, .int .i64 o, .slice At nt ct, .slice Ac nc cc, .int .i64 f, .int .i64 h, .int .i64 t] 28)) 28 #[.int .i64 b, .int .i64 n, .int .i64 o, .slice At' nt' ct', .slice Ac' nc' cc', .int .i64 f, .int .i64 h, .int .i64 t]
    rw [alloc_size] at this
    exact this
  have BG := Lib.hid (fun W (h : Below wq.heap.size wq W) => bg.below h (by omega))
  have BZ := Lib.hid (fun W (h : Below wq.heap.size wq W) => bz.below h (by omega))
  have ST := Lib.hid (fun W (h : Below wq.heap.size wq W) => hT.below (hq.trans (h.mono hq.size)))
  have SC := Lib.hid (fun W (h : Below wq.heap.size wq W) => hC.below (hq.trans (h.mono hq.size)))
  have ST' := Lib.hid (fun W (h : Below wq.heap.size wq W) => hT'.below (hq.trans (h.mono hq.size)))
  have SC' := Lib.hid (fun W (h : Below wq.heap.size wq W) => hC'.below (hq.trans (h.mono hq.size)))
  have H1 := Lib.hid hnt
  have H2 := Lib.hid hnc
  have H3 := Lib.hid hnt'
  have H4 := Lib.hid hnc'
  have WQ := Lib.hid hwq
  have hk0 : Below wq.heap.size wq wq := Below.refl _ _
  clear hwq hT hC hT' hC' bg bz hzq hnt hnc hnt' hnc'
  go_enter Try.func18, Try.ntmps18
  go_wp2_with fail
  rw [← WQ.out]
  refine (eqNet_same _ _ _).mono ?_
  rintro e w1 ⟨rfl, hk1⟩
  obtain ⟨x0, x1, x2, x3, x4, x5, x6, x7⟩ := gcells (BG.out w1 hk1)
  obtain ⟨y0, y1, y2, y3, y4, y5, y6, y7⟩ := gcells (BZ.out w1 hk1)
  go_wp2_with fail
  refine (eqMts (l := T) (l' := T) (r := true) (decide_eq_true rfl) H1.out H3.out hlT hlT (ST.out _ hk1) (ST'.out _ hk1)).mono ?_
  rintro e w2 ⟨rfl, hb2⟩
  have hk2 := bstep hk1 hb2 hk1.size
  clear x0 x1 x2 x3 x4 x5 x6 x7 y0 y1 y2 y3 y4 y5 y6 y7
  obtain ⟨x0, x1, x2, x3, x4, x5, x6, x7⟩ := gcells (BG.out w2 hk2)
  obtain ⟨y0, y1, y2, y3, y4, y5, y6, y7⟩ := gcells (BZ.out w2 hk2)
  go_wp2_with fail
  refine (eqCtS (l := C) (l' := C) (r := true) (decide_eq_true rfl) H2.out H4.out hlC hlC (SC.out _ hk2) (SC'.out _ hk2)).mono ?_
  rintro e w3 ⟨rfl, hb3⟩
  have hk3 := bstep hk2 hb3 hk2.size
  clear x0 x1 x2 x3 x4 x5 x6 x7 y0 y1 y2 y3 y4 y5 y6 y7
  obtain ⟨x0, x1, x2, x3, x4, x5, x6, x7⟩ := gcells (BG.out w3 hk3)
  obtain ⟨y0, y1, y2, y3, y4, y5, y6, y7⟩ := gcells (BZ.out w3 hk3)
  go_wp2
  go_ret
  exact ⟨by simp, hq.trans (hk3.mono hq.size)⟩
set_option maxRecDepth 4000 in
set_option maxHeartbeats 8000000 in
theorem laws_toGate (b n o f h t : Int) (T : List Mp) (C : List Ct) (At Ac : Option Addr) (ct cc nt nc : Nat) (w : World) (hnt : nt = T.length) (hnc : nc = C.length) (hlT : T.length ≤ 2000000) (hlC : C.length ≤ 2000000) (hT : Sl encM 4 w At ct T) (hC : Sl encC 3 w Ac cc C) :
    Calls Try.prog 17 #[.agg #[.int .i64 b, .int .i64 n, .int .i64 o, .slice At nt ct, .slice Ac nc cc, .int .i64 f, .int .i64 h, .int .i64 t]] w (fun e w' => ∃ A1 c1 A2 c2, e = .returned (.agg #[.int .i64 b, .int .i64 n, .int .i64 o, .slice A1 nt c1, .slice A2 nc c2, .int .i64 f, .int .i64 h, .int .i64 t]) ∧ Out encM 4 w.heap.size w' A1 c1 T ∧ Out encC 3 w.heap.size w' A2 c2 C ∧ Below w.heap.size w w') := by
  subst hnt
  subst hnc
  obtain ⟨wp, hwp⟩ : ∃ y, y = (w.alloc (.cells #[.int .i64 b, .int .i64 n, .int .i64 o, .slice At T.length ct, .slice Ac C.length cc, .int .i64 f, .int .i64 h, .int .i64 t] 42)).alloc (.cells #[.int .i64 0, .int .i64 0, .int .i64 0, .slice none 0 0, .slice none 0 0, .int .i64 0, .int .i64 0, .int .i64 0] 28) := ⟨_, rfl⟩
  have hzp : wp.heap.size = w.heap.size + 1 + 1 := by subst hwp; simp
  have hp : Below w.heap.size w wp := by subst hwp; exact ((Below.refl _ _).alloc (Nat.le_refl _) _).alloc (by simp) _
  have bg : BlAt wp w.heap.size #[.int .i64 b, .int .i64 n, .int .i64 o, .slice At T.length ct, .slice Ac C.length cc, .int .i64 f, .int .i64 h, .int .i64 t] := by subst hwp; exact (BlAt.new _ _ _).alloc _
  have bz : BlAt wp (w.heap.size + 1) #[.int .i64 0, .int .i64 0, .int .i64 0, .slice none 0 0, .slice none 0 0, .int .i64 0, .int .i64 0, .int .i64 0] := by
    subst hwp
    have := BlAt.new (w.alloc (.cells #[.int .i64 b, .int .i64 n, .int .i64 o, .slice At T.length ct, .slice Ac C.length cc, .int .i64 f, .int .i64 h, .int .i64 t] 42)) 28 #[.int .i64 0, .int .i64 0, .int .i64 0, .slice none 0 0, .slice none 0 0, .int .i64 0, .int .i64 0, .int .i64 0]
    rw [alloc_size] at this
    exact this
  obtain ⟨wq, hwq⟩ : ∃ y, y = wp.alloc (.cells #[.int .i64 0, .int .i64 0, .int .i64 0, .slice none 0 0, .slice none 0 0, .int .i64 0, .int .i64 0, .int .i64 0] 28) := ⟨_, rfl⟩
  have hpq : Below wp.heap.size wp wq := by subst hwq; exact (Below.refl _ _).alloc (Nat.le_refl _) _
  have hq : Below w.heap.size w wq := hp.trans (hpq.mono hp.size)
  have hzq : wq.heap.size = w.heap.size + 1 + 1 + 1 := by subst hwq; simp [hzp]
  have bo : BlAt wq (w.heap.size + 1 + 1) #[.int .i64 0, .int .i64 0, .int .i64 0, .slice none 0 0, .slice none 0 0, .int .i64 0, .int .i64 0, .int .i64 0] := by subst hwq; rw [← hzp]; exact BlAt.new _ _ _
  have BG := Lib.hid (fun W (h : Below (w.heap.size + 2) wq W) => (bg.below_ hpq).below h (by omega))
  have BZ := Lib.hid (fun W (h : Below (w.heap.size + 2) wq W) => (bz.below_ hpq).below h (by omega))
  have hz : w.heap.size + 2 < wq.heap.size := by omega
  have ST := Lib.hid (fun W (h : Below (w.heap.size + 2) wq W) => hT.below (hq.trans (h.mono (by omega))))
  have SC := Lib.hid (fun W (h : Below (w.heap.size + 2) wq W) => hC.below (hq.trans (h.mono (by omega))))
  have BO := Lib.hid bo
  have WQ := Lib.hid (show wq = ((w.alloc (.cells #[.int .i64 b, .int .i64 n, .int .i64 o, .slice At T.length ct, .slice Ac C.length cc, .int .i64 f, .int .i64 h, .int .i64 t] 42)).alloc (.cells #[.int .i64 0, .int .i64 0, .int .i64 0, .slice none 0 0, .slice none 0 0, .int .i64 0, .int .i64 0, .int .i64 0] 28)).alloc (.cells #[.int .i64 0, .int .i64 0, .int .i64 0, .slice none 0 0, .slice none 0 0, .int .i64 0, .int .i64 0, .int .i64 0] 28) by rw [hwq, hwp])
  have hk0 : Below (w.heap.size + 2) wq wq := Below.refl _ _
  have ne1 : w.heap.size ≠ w.heap.size + 1 + 1 := by omega
  have ne2 : w.heap.size + 1 ≠ w.heap.size + 1 + 1 := by omega
  clear hwp hwq hT hC bg bz bo hzp hzq hp hpq
  go_enter Try.func17, Try.ntmps17
  go_wp2_with fail
  rw [← WQ.out]
  refine (laws_toNet b n _).mono ?_
  rintro e w2 ⟨rfl, hb2⟩
  have hk2 := bstep hk0 hb2 (Nat.le_of_lt hz)
  have b2 := BO.out.below_ hb2
  obtain ⟨x0, x1, x2, x3, x4, x5, x6, x7⟩ := gcells (BG.out w2 hk2)
  obtain ⟨y0, y1, y2, y3, y4, y5, y6, y7⟩ := gcells (b2)
  obtain ⟨q0, q1, q2, q3, q4, q5, q6, q7⟩ := gfrees (b2)
  have B2 := Lib.hid b2
  clear b2
  go_wp2_with fail
  obtain ⟨w3, hw3⟩ : ∃ y, y = ((w2.setCell ⟨w.heap.size + 1 + 1, 0, none⟩ (.int .i64 b)).setCell ⟨w.heap.size + 1 + 1, 1, none⟩ (.int .i64 n)).setCell ⟨w.heap.size + 1 + 1, 2, none⟩ (.int .i64 o) := ⟨_, rfl⟩
  have hk3 : Below (w.heap.size + 2) wq w3 := by subst hw3; exact ((hk2.setCell (Nat.le_refl _) _).setCell (Nat.le_refl _) _).setCell (Nat.le_refl _) _
  have b3 : BlAt w3 (w.heap.size + 1 + 1) #[.int .i64 b, .int .i64 n, .int .i64 o, .slice none 0 0, .slice none 0 0, .int .i64 0, .int .i64 0, .int .i64 0] := by
    subst hw3
    exact ((B2.out.set (cs' := #[.int .i64 b, .int .i64 0, .int .i64 0, .slice none 0 0, .slice none 0 0, .int .i64 0, .int .i64 0, .int .i64 0]) 0 (.int .i64 b) rfl).set (cs' := #[.int .i64 b, .int .i64 n, .int .i64 0, .slice none 0 0, .slice none 0 0, .int .i64 0, .int .i64 0, .int .i64 0]) 1 (.int .i64 n) rfl).set 2 (.int .i64 o) rfl
  rw [← hw3]
  clear hw3
  clear x0 x1 x2 x3 x4 x5 x6 x7 y0 y1 y2 y3 y4 y5 y6 y7 q0 q1 q2 q3 q4 q5 q6 q7
  refine (toMts rfl hlT (ST.out _ hk3)).mono ?_
  rintro e w4 ⟨A1, c1, rfl, o4, hb4⟩
  have hk4 := bstep hk3 hb4 (Nat.le_of_lt b3.lt)
  have b4 := b3.below_ hb4
  have l4 := b3.lt
  have lz4 : wq.heap.size ≤ w4.heap.size := hk4.size
  obtain ⟨x0, x1, x2, x3, x4, x5, x6, x7⟩ := gcells (BG.out w4 hk4)
  obtain ⟨y0, y1, y2, y3, y4, y5, y6, y7⟩ := gcells (b4)
  obtain ⟨q0, q1, q2, q3, q4, q5, q6, q7⟩ := gfrees (b4)
  have B4 := Lib.hid b4
  have O4 := Lib.hid o4.out
  clear b4 o4 b3
  go_wp2_with fail
  obtain ⟨w5, hw5⟩ : ∃ y, y = w4.setCell ⟨w.heap.size + 1 + 1, 3, none⟩ (.slice A1 T.length c1) := ⟨_, rfl⟩
  have hk5 : Below (w.heap.size + 2) wq w5 := by subst hw5; exact hk4.setCell (Nat.le_refl _) _
  have b5 : BlAt w5 (w.heap.size + 1 + 1) #[.int .i64 b, .int .i64 n, .int .i64 o, .slice A1 T.length c1, .slice none 0 0, .int .i64 0, .int .i64 0, .int .i64 0] := by subst hw5; exact B4.out.set 3 _ rfl
  have l35 : w3.heap.size ≤ w5.heap.size := by subst hw5; simpa using hb4.size
  have O5 := Lib.hid (show Out encM 4 w3.heap.size w5 A1 c1 T by subst hw5; exact O4.out.farB l4 _)
  rw [← hw5]
  clear hw5
  clear x0 x1 x2 x3 x4 x5 x6 x7 y0 y1 y2 y3 y4 y5 y6 y7 q0 q1 q2 q3 q4 q5 q6 q7
  refine (toCts rfl hlC (SC.out _ hk5)).mono ?_
  rintro e w6 ⟨A2, c2, rfl, o6, hb6⟩
  have hk6 := bstep hk5 hb6 (Nat.le_of_lt b5.lt)
  have b6 := b5.below_ hb6
  have l5 := b5.lt
  have zz := BZ.out w6 hk6
  obtain ⟨x0, x1, x2, x3, x4, x5, x6, x7⟩ := gcells (BG.out w6 hk6)
  obtain ⟨y0, y1, y2, y3, y4, y5, y6, y7⟩ := gcells (b6)
  obtain ⟨q0, q1, q2, q3, q4, q5, q6, q7⟩ := gfrees (b6)
  obtain ⟨z0, z1, z2, z3, z4, z5, z6, z7⟩ := gcells (zz)
  obtain ⟨p0, p1, p2, p3, p4, p5, p6, p7⟩ := gfrees (zz)
  have O6 := Lib.hid (O5.out.below hb6)
  have P6 := Lib.hid o6.out
  clear b6 zz o6 b5 hb6 hb4
  go_wp2
  refine bodyPost_ret (v := .agg #[.int .i64 b, .int .i64 n, .int .i64 o, .slice A1 T.length c1, .slice A2 C.length c2, .int .i64 f, .int .i64 h, .int .i64 t]) (by simp [results, Try.results17, go_sem, z0, z1, z2, z3, z4, z5, z6, z7, ne2]) rfl ⟨A1, c1, A2, c2, rfl, ?_, ?_, ?_⟩
  · exact (out_eightB ((((O6.out.farB l4 _).farB l4 _).farB l4 _).farB l4 _) (Nat.lt_of_le_of_lt (Nat.le_succ _) l4) _ _ _ _ _ _ _ _).mono (by omega)
  · exact (out_eightB ((((P6.out.farB l5 _).farB l5 _).farB l5 _).farB l5 _) (Nat.lt_of_le_of_lt (Nat.le_succ _) l5) _ _ _ _ _ _ _ _).mono (by omega)
  · exact below_eight (((((hq.trans (hk6.mono (by omega))).setCell (by show w.heap.size ≤ w.heap.size + 1 + 1; omega) _).setCell (by show w.heap.size ≤ w.heap.size + 1 + 1; omega) _).setCell (by show w.heap.size ≤ w.heap.size + 1 + 1; omega) _).setCell (by show w.heap.size ≤ w.heap.size + 1 + 1; omega) _) (Nat.le_succ _) _ _ _ _ _ _ _ _
end Go.Proofs.Ytlgfmnognhojnaa
