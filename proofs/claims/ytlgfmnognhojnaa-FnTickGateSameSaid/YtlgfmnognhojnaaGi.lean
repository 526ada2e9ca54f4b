/- The reference's SendOut, as far as the generators ask: goesOut, send, SendOut, walked. -/
import Derived.Test.YtlgfmnognhojnaaGe
import Derived.Test.YtlgfmnognhojnaaKr
namespace Go.Proofs.Ytlgfmnognhojnaa
open Go.RowKit
theorem PkAt.far6 {w : World} {g b : Nat} {k fa fp ta tp : Int} {s : Value} (h : PkAt w g k fa fp ta tp s) (hb : b ≠ g) (u0 u1 u2 u3 u4 u5 : Value) : PkAt ((((((w.setCell ⟨b, 0, none⟩ u0).setCell ⟨b, 1, none⟩ u1).setCell ⟨b, 2, none⟩ u2).setCell ⟨b, 3, none⟩ u3).setCell ⟨b, 4, none⟩ u4).setCell ⟨b, 5, none⟩ u5) g k fa fp ta tp s :=
  h.of_heap (by simp [World.setCell, Array.getElem?_modify, hb])
theorem PkAt.far8 {w : World} {g b : Nat} {k fa fp ta tp : Int} {s : Value} (h : PkAt w g k fa fp ta tp s) (hb : b ≠ g) (u0 u1 u2 u3 u4 u5 u6 u7 : Value) : PkAt ((((((((w.setCell ⟨b, 0, none⟩ u0).setCell ⟨b, 1, none⟩ u1).setCell ⟨b, 2, none⟩ u2).setCell ⟨b, 3, none⟩ u3).setCell ⟨b, 4, none⟩ u4).setCell ⟨b, 5, none⟩ u5).setCell ⟨b, 6, none⟩ u6).setCell ⟨b, 7, none⟩ u7) g k fa fp ta tp s :=
  h.of_heap (by simp [World.setCell, Array.getElem?_modify, hb])
theorem BlAt.far6 {w : World} {g b : Nat} {cs : Array Value} (h : BlAt w g cs) (hb : b ≠ g) (u0 u1 u2 u3 u4 u5 : Value) : BlAt ((((((w.setCell ⟨b, 0, none⟩ u0).setCell ⟨b, 1, none⟩ u1).setCell ⟨b, 2, none⟩ u2).setCell ⟨b, 3, none⟩ u3).setCell ⟨b, 4, none⟩ u4).setCell ⟨b, 5, none⟩ u5) g cs :=
  h.of_heap (by simp [World.setCell, Array.getElem?_modify, hb])
theorem BlAt.far8 {w : World} {g b : Nat} {cs : Array Value} (h : BlAt w g cs) (hb : b ≠ g) (u0 u1 u2 u3 u4 u5 u6 u7 : Value) : BlAt ((((((((w.setCell ⟨b, 0, none⟩ u0).setCell ⟨b, 1, none⟩ u1).setCell ⟨b, 2, none⟩ u2).setCell ⟨b, 3, none⟩ u3).setCell ⟨b, 4, none⟩ u4).setCell ⟨b, 5, none⟩ u5).setCell ⟨b, 6, none⟩ u6).setCell ⟨b, 7, none⟩ u7) g cs :=
  h.of_heap (by simp [World.setCell, Array.getElem?_modify, hb])
/-- What the generators need of what was sent. -/
def Sent (B : Nat) (w w' : World) (e : Ending) : Prop := ∃ (k1 k2 k3 k4 k5 : Int) (A3 : Option Addr) (n3 c3 : Nat) (b' n' o' f' h' t' : Int) (T' : List Mp) (C' : List Ct) (A1 A2 : Option Addr) (c1 c2 : Nat) (r : Bool), e = .returned (.tuple #[.agg #[.int .i64 k1, .int .i64 k2, .int .i64 k3, .int .i64 k4, .int .i64 k5, .slice A3 n3 c3], .agg #[.int .i64 b', .int .i64 n', .int .i64 o', .slice A1 T'.length c1, .slice A2 C'.length c2, .int .i64 f', .int .i64 h', .int .i64 t'], .bool r]) ∧ T'.length ≤ 10 ∧ C'.length ≤ 10 ∧ 0 ≤ t' ∧ t' ≤ 10000 ∧ Out encM 4 B w' A1 c1 T' ∧ Out encC 3 B w' A2 c2 C' ∧ Below B w w'
theorem Sent.zero {B : Nat} {w w' : World} (h : Below B w w') : Sent B w w' (.returned (.tuple #[.agg #[.int .i64 0, .int .i64 0, .int .i64 0, .int .i64 0, .int .i64 0, .slice none 0 0], .agg #[.int .i64 0, .int .i64 0, .int .i64 0, .slice none 0 0, .slice none 0 0, .int .i64 0, .int .i64 0, .int .i64 0], .bool false])) :=
  ⟨0, 0, 0, 0, 0, none, 0, 0, 0, 0, 0, 0, 0, 0, [], [], none, none, 0, 0, false, rfl, by simp, by simp, by omega, by omega, ⟨Sl.nil, Fr.nil⟩, ⟨Sl.nil, Fr.nil⟩, h⟩
def goO (G : Gt) (x : Pk) : Bool := okG G && (okPk x && (hasN G.b G.n x.fa && (!hasN G.b G.n x.ta && !(x.ta == G.o))))
set_option maxRecDepth 4000 in
set_option maxHeartbeats 4000000 in
theorem spec_goesOut (b n o f h t : Int) (T : List Mp) (C : List Ct) (At Ac : Option Addr) (ct cc nt nc : Nat) (k fa fp ta tp : Int) (w : World) (hnt : nt = T.length) (hnc : nc = C.length) (hlT : T.length ≤ 2000000) (hlC : C.length ≤ 2000000) (hT : Sl encM 4 w At ct T) (hC : Sl encC 3 w Ac cc C) :
    Calls Try.prog 101 #[.agg #[.int .i64 b, .int .i64 n, .int .i64 o, .slice At nt ct, .slice Ac nc cc, .int .i64 f, .int .i64 h, .int .i64 t], .agg #[.int .i64 k, .int .i64 fa, .int .i64 fp, .int .i64 ta, .int .i64 tp, .slice none 0 0]] w (Ret w (.bool (goO ⟨b, n, o, T, C, f, h, t⟩ ⟨k, fa, fp, ta, tp, []⟩))) := by
  subst hnt
  subst hnc
  obtain ⟨wq, hwq⟩ : ∃ y, y = (w.alloc (.cells #[.int .i64 b, .int .i64 n, .int .i64 o, .slice At T.length ct, .slice Ac C.length cc, .int .i64 f, .int .i64 h, .int .i64 t] 28)).alloc (.cells #[.int .i64 k, .int .i64 fa, .int .i64 fp, .int .i64 ta, .int .i64 tp, .slice none 0 0] 110) := ⟨_, rfl⟩
  have hq : Below w.heap.size w wq := by subst hwq; exact ((Below.refl _ _).alloc (Nat.le_refl _) _).alloc (by simp) _
  have hzq : wq.heap.size = w.heap.size + 1 + 1 := by subst hwq; simp
  have bg : BlAt wq w.heap.size #[.int .i64 b, .int .i64 n, .int .i64 o, .slice At T.length ct, .slice Ac C.length cc, .int .i64 f, .int .i64 h, .int .i64 t] := by subst hwq; exact (BlAt.new _ _ _).alloc _
  have bp : PkAt wq (w.heap.size + 1) k fa fp ta tp (.slice none 0 0) := by
    subst hwq
    have := PkAt.new (w.alloc (.cells #[.int .i64 b, .int .i64 n, .int .i64 o, .slice At T.length ct, .slice Ac C.length cc, .int .i64 f, .int .i64 h, .int .i64 t] 28)) 110 k fa fp ta tp (.slice none 0 0)
    rw [alloc_size] at this
    exact this
  have BG := Lib.hid (fun W (h : Below wq.heap.size wq W) => bg.below h (by omega))
  have BP := Lib.hid (fun W (h : Below wq.heap.size wq W) => bp.below h (by omega))
  have ST := Lib.hid (fun W (h : Below wq.heap.size wq W) => hT.below (hq.trans (h.mono hq.size)))
  have SC := Lib.hid (fun W (h : Below wq.heap.size wq W) => hC.below (hq.trans (h.mono hq.size)))
  have WQ := Lib.hid hwq
  have hk0 : Below wq.heap.size wq wq := Below.refl _ _
  obtain ⟨r0, hr0⟩ : ∃ r, okG ⟨b, n, o, T, C, f, h, t⟩ = r := ⟨_, rfl⟩
  obtain ⟨r1, hr1⟩ : ∃ r, okPk ⟨k, fa, fp, ta, tp, []⟩ = r := ⟨_, rfl⟩
  obtain ⟨r2, hr2⟩ : ∃ r, hasN b n fa = r := ⟨_, rfl⟩
  obtain ⟨r3, hr3⟩ : ∃ r, hasN b n ta = r := ⟨_, rfl⟩
  have hv : goO ⟨b, n, o, T, C, f, h, t⟩ ⟨k, fa, fp, ta, tp, []⟩ = (r0 && (r1 && (r2 && (!r3 && !(ta == o))))) := by unfold goO; rw [hr0, hr1]; show (r0 && (r1 && (hasN b n fa && (!hasN b n ta && !(ta == o))))) = _; rw [hr2, hr3]
  rw [hv]
  have R0 := Lib.hid hr0
  have R1 := Lib.hid hr1
  have R2 := Lib.hid hr2
  have R3 := Lib.hid hr3
  obtain ⟨x0, x1, x2, x3, x4, x5, x6, x7⟩ := gcells (bg)
  clear hwq hT hC bg bp hzq hr0 hr1 hr2 hr3 hv
  go_enter Try.func101, Try.ntmps101
  go_wp2_with fail
  rw [← WQ.out]
  refine (spec_validGate b n o f h t T C At Ac ct cc _ _ _ rfl rfl hlT hlC (ST.out _ hk0) (SC.out _ hk0)).mono ?_
  rintro e w1 ⟨rfl, hk1⟩
  rw [R0.out]
  clear x0 x1 x2 x3 x4 x5 x6 x7
  cases r0
  · go_wp2
    go_ret
    exact ⟨rfl, hq.trans (hk1.mono hq.size)⟩
  obtain ⟨y0, y1, y2, y3, y4, y5⟩ := (BP.out w1 hk1).cells
  go_wp2_with fail
  refine (spec_validPacket _ _ _ _ _ [] _ _ _ _ rfl (by simp) Sl.nil).mono ?_
  rintro e w2 ⟨rfl, hb2⟩
  rw [R1.out]
  have hk2 := bstep hk1 hb2 hk1.size
  clear y0 y1 y2 y3 y4 y5
  cases r1
  · go_wp2
    go_ret
    exact ⟨rfl, hq.trans (hk2.mono hq.size)⟩
  obtain ⟨h0, h1⟩ := okN_bits (okG_iff.1 R0.out).1.net
  obtain ⟨b0, b1⟩ := okN_base (okG_iff.1 R0.out).1.net
  obtain ⟨x0, x1, x2, x3, x4, x5, x6, x7⟩ := gcells (BG.out w2 hk2)
  obtain ⟨y0, y1, y2, y3, y4, y5⟩ := (BP.out w2 hk2).cells
  go_wp2_with fail
  refine (spec_inNet b n fa _ h0 h1 b0 b1).mono ?_
  rintro e w3 ⟨rfl, hb3⟩
  rw [R2.out]
  have hk3 := bstep hk2 hb3 hk2.size
  clear x0 x1 x2 x3 x4 x5 x6 x7
  clear y0 y1 y2 y3 y4 y5
  cases r2
  · go_wp2
    go_ret
    exact ⟨rfl, hq.trans (hk3.mono hq.size)⟩
  obtain ⟨x0, x1, x2, x3, x4, x5, x6, x7⟩ := gcells (BG.out w3 hk3)
  obtain ⟨y0, y1, y2, y3, y4, y5⟩ := (BP.out w3 hk3).cells
  go_wp2_with fail
  refine (spec_inNet b n ta _ h0 h1 b0 b1).mono ?_
  rintro e w4 ⟨rfl, hb4⟩
  rw [R3.out]
  have hk4 := bstep hk3 hb4 hk3.size
  clear x0 x1 x2 x3 x4 x5 x6 x7
  clear y0 y1 y2 y3 y4 y5
  cases r3
  rotate_left
  · go_wp2
    go_ret
    exact ⟨rfl, hq.trans (hk4.mono hq.size)⟩
  obtain ⟨x0, x1, x2, x3, x4, x5, x6, x7⟩ := gcells (BG.out w4 hk4)
  obtain ⟨y0, y1, y2, y3, y4, y5⟩ := (BP.out w4 hk4).cells
  go_wp2
  go_ret
  exact ⟨by simp; try rfl, hq.trans (hk4.mono hq.size)⟩
theorem mapR_len (l : List Mp) (a q now : Int) : (mapR l a q now).1.length ≤ l.length + 1 := by
  unfold mapR
  split
  · rw [List.length_set]; omega
  · split
    · simp
    · rw [List.length_append]; simp
set_option maxRecDepth 4000 in
set_option maxHeartbeats 8000000 in
theorem spec_send (b n o f h t : Int) (T : List Mp) (C : List Ct) (At Ac : Option Addr) (ct cc nt nc : Nat) (k fa fp ta tp : Int) (w : World) (hnt : nt = T.length) (hnc : nc = C.length) (hlT : T.length ≤ 2000000) (hlC : C.length ≤ 2000000) (hT : Sl encM 4 w At ct T) (hC : Sl encC 3 w Ac cc C) (hgo : goO ⟨b, n, o, T, C, f, h, t⟩ ⟨k, fa, fp, ta, tp, []⟩ = true) :
    Calls Try.prog 102 #[.agg #[.int .i64 b, .int .i64 n, .int .i64 o, .slice At nt ct, .slice Ac nc cc, .int .i64 f, .int .i64 h, .int .i64 t], .agg #[.int .i64 k, .int .i64 fa, .int .i64 fp, .int .i64 ta, .int .i64 tp, .slice none 0 0]] w (fun e w' => Sent w.heap.size w w' e) := by
  subst hnt
  subst hnc
  obtain ⟨wp, hwp⟩ : ∃ y, y = (w.alloc (.cells #[.int .i64 b, .int .i64 n, .int .i64 o, .slice At T.length ct, .slice Ac C.length cc, .int .i64 f, .int .i64 h, .int .i64 t] 28)).alloc (.cells #[.int .i64 k, .int .i64 fa, .int .i64 fp, .int .i64 ta, .int .i64 tp, .slice none 0 0] 110) := ⟨_, rfl⟩
  have hzp : wp.heap.size = w.heap.size + 1 + 1 := by subst hwp; simp
  have hp : Below w.heap.size w wp := by subst hwp; exact ((Below.refl _ _).alloc (Nat.le_refl _) _).alloc (by simp) _
  have bg : BlAt wp w.heap.size #[.int .i64 b, .int .i64 n, .int .i64 o, .slice At T.length ct, .slice Ac C.length cc, .int .i64 f, .int .i64 h, .int .i64 t] := by subst hwp; exact (BlAt.new _ _ _).alloc _
  have bp : PkAt wp (w.heap.size + 1) k fa fp ta tp (.slice none 0 0) := by
    subst hwp
    have := PkAt.new (w.alloc (.cells #[.int .i64 b, .int .i64 n, .int .i64 o, .slice At T.length ct, .slice Ac C.length cc, .int .i64 f, .int .i64 h, .int .i64 t] 28)) 110 k fa fp ta tp (.slice none 0 0)
    rw [alloc_size] at this
    exact this
  obtain ⟨wq, hwq⟩ : ∃ y, y = (wp.alloc (.cells #[.int .i64 0, .int .i64 0, .int .i64 0, .int .i64 0, .int .i64 0, .slice none 0 0] 110)).alloc (.cells #[.int .i64 0, .int .i64 0, .int .i64 0, .slice none 0 0, .slice none 0 0, .int .i64 0, .int .i64 0, .int .i64 0] 28) := ⟨_, rfl⟩
  have hpq : Below wp.heap.size wp wq := by subst hwq; exact ((Below.refl _ _).alloc (Nat.le_refl _) _).alloc (by simp) _
  have hq : Below w.heap.size w wq := hp.trans (hpq.mono hp.size)
  have hzq : wq.heap.size = w.heap.size + 1 + 1 + 1 + 1 := by subst hwq; simp [hzp]
  have bzp : PkAt wq (w.heap.size + 1 + 1) 0 0 0 0 0 (.slice none 0 0) := by
    subst hwq
    have := (PkAt.new wp 110 0 0 0 0 0 (.slice none 0 0)).alloc (.cells #[.int .i64 0, .int .i64 0, .int .i64 0, .slice none 0 0, .slice none 0 0, .int .i64 0, .int .i64 0, .int .i64 0] 28)
    rw [hzp] at this
    exact this
  have bzg : BlAt wq (w.heap.size + 1 + 1 + 1) #[.int .i64 0, .int .i64 0, .int .i64 0, .slice none 0 0, .slice none 0 0, .int .i64 0, .int .i64 0, .int .i64 0] := by
    subst hwq
    have := BlAt.new (wp.alloc (.cells #[.int .i64 0, .int .i64 0, .int .i64 0, .int .i64 0, .int .i64 0, .slice none 0 0] 110)) 28 #[.int .i64 0, .int .i64 0, .int .i64 0, .slice none 0 0, .slice none 0 0, .int .i64 0, .int .i64 0, .int .i64 0]
    rw [alloc_size, hzp] at this
    exact this
  have BG := Lib.hid (fun W (h : Below wq.heap.size wq W) => (bg.below_ hpq).below h (by omega))
  have BP := Lib.hid (fun W (h : Below wq.heap.size wq W) => (bp.below_ hpq).below h (by omega))
  have ZP := Lib.hid (fun W (h : Below wq.heap.size wq W) => bzp.below h (by omega))
  have ZG := Lib.hid (fun W (h : Below wq.heap.size wq W) => bzg.below h (by omega))
  have ST := Lib.hid (fun W (h : Below wq.heap.size wq W) => hT.below (hq.trans (h.mono hq.size)))
  have SC := Lib.hid (fun W (h : Below wq.heap.size wq W) => hC.below (hq.trans (h.mono hq.size)))
  have HZ := Lib.hid hzq
  have WQ := Lib.hid (show wq = (((w.alloc (.cells #[.int .i64 b, .int .i64 n, .int .i64 o, .slice At T.length ct, .slice Ac C.length cc, .int .i64 f, .int .i64 h, .int .i64 t] 28)).alloc (.cells #[.int .i64 k, .int .i64 fa, .int .i64 fp, .int .i64 ta, .int .i64 tp, .slice none 0 0] 110)).alloc (.cells #[.int .i64 0, .int .i64 0, .int .i64 0, .int .i64 0, .int .i64 0, .slice none 0 0] 110)).alloc (.cells #[.int .i64 0, .int .i64 0, .int .i64 0, .slice none 0 0, .slice none 0 0, .int .i64 0, .int .i64 0, .int .i64 0] 28) by rw [hwq, hwp])
  have hk0 : Below wq.heap.size wq wq := Below.refl _ _
  have hok : okG ⟨b, n, o, T, C, f, h, t⟩ = true := by unfold goO at hgo; simp only [Bool.and_eq_true] at hgo; exact hgo.1
  have hpk : okPk ⟨k, fa, fp, ta, tp, []⟩ = true := by unfold goO at hgo; simp only [Bool.and_eq_true] at hgo; exact hgo.2.1
  have hf0 : 0 ≤ fp ∧ fp ≤ 65535 := (okPk_iff.1 hpk).2.1.2
  obtain ⟨hf0, hf1⟩ := hf0
  have hH := (okG_iff.1 hok).1
  have hT8 : T.length ≤ 8 := ((vM_iff T).1 hH.T).1
  have hC10 : C.length ≤ 10 := ((vC_iff C).1 hH.C).1
  obtain ⟨t0, t1⟩ := inR_iff.1 hH.t
  obtain ⟨R, hR⟩ : ∃ R, mapR T fa fp t = R := ⟨_, rfl⟩
  have hRl : R.1.length ≤ 9 := by rw [← hR]; exact Nat.le_trans (mapR_len _ _ _ _) (by omega)
  have HRV := Lib.hid hR
  obtain ⟨x0, x1, x2, x3, x4, x5, x6, x7⟩ := gcells (bg)
  obtain ⟨y0, y1, y2, y3, y4, y5⟩ := (bp).cells
  clear hwp hwq hT hC bg bp hzq hzp hp hpq bzp bzg hok hpk hH hgo hR
  go_enter Try.func102, Try.ntmps102
  go_wp2_with fail
  rw [← WQ.out]
  refine (spec_mapEnd _ _ _ T fa fp t _ hf0 hf1 rfl (by omega) (ST.out _ hk0)).mono ?_
  rintro e w2 ⟨A5, c5, rfl, ho5, hb2⟩
  rw [HRV.out] at ho5 ⊢
  obtain ⟨R1, R2, R3⟩ := R
  have hRl1 : R1.length ≤ 9 := hRl
  simp only [mapRes]
  clear x0 x1 x2 x3 x4 x5 x6 x7
  clear y0 y1 y2 y3 y4 y5
  cases R3
  · clear ho5
    have zp := ZP.out w2 hb2
    have zg := ZG.out w2 hb2
    obtain ⟨y0, y1, y2, y3, y4, y5⟩ := (zp).cells
    obtain ⟨p0, p1, p2, p3, p4, p5⟩ := (zp).frees
    obtain ⟨z0, z1, z2, z3, z4, z5, z6, z7⟩ := gcells (zg)
    obtain ⟨q0, q1, q2, q3, q4, q5, q6, q7⟩ := gfrees (zg)
    clear zp zg
    have hne1 : w.heap.size + 1 + 1 ≠ w.heap.size + 1 + 1 + 1 := by omega
    go_wp2
    refine bodyPost_ret (v := .tuple #[.agg #[.int .i64 0, .int .i64 0, .int .i64 0, .int .i64 0, .int .i64 0, .slice none 0 0], .agg #[.int .i64 0, .int .i64 0, .int .i64 0, .slice none 0 0, .slice none 0 0, .int .i64 0, .int .i64 0, .int .i64 0], .bool false]) (by simp [results, Try.results102, go_sem, y0, y1, y2, y3, y4, y5, z0, z1, z2, z3, z4, z5, z6, z7]) rfl (Sent.zero ?_)
    exact below_eight (below_six (hq.trans (hb2.mono hq.size)) (by omega) _ _ _ _ _ _) (by omega) _ _ _ _ _ _ _ _
  have O5 := Lib.hid ho5.out
  have hz : w.heap.size + 3 < wq.heap.size := by have := HZ.out; omega
  have l2 := hb2.size
  obtain ⟨x0, x1, x2, x3, x4, x5, x6, x7⟩ := gcells (BG.out w2 hb2)
  obtain ⟨y0, y1, y2, y3, y4, y5⟩ := (BP.out w2 hb2).cells
  clear ho5 hRl
  go_wp2_with fail
  refine (spec_copyGate b n o f h t T C At Ac ct cc _ _ _ rfl rfl hlT hlC (ST.out _ hb2) (SC.out _ hb2)).mono ?_
  rintro e w3 ⟨A1, c1, A2, c2, rfl, _, _, hb3⟩
  have hk3 := bstep hb2 hb3 hb2.size
  have l3 := hb3.size
  have O3 := Lib.hid (O5.out.below hb3)
  clear x0 x1 x2 x3 x4 x5 x6 x7
  clear y0 y1 y2 y3 y4 y5
  obtain ⟨w4, hw4⟩ : ∃ y, y = w3.alloc (.cells #[.int .i64 b, .int .i64 n, .int .i64 o, .slice A5 R1.length c5, .slice A2 C.length c2, .int .i64 f, .int .i64 h, .int .i64 t] 28) := ⟨_, rfl⟩
  have hb4 : Below w3.heap.size w3 w4 := by subst hw4; exact (Below.refl _ _).alloc (Nat.le_refl _) _
  have bo : BlAt w4 w3.heap.size #[.int .i64 b, .int .i64 n, .int .i64 o, .slice A5 R1.length c5, .slice A2 C.length c2, .int .i64 f, .int .i64 h, .int .i64 t] := by subst hw4; exact BlAt.new _ _ _
  have l4 : w3.heap.size < w4.heap.size := bo.lt
  have hk4 := bstep hk3 hb4 hk3.size
  have O4 := Lib.hid (O3.out.below hb4)
  have BO := Lib.hid bo
  have W4 := Lib.hid hw4
  obtain ⟨x0, x1, x2, x3, x4, x5, x6, x7⟩ := gcells (BG.out w3 hk3)
  obtain ⟨y0, y1, y2, y3, y4, y5⟩ := (BP.out w3 hk3).cells
  have lb1 := (BG.out w3 hk3).lt
  have lb2 := (BP.out w3 hk3).lt
  clear hw4 bo
  go_wp2_with fail
  rw [← W4.out]
  refine (spec_note Ac cc C R2 ta tp _ hC10 (SC.out _ hk4)).mono ?_
  rintro e w5 ⟨A6, c6, rfl, ho6, hb5⟩
  have hk5 := bstep hk4 hb5 hk4.size
  have l5 := hb5.size
  have O6 := Lib.hid ho6.out
  have hN10 : (noteC C ⟨R2, ta, tp⟩).length ≤ 10 := noteC_len.1
  obtain ⟨N, hN⟩ : ∃ N, noteC C ⟨R2, ta, tp⟩ = N := ⟨_, rfl⟩
  rw [hN] at hN10 O6 ⊢
  have b5 := BO.out.below_ hb5
  obtain ⟨w6, hw6⟩ : ∃ y, y = w5.setCell ⟨w3.heap.size, 4, none⟩ (.slice A6 N.length c6) := ⟨_, rfl⟩
  have b6 : BlAt w6 w3.heap.size #[.int .i64 b, .int .i64 n, .int .i64 o, .slice A5 R1.length c5, .slice A6 N.length c6, .int .i64 f, .int .i64 h, .int .i64 t] := by subst hw6; exact b5.set 4 _ rfl
  have l6 : w5.heap.size ≤ w6.heap.size := by subst hw6; simp
  have hk6 : Below wq.heap.size wq w6 := by subst hw6; exact hk5.setCell (by show wq.heap.size ≤ w3.heap.size; omega) _
  have P6 := Lib.hid (show Out encC 3 w4.heap.size w6 A6 c6 N by subst hw6; exact O6.out.farB (show w3.heap.size < w4.heap.size from l4) _)
  have O7 := Lib.hid (show Out encM 4 wq.heap.size w6 A5 c5 R1 by subst hw6; exact (O4.out.below hb5).farN (fun g hg hne => by have := (O5.out.span g hg hne).2; show w3.heap.size ≠ g; omega) _)
  have q4 := b5.free 4
  clear x0 x1 x2 x3 x4 x5 x6 x7
  clear y0 y1 y2 y3 y4 y5
  obtain ⟨x0, x1, x2, x3, x4, x5, x6, x7⟩ := gcells (b5)
  have B6 := Lib.hid b6
  have W6 := Lib.hid hw6
  have lb3 := b5.lt
  obtain ⟨y0, y1, y2, y3, y4, y5⟩ := (BP.out w5 hk5).cells
  have hne3 : w.heap.size + 1 ≠ w3.heap.size := by omega
  clear hw6 b5 b6 ho6 hN
  go_wp2_with fail
  rw [← W6.out]
  refine (spec_copyPacket k fa fp ta tp [] _ _ _ _ rfl (by simp) Sl.nil).mono ?_
  rintro e w7 ⟨A8, c8, rfl, _, hb7⟩
  have hk7 := bstep hk6 hb7 hk6.size
  have l7 := hb7.size
  have b7 := B6.out.below_ hb7
  have P7 := Lib.hid (P6.out.below hb7)
  have O8 := Lib.hid (O7.out.below hb7)
  clear x0 x1 x2 x3 x4 x5 x6 x7
  clear y0 y1 y2 y3 y4 y5
  obtain ⟨w8, hw8⟩ : ∃ y, y = w7.alloc (.cells #[.int .i64 k, .int .i64 o, .int .i64 R2, .int .i64 ta, .int .i64 tp, .slice A8 0 c8] 110) := ⟨_, rfl⟩
  have bq : PkAt w8 w7.heap.size k o R2 ta tp (.slice A8 0 c8) := by subst hw8; exact PkAt.new _ _ _ _ _ _ _ _
  have hb8 : Below w7.heap.size w7 w8 := by subst hw8; exact (Below.refl _ _).alloc (Nat.le_refl _) _
  have hk8 := bstep hk7 hb8 hk7.size
  have b8 := b7.below_ hb8
  have P8 := Lib.hid (P7.out.below hb8)
  have O9 := Lib.hid (O8.out.below hb8)
  have W8 := Lib.hid hw8
  have lb7 := (BG.out w7 hk7).lt
  obtain ⟨x0, x1, x2, x3, x4, x5, x6, x7⟩ := gcells (BG.out w7 hk7)
  clear hw8
  have zp := ZP.out w8 hk8
  have zg := ZG.out w8 hk8
  go_wp2_with fail
  rw [← W8.out]
  clear x0 x1 x2 x3 x4 x5 x6 x7
  obtain ⟨x0, x1, x2, x3, x4, x5, x6, x7⟩ := gcells (b8)
  obtain ⟨y0, y1, y2, y3, y4, y5⟩ := (bq).cells
  obtain ⟨u0, u1, u2, u3, u4, u5⟩ := (zp).cells
  obtain ⟨p0, p1, p2, p3, p4, p5⟩ := (zp).frees
  obtain ⟨z0, z1, z2, z3, z4, z5, z6, z7⟩ := gcells (zg)
  obtain ⟨q0, q1, q2, q3, q4, q5, q6, q7⟩ := gfrees (zg)
  have m1 : w3.heap.size ≠ w.heap.size + 1 + 1 := by omega
  have m2 : w3.heap.size ≠ w.heap.size + 1 + 1 + 1 := by omega
  have m3 : w7.heap.size ≠ w.heap.size + 1 + 1 := by omega
  have m4 : w7.heap.size ≠ w.heap.size + 1 + 1 + 1 := by omega
  have m5 : w.heap.size + 1 + 1 ≠ w3.heap.size := by omega
  have m6 : w.heap.size + 1 + 1 + 1 ≠ w3.heap.size := by omega
  have hs2 : w.heap.size + 1 + 1 < wq.heap.size := by omega
  have hs3 : w.heap.size + 1 + 1 + 1 < wq.heap.size := by omega
  obtain ⟨W9, hW9⟩ : ∃ y : World, y = (((((((((((((((w8.setCell ⟨w.heap.size + 1 + 1, 0, none⟩ (.int .i64 k)).setCell ⟨w.heap.size + 1 + 1, 1, none⟩ (.int .i64 o)).setCell ⟨w.heap.size + 1 + 1, 2, none⟩ (.int .i64 R2)).setCell ⟨w.heap.size + 1 + 1, 3, none⟩ (.int .i64 ta)).setCell ⟨w.heap.size + 1 + 1, 4, none⟩ (.int .i64 tp)).setCell ⟨w.heap.size + 1 + 1, 5, none⟩ (.slice A8 0 c8)).setCell ⟨w.heap.size + 1 + 1 + 1, 0, none⟩ (.int .i64 b)).setCell ⟨w.heap.size + 1 + 1 + 1, 1, none⟩ (.int .i64 n)).setCell ⟨w.heap.size + 1 + 1 + 1, 2, none⟩ (.int .i64 o)).setCell ⟨w.heap.size + 1 + 1 + 1, 3, none⟩ (.slice A5 R1.length c5)).setCell ⟨w.heap.size + 1 + 1 + 1, 4, none⟩ (.slice A6 N.length c6)).setCell ⟨w.heap.size + 1 + 1 + 1, 5, none⟩ (.int .i64 f)).setCell ⟨w.heap.size + 1 + 1 + 1, 6, none⟩ (.int .i64 h)).setCell ⟨w.heap.size + 1 + 1 + 1, 7, none⟩ (.int .i64 t))) := ⟨_, rfl⟩
  have r1 : PkAt W9 (w.heap.size + 1 + 1) k o R2 ta tp (.slice A8 0 c8) := by subst hW9; exact PkAt.far8 (six_stores zp) (by omega) _ _ _ _ _ _ _ _
  have r2 : BlAt W9 (w.heap.size + 1 + 1 + 1) #[.int .i64 b, .int .i64 n, .int .i64 o, .slice A5 R1.length c5, .slice A6 N.length c6, .int .i64 f, .int .i64 h, .int .i64 t] := by subst hW9; exact eight_stores (BlAt.far6 zg (by omega) _ _ _ _ _ _)
  have o1 : Out encM 4 wq.heap.size W9 A5 c5 R1 := by subst hW9; exact out_eightB ((((((O9.out.farB hs2 _).farB hs2 _).farB hs2 _).farB hs2 _).farB hs2 _).farB hs2 _) hs3 _ _ _ _ _ _ _ _
  have hs2' : w.heap.size + 1 + 1 < w4.heap.size := by omega
  have hs3' : w.heap.size + 1 + 1 + 1 < w4.heap.size := by omega
  have o2 : Out encC 3 w4.heap.size W9 A6 c6 N := by subst hW9; exact out_eightB ((((((P8.out.farB hs2' _).farB hs2' _).farB hs2' _).farB hs2' _).farB hs2' _).farB hs2' _) hs3' _ _ _ _ _ _ _ _
  have hb9 : Below w.heap.size w W9 := by subst hW9; exact (below_eight (below_six (hq.trans (hk8.mono hq.size)) (by omega) _ _ _ _ _ _) (by omega) _ _ _ _ _ _ _ _)
  have RR1 := Lib.hid (show PkAt W9.drew (w.heap.size + 1 + 1) k o R2 ta tp (.slice A8 0 c8) from r1)
  have RR2 := Lib.hid (show BlAt W9.drew (w.heap.size + 1 + 1 + 1) #[.int .i64 b, .int .i64 n, .int .i64 o, .slice A5 R1.length c5, .slice A6 N.length c6, .int .i64 f, .int .i64 h, .int .i64 t] from r2)
  have OO1 := Lib.hid (show Out encM 4 w.heap.size W9.drew A5 c5 R1 from o1.mono hq.size)
  have OO2 := Lib.hid (show Out encC 3 w.heap.size W9.drew A6 c6 N from o2.mono (show w.heap.size ≤ w4.heap.size by omega))
  have HB9 := Lib.hid (show Below w.heap.size w W9.drew from hb9.drew)
  have HW := Lib.hid hW9
  clear zp zg bq b8 b7 hb2 hb3 hb4 hb5 hb7 hb8 r1 r2 o1 o2 hW9 hb9
  go_region_with (fail)
  all_goals
    rw [← HW.out]
    clear x0 x1 x2 x3 x4 x5 x6 x7 y0 y1 y2 y3 y4 y5 u0 u1 u2 u3 u4 u5 p0 p1 p2 p3 p4 p5 z0 z1 z2 z3 z4 z5 z6 z7 q0 q1 q2 q3 q4 q5 q6 q7
    obtain ⟨u0, u1, u2, u3, u4, u5⟩ := (RR1.out).cells
    obtain ⟨z0, z1, z2, z3, z4, z5, z6, z7⟩ := gcells (RR2.out)
    go_wp2
    refine bodyPost_ret (v := .tuple #[.agg #[.int .i64 k, .int .i64 o, .int .i64 R2, .int .i64 ta, .int .i64 tp, .slice A8 0 c8], .agg #[.int .i64 b, .int .i64 n, .int .i64 o, .slice A5 R1.length c5, .slice A6 N.length c6, .int .i64 f, .int .i64 h, .int .i64 t], .bool true]) (by simp [results, Try.results102, go_sem, u0, u1, u2, u3, u4, u5, z0, z1, z2, z3, z4, z5, z6, z7]) rfl ⟨k, o, R2, ta, tp, A8, 0, c8, b, n, o, f, h, t, R1, N, A5, A6, c5, c6, true, rfl, by omega, hN10, t0, t1, OO1.out, OO2.out, HB9.out⟩
set_option maxRecDepth 4000 in
set_option maxHeartbeats 8000000 in
theorem spec_SendOut (b n o f h t : Int) (T : List Mp) (C : List Ct) (At Ac : Option Addr) (ct cc nt nc : Nat) (k fa fp ta tp : Int) (w : World) (hnt : nt = T.length) (hnc : nc = C.length) (hlT : T.length ≤ 2000000) (hlC : C.length ≤ 2000000) (hT : Sl encM 4 w At ct T) (hC : Sl encC 3 w Ac cc C) :
    Calls Try.prog 93 #[.agg #[.int .i64 b, .int .i64 n, .int .i64 o, .slice At nt ct, .slice Ac nc cc, .int .i64 f, .int .i64 h, .int .i64 t], .agg #[.int .i64 k, .int .i64 fa, .int .i64 fp, .int .i64 ta, .int .i64 tp, .slice none 0 0]] w (fun e w' => Sent w.heap.size w w' e) := by
  subst hnt
  subst hnc
  obtain ⟨wp, hwp⟩ : ∃ y, y = (w.alloc (.cells #[.int .i64 b, .int .i64 n, .int .i64 o, .slice At T.length ct, .slice Ac C.length cc, .int .i64 f, .int .i64 h, .int .i64 t] 28)).alloc (.cells #[.int .i64 k, .int .i64 fa, .int .i64 fp, .int .i64 ta, .int .i64 tp, .slice none 0 0] 110) := ⟨_, rfl⟩
  have hzp : wp.heap.size = w.heap.size + 1 + 1 := by subst hwp; simp
  have hp : Below w.heap.size w wp := by subst hwp; exact ((Below.refl _ _).alloc (Nat.le_refl _) _).alloc (by simp) _
  have bg : BlAt wp w.heap.size #[.int .i64 b, .int .i64 n, .int .i64 o, .slice At T.length ct, .slice Ac C.length cc, .int .i64 f, .int .i64 h, .int .i64 t] := by subst hwp; exact (BlAt.new _ _ _).alloc _
  have bp : PkAt wp (w.heap.size + 1) k fa fp ta tp (.slice none 0 0) := by
    subst hwp
    have := PkAt.new (w.alloc (.cells #[.int .i64 b, .int .i64 n, .int .i64 o, .slice At T.length ct, .slice Ac C.length cc, .int .i64 f, .int .i64 h, .int .i64 t] 28)) 110 k fa fp ta tp (.slice none 0 0)
    rw [alloc_size] at this
    exact this
  obtain ⟨wq, hwq⟩ : ∃ y, y = (wp.alloc (.cells #[.int .i64 0, .int .i64 0, .int .i64 0, .int .i64 0, .int .i64 0, .slice none 0 0] 110)).alloc (.cells #[.int .i64 0, .int .i64 0, .int .i64 0, .slice none 0 0, .slice none 0 0, .int .i64 0, .int .i64 0, .int .i64 0] 28) := ⟨_, rfl⟩
  have hpq : Below wp.heap.size wp wq := by subst hwq; exact ((Below.refl _ _).alloc (Nat.le_refl _) _).alloc (by simp) _
  have hq : Below w.heap.size w wq := hp.trans (hpq.mono hp.size)
  have hzq : wq.heap.size = w.heap.size + 1 + 1 + 1 + 1 := by subst hwq; simp [hzp]
  have bzp : PkAt wq (w.heap.size + 1 + 1) 0 0 0 0 0 (.slice none 0 0) := by
    subst hwq
    have := (PkAt.new wp 110 0 0 0 0 0 (.slice none 0 0)).alloc (.cells #[.int .i64 0, .int .i64 0, .int .i64 0, .slice none 0 0, .slice none 0 0, .int .i64 0, .int .i64 0, .int .i64 0] 28)
    rw [hzp] at this
    exact this
  have bzg : BlAt wq (w.heap.size + 1 + 1 + 1) #[.int .i64 0, .int .i64 0, .int .i64 0, .slice none 0 0, .slice none 0 0, .int .i64 0, .int .i64 0, .int .i64 0] := by
    subst hwq
    have := BlAt.new (wp.alloc (.cells #[.int .i64 0, .int .i64 0, .int .i64 0, .int .i64 0, .int .i64 0, .slice none 0 0] 110)) 28 #[.int .i64 0, .int .i64 0, .int .i64 0, .slice none 0 0, .slice none 0 0, .int .i64 0, .int .i64 0, .int .i64 0]
    rw [alloc_size, hzp] at this
    exact this
  have BG := Lib.hid (fun W (h : Below wq.heap.size wq W) => (bg.below_ hpq).below h (by omega))
  have BP := Lib.hid (fun W (h : Below wq.heap.size wq W) => (bp.below_ hpq).below h (by omega))
  have ZP := Lib.hid (fun W (h : Below wq.heap.size wq W) => bzp.below h (by omega))
  have ZG := Lib.hid (fun W (h : Below wq.heap.size wq W) => bzg.below h (by omega))
  have ST := Lib.hid (fun W (h : Below wq.heap.size wq W) => hT.below (hq.trans (h.mono hq.size)))
  have SC := Lib.hid (fun W (h : Below wq.heap.size wq W) => hC.below (hq.trans (h.mono hq.size)))
  have HZ := Lib.hid hzq
  have WQ := Lib.hid (show wq = (((w.alloc (.cells #[.int .i64 b, .int .i64 n, .int .i64 o, .slice At T.length ct, .slice Ac C.length cc, .int .i64 f, .int .i64 h, .int .i64 t] 28)).alloc (.cells #[.int .i64 k, .int .i64 fa, .int .i64 fp, .int .i64 ta, .int .i64 tp, .slice none 0 0] 110)).alloc (.cells #[.int .i64 0, .int .i64 0, .int .i64 0, .int .i64 0, .int .i64 0, .slice none 0 0] 110)).alloc (.cells #[.int .i64 0, .int .i64 0, .int .i64 0, .slice none 0 0, .slice none 0 0, .int .i64 0, .int .i64 0, .int .i64 0] 28) by rw [hwq, hwp])
  have hk0 : Below wq.heap.size wq wq := Below.refl _ _
  obtain ⟨r, hr⟩ : ∃ r, goO ⟨b, n, o, T, C, f, h, t⟩ ⟨k, fa, fp, ta, tp, []⟩ = r := ⟨_, rfl⟩
  have HR := Lib.hid hr
  have hz : w.heap.size + 3 < wq.heap.size := by omega
  obtain ⟨x0, x1, x2, x3, x4, x5, x6, x7⟩ := gcells (bg)
  obtain ⟨y0, y1, y2, y3, y4, y5⟩ := (bp).cells
  clear hwp hwq hT hC bg bp hzq hzp hp hpq bzp bzg hr
  go_enter Try.func93, Try.ntmps93
  go_wp2_with fail
  rw [← WQ.out]
  refine (spec_goesOut b n o f h t T C At Ac ct cc _ _ k fa fp ta tp _ rfl rfl hlT hlC (ST.out _ hk0) (SC.out _ hk0)).mono ?_
  rintro e w2 ⟨rfl, hb2⟩
  rw [HR.out]
  clear x0 x1 x2 x3 x4 x5 x6 x7
  clear y0 y1 y2 y3 y4 y5
  cases r
  · skip
    have zp := ZP.out w2 hb2
    have zg := ZG.out w2 hb2
    obtain ⟨y0, y1, y2, y3, y4, y5⟩ := (zp).cells
    obtain ⟨p0, p1, p2, p3, p4, p5⟩ := (zp).frees
    obtain ⟨z0, z1, z2, z3, z4, z5, z6, z7⟩ := gcells (zg)
    obtain ⟨q0, q1, q2, q3, q4, q5, q6, q7⟩ := gfrees (zg)
    clear zp zg
    have hne1 : w.heap.size + 1 + 1 ≠ w.heap.size + 1 + 1 + 1 := by omega
    go_wp2
    refine bodyPost_ret (v := .tuple #[.agg #[.int .i64 0, .int .i64 0, .int .i64 0, .int .i64 0, .int .i64 0, .slice none 0 0], .agg #[.int .i64 0, .int .i64 0, .int .i64 0, .slice none 0 0, .slice none 0 0, .int .i64 0, .int .i64 0, .int .i64 0], .bool false]) (by simp [results, Try.results93, go_sem, y0, y1, y2, y3, y4, y5, z0, z1, z2, z3, z4, z5, z6, z7]) rfl (Sent.zero ?_)
    exact below_eight (below_six (hq.trans (hb2.mono hq.size)) (by omega) _ _ _ _ _ _) (by omega) _ _ _ _ _ _ _ _
  obtain ⟨x0, x1, x2, x3, x4, x5, x6, x7⟩ := gcells (BG.out w2 hb2)
  obtain ⟨y0, y1, y2, y3, y4, y5⟩ := (BP.out w2 hb2).cells
  go_wp2_with fail
  refine (spec_send b n o f h t T C At Ac ct cc _ _ k fa fp ta tp _ rfl rfl hlT hlC (ST.out _ hb2) (SC.out _ hb2) HR.out).mono ?_
  rintro e w3 ⟨k1, k2, k3, k4, k5, A3, n3, c3, b', n', o', f', h', t', T', C', A1, A2, c1, c2, r', rfl, hl1, hl2, ht0, ht1, o1, o2, hb3⟩
  have hk3 := bstep hb2 hb3 hb2.size
  have l2 := hb2.size
  have O1 := Lib.hid o1
  have O2 := Lib.hid o2
  clear x0 x1 x2 x3 x4 x5 x6 x7
  clear y0 y1 y2 y3 y4 y5
  have zp := ZP.out w3 hk3
  have zg := ZG.out w3 hk3
  obtain ⟨u0, u1, u2, u3, u4, u5⟩ := (zp).cells
  obtain ⟨p0, p1, p2, p3, p4, p5⟩ := (zp).frees
  obtain ⟨z0, z1, z2, z3, z4, z5, z6, z7⟩ := gcells (zg)
  obtain ⟨q0, q1, q2, q3, q4, q5, q6, q7⟩ := gfrees (zg)
  have hs2 : w.heap.size + 1 + 1 < w2.heap.size := by omega
  have hs3 : w.heap.size + 1 + 1 + 1 < w2.heap.size := by omega
  clear zp zg o1 o2 hb2 hb3
  go_wp2
  refine bodyPost_ret (v := .tuple #[.agg #[.int .i64 k1, .int .i64 k2, .int .i64 k3, .int .i64 k4, .int .i64 k5, .slice A3 n3 c3], .agg #[.int .i64 b', .int .i64 n', .int .i64 o', .slice A1 T'.length c1, .slice A2 C'.length c2, .int .i64 f', .int .i64 h', .int .i64 t'], .bool r']) (by simp [results, Try.results93, go_sem, u0, u1, u2, u3, u4, u5, z0, z1, z2, z3, z4, z5, z6, z7]) rfl ⟨k1, k2, k3, k4, k5, A3, n3, c3, b', n', o', f', h', t', T', C', A1, A2, c1, c2, r', rfl, hl1, hl2, ht0, ht1, ?_, ?_, ?_⟩
  · exact (out_eightB ((((((O1.out.farB hs2 _).farB hs2 _).farB hs2 _).farB hs2 _).farB hs2 _).farB hs2 _) hs3 _ _ _ _ _ _ _ _).mono (by omega)
  · exact (out_eightB ((((((O2.out.farB hs2 _).farB hs2 _).farB hs2 _).farB hs2 _).farB hs2 _).farB hs2 _) hs3 _ _ _ _ _ _ _ _).mono (by omega)
  · exact below_eight (below_six (hq.trans (hk3.mono hq.size)) (by omega) _ _ _ _ _ _) (by omega) _ _ _ _ _ _ _ _
end Go.Proofs.Ytlgfmnognhojnaa
