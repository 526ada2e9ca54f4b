/- The walk of FnExactValidGate. -/
import Derived.Test.YtlgfmnognhojnaaGx
namespace Go.Proofs.Ytlgfmnognhojnaa
open Go.RowKit
set_option maxRecDepth 4000 in
set_option maxHeartbeats 8000000 in
theorem FnExactValidGate_walk (b n o f h t : Int) (T : List Mp) (C : List Ct) (At Ac : Option Addr) (ct cc : Nat) (w : World) (hmt : ct ≤ maxLen) (hmc : cc ≤ maxLen) (hT : Sl encM 4 w At ct T) (hC : Sl encC 3 w Ac cc C) :
    Calls Try.prog 6 #[.agg #[.int .i64 b, .int .i64 n, .int .i64 o, .slice At T.length ct, .slice Ac C.length cc, .int .i64 f, .int .i64 h, .int .i64 t]] w (Ret w (.bool true)) := by
  have htc := hT.1
  have hcc := hC.1
  unfold maxLen at hmt hmc
  obtain ⟨wq, hwq⟩ : ∃ x, x = w.alloc (.cells #[.int .i64 b, .int .i64 n, .int .i64 o, .slice At T.length ct, .slice Ac C.length cc, .int .i64 f, .int .i64 h, .int .i64 t] 42) := ⟨_, rfl⟩
  have hq : Below w.heap.size w wq := by subst hwq; exact (Below.refl _ _).alloc (Nat.le_refl _) _
  have bx : BlAt wq w.heap.size #[.int .i64 b, .int .i64 n, .int .i64 o, .slice At T.length ct, .slice Ac C.length cc, .int .i64 f, .int .i64 h, .int .i64 t] := by subst hwq; exact BlAt.new _ _ _
  have hlt : w.heap.size < wq.heap.size := bx.lt
  have EC := Lib.hid (fun W (h : Below wq.heap.size wq W) => bx.below h hlt)
  have ST := Lib.hid (fun W (h : Below wq.heap.size wq W) => hT.below (hq.trans (h.mono hq.size)))
  have SC := Lib.hid (fun W (h : Below wq.heap.size wq W) => hC.below (hq.trans (h.mono hq.size)))
  have WQ := Lib.hid hwq
  have hk : Below wq.heap.size wq wq := Below.refl _ _
  obtain ⟨v, hv⟩ : ∃ v : Int, v = if (1048576 : Int) - (T.length : Int) < 0 then -1 else if 1048576 - (T.length : Int) - (C.length : Int) < 0 then -1 else 1048576 - (T.length : Int) - (C.length : Int) := ⟨_, rfl⟩
  have HV := Lib.hid hv
  have hvv : v < 0 ∨ (T.length ≤ 2000000 ∧ C.length ≤ 2000000 ∧ ¬ v < 0) := by
    rw [hv]
    split
    · exact .inl (by omega)
    · split
      · exact .inl (by omega)
      · exact .inr ⟨by omega, by omega, by omega⟩
  obtain ⟨x0, x1, x2, x3, x4, x5, x6, x7⟩ := gcells (bx)
  clear hT hC hwq bx hv
  go_enter Try.func6, Try.ntmps6
  go_wp2_with fail
  rw [← WQ.out]
  clear x0 x1 x2 x3 x4 x5 x6 x7
  refine (laws_szGate b n o f h t At Ac ct cc _ _ v _ (by omega) (by omega) HV.out).mono ?_
  rintro e w1 ⟨rfl, hk1⟩
  rcases hvv with hvn | ⟨hlT, hlC, hvn⟩
  · go_wp2
    go_ret
    exact ⟨rfl, hq.trans (hk1.mono hq.size)⟩
  obtain ⟨r, hr⟩ : ∃ r, okG ⟨b, n, o, T, C, f, h, t⟩ = r := ⟨_, rfl⟩
  have HR := Lib.hid hr
  clear hr
  obtain ⟨x0, x1, x2, x3, x4, x5, x6, x7⟩ := gcells (EC.out w1 hk1)
  go_wp2_with fail
  refine (laws_toGate b n o f h t T C At Ac ct cc _ _ _ rfl rfl hlT hlC (ST.out _ hk1) (SC.out _ hk1)).mono ?_
  rintro e w2 ⟨A3, c3, A4, c4, rfl, o1, o2, hb2⟩
  have hk2 := bstep hk1 hb2 hk1.size
  clear x0 x1 x2 x3 x4 x5 x6 x7
  go_wp2_with fail
  refine (spec_ValidGate b n o f h t T C _ _ _ _ _ _ _ rfl rfl hlT hlC o1.1 o2.1).mono ?_
  rintro e w3 ⟨rfl, hb3⟩
  rw [HR.out]
  have hk3 := bstep hk2 hb3 hk2.size
  obtain ⟨x0, x1, x2, x3, x4, x5, x6, x7⟩ := gcells (EC.out w3 hk3)
  clear o1 o2
  go_wp2_with fail
  refine (laws_toGate b n o f h t T C At Ac ct cc _ _ _ rfl rfl hlT hlC (ST.out _ hk3) (SC.out _ hk3)).mono ?_
  rintro e w4 ⟨A1, c1, A2, c2, rfl, o1, o2, hb4⟩
  have hk4 := bstep hk3 hb4 hk3.size
  clear x0 x1 x2 x3 x4 x5 x6 x7
  obtain ⟨w5, hw5⟩ : ∃ x, x = w4.alloc (.cells #[.int .i64 b, .int .i64 n, .int .i64 o, .slice A1 T.length c1, .slice A2 C.length c2, .int .i64 f, .int .i64 h, .int .i64 t] 28) := ⟨_, rfl⟩
  have hb5 : Below w4.heap.size w4 w5 := by subst hw5; exact (Below.refl _ _).alloc (Nat.le_refl _) _
  have b5 : BlAt w5 w4.heap.size #[.int .i64 b, .int .i64 n, .int .i64 o, .slice A1 T.length c1, .slice A2 C.length c2, .int .i64 f, .int .i64 h, .int .i64 t] := by subst hw5; exact BlAt.new _ _ _
  have hk5 := bstep hk4 hb5 hk4.size
  have O1 := Lib.hid (o1.below hb5)
  have O2 := Lib.hid (o2.below hb5)
  have B5 := Lib.hid b5
  have W5 := Lib.hid hw5
  clear hw5 o1 o2 b5
  go_wp2_with fail
  rw [← W5.out]
  refine (impl_ValidGate b n o f h t T C _ _ _ _ _ _ _ rfl rfl hlT hlC O1.out.1 O2.out.1).mono ?_
  rintro e w6 ⟨rfl, hb6⟩
  rw [HR.out]
  have hk6 := bstep hk5 hb6 hk5.size
  have O6 := Lib.hid (O1.out.below hb6)
  have P6 := Lib.hid (O2.out.below hb6)
  have B6 := Lib.hid (B5.out.below_ hb6)
  have hr0 : Below w6.heap.size w6 w6 := Below.refl _ _
  have KX := Lib.hid (fun W (h : Below w6.heap.size w6 W) => B6.out.below_ h)
  have KE := Lib.hid (fun W (h : Below w6.heap.size w6 W) => EC.out W (bstep hk6 h hk6.size))
  have KT := Lib.hid (fun W (h : Below w6.heap.size w6 W) => ST.out W (bstep hk6 h hk6.size))
  have KC := Lib.hid (fun W (h : Below w6.heap.size w6 W) => SC.out W (bstep hk6 h hk6.size))
  have KO := Lib.hid (fun W (h : Below w6.heap.size w6 W) => O6.out.below h)
  have KP := Lib.hid (fun W (h : Below w6.heap.size w6 W) => P6.out.below h)
  have p0 : ∀ W, Below w6.heap.size w6 W → W.cell? ⟨w4.heap.size, 0, none⟩ = some (.int .i64 b) := fun W h => (gcells (KX.out W h)).1
  have p1 : ∀ W, Below w6.heap.size w6 W → W.cell? ⟨w4.heap.size, 1, none⟩ = some (.int .i64 n) := fun W h => (gcells (KX.out W h)).2.1
  have p2 : ∀ W, Below w6.heap.size w6 W → W.cell? ⟨w4.heap.size, 2, none⟩ = some (.int .i64 o) := fun W h => (gcells (KX.out W h)).2.2.1
  have p3 : ∀ W, Below w6.heap.size w6 W → W.cell? ⟨w4.heap.size, 3, none⟩ = some (.slice A1 T.length c1) := fun W h => (gcells (KX.out W h)).2.2.2.1
  have p4 : ∀ W, Below w6.heap.size w6 W → W.cell? ⟨w4.heap.size, 4, none⟩ = some (.slice A2 C.length c2) := fun W h => (gcells (KX.out W h)).2.2.2.2.1
  have p5 : ∀ W, Below w6.heap.size w6 W → W.cell? ⟨w4.heap.size, 5, none⟩ = some (.int .i64 f) := fun W h => (gcells (KX.out W h)).2.2.2.2.2.1
  have p6 : ∀ W, Below w6.heap.size w6 W → W.cell? ⟨w4.heap.size, 6, none⟩ = some (.int .i64 h) := fun W h => (gcells (KX.out W h)).2.2.2.2.2.2.1
  have p7 : ∀ W, Below w6.heap.size w6 W → W.cell? ⟨w4.heap.size, 7, none⟩ = some (.int .i64 t) := fun W h => (gcells (KX.out W h)).2.2.2.2.2.2.2
  have q0 : ∀ W, Below w6.heap.size w6 W → W.cell? ⟨w.heap.size, 0, none⟩ = some (.int .i64 b) := fun W h => (gcells (KE.out W h)).1
  have q1 : ∀ W, Below w6.heap.size w6 W → W.cell? ⟨w.heap.size, 1, none⟩ = some (.int .i64 n) := fun W h => (gcells (KE.out W h)).2.1
  have q2 : ∀ W, Below w6.heap.size w6 W → W.cell? ⟨w.heap.size, 2, none⟩ = some (.int .i64 o) := fun W h => (gcells (KE.out W h)).2.2.1
  have q3 : ∀ W, Below w6.heap.size w6 W → W.cell? ⟨w.heap.size, 3, none⟩ = some (.slice At T.length ct) := fun W h => (gcells (KE.out W h)).2.2.2.1
  have q4 : ∀ W, Below w6.heap.size w6 W → W.cell? ⟨w.heap.size, 4, none⟩ = some (.slice Ac C.length cc) := fun W h => (gcells (KE.out W h)).2.2.2.2.1
  have q5 : ∀ W, Below w6.heap.size w6 W → W.cell? ⟨w.heap.size, 5, none⟩ = some (.int .i64 f) := fun W h => (gcells (KE.out W h)).2.2.2.2.2.1
  have q6 : ∀ W, Below w6.heap.size w6 W → W.cell? ⟨w.heap.size, 6, none⟩ = some (.int .i64 h) := fun W h => (gcells (KE.out W h)).2.2.2.2.2.2.1
  have q7 : ∀ W, Below w6.heap.size w6 W → W.cell? ⟨w.heap.size, 7, none⟩ = some (.int .i64 t) := fun W h => (gcells (KE.out W h)).2.2.2.2.2.2.2
  go_wp2_with fail
  go_region_held3 (fun W => Below w6.heap.size w6 W) (first | with_reducible exact hr0.drew | with_reducible exact hr0 | with_reducible assumption) (first | (go_at_call 17; refine (laws_toGate b n o f h t T C At Ac ct cc _ _ _ rfl rfl hlT hlC (KT.out _ (by with_reducible assumption)) (KC.out _ (by with_reducible assumption))).mono ?_; rintro e wc ⟨A7, c7, A8, c8, rfl, o7, o8, hbc⟩; have hc1 := bstep (B := w6.heap.size) (a := w6) (by with_reducible assumption) hbc (Below.size (by with_reducible assumption)); have O7 := Lib.hid o7; have O8 := Lib.hid o8; clear o7 o8) | (go_at_call 18; refine (same_eqGate rfl rfl rfl rfl hlT hlC (KO.out _ hc1).1 (KP.out _ hc1).1 O7.out.1 O8.out.1).mono ?_; rintro e wd ⟨rfl, hbd⟩; have hd1 := bstep hc1 hbd hc1.size))
  all_goals
    go_wp2
    go_ret
    exact ⟨rfl, hq.trans ((hk6.trans (hd1.mono hk6.size)).mono hq.size)⟩
end Go.Proofs.Ytlgfmnognhojnaa
