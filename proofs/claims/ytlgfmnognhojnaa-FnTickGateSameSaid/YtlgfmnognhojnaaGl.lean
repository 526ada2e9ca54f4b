/- The last generators of gates, walked. -/
import Derived.Test.YtlgfmnognhojnaaGj
namespace Go.Proofs.Ytlgfmnognhojnaa
open Go.RowKit
theorem GSt.set1 {w0 wr : World} {g N B : Nat} {b n o f h t : Int} {T : List Mp} {C : List Ct} {At Ac : Option Addr} {ct cc : Nat} {b' n' o' f' h' t' : Int} (s : GSt w0 wr g N B b n o f h t T C At Ac ct cc) (j : Nat) (u : Value)
    (e : (#[.int .i64 b, .int .i64 n, .int .i64 o, .slice At T.length ct, .slice Ac C.length cc, .int .i64 f, .int .i64 h, .int .i64 t] : Array Value).toList.set j u = (#[.int .i64 b', .int .i64 n', .int .i64 o', .slice At T.length ct, .slice Ac C.length cc, .int .i64 f', .int .i64 h', .int .i64 t'] : Array Value).toList) (t0 : -1 ≤ t') (t1 : t' ≤ 10001) :
    GSt w0 (wr.setCell ⟨B, j, none⟩ u) g N B b' n' o' f' h' t' T C At Ac ct cc :=
  ⟨s.rd.setCell (show g < B by have := s.gw; have := s.wB; omega) _, grown_setCell s.gr (.inr (show w0.heap.size ≤ B from Nat.le_of_lt s.wB)) _, s.bo.set j u e, s.bz.far (show B ≠ w0.heap.size by have := s.wB; omega) _, s.lT, s.lC, t0, t1, s.oT.farN (fun x hx hne => (s.nT x hx hne).symm) _, s.oC.farN (fun x hx hne => (s.nC x hx hne).symm) _, s.nT, s.nC, s.gw, s.wB⟩
theorem GSt.setC {w0 wr : World} {g N B : Nat} {b n o f h t : Int} {T : List Mp} {C : List Ct} {At Ac : Option Addr} {ct cc : Nat} {A' : Option Addr} {c' : Nat} {C' : List Ct} (s : GSt w0 wr g N B b n o f h t T C At Ac ct cc) (lC : C'.length ≤ 12) (oC : Out encC 3 (w0.heap.size + 1) wr A' c' C') (nC : ∀ x, Go.Proofs.Ytlgfmnognhojnaa.blk A' = some x → C' ≠ [] → x ≠ B) :
    GSt w0 (wr.setCell ⟨B, 4, none⟩ (.slice A' C'.length c')) g N B b n o f h t T C' At A' ct c' :=
  ⟨s.rd.setCell (show g < B by have := s.gw; have := s.wB; omega) _, grown_setCell s.gr (.inr (show w0.heap.size ≤ B from Nat.le_of_lt s.wB)) _, s.bo.set 4 _ rfl, s.bz.far (show B ≠ w0.heap.size by have := s.wB; omega) _, s.lT, lC, s.t0, s.t1, s.oT.farN (fun x hx hne => (s.nT x hx hne).symm) _, oC.farN (fun x hx hne => (nC x hx hne).symm) _, s.nT, nC, s.gw, s.wB⟩
theorem one_litD (g N : Nat) (l : List Int) {cs : Array Value} {t : TypeId} {b n : Nat} {w : World} (hcs : cs.toList = l.flatMap encI1) (hb : w.heap.size = b) (hn : l.length = n) (hl : l.length ≤ 1000) (hl1 : 1 ≤ l.length) (hN : N ≤ 1000000) (hr : Rd w g N) :
    Calls Try.prog 25 #[.pointer (some ⟨g, 0, none⟩), .slice (some ⟨b, 0, none⟩) n n] (w.alloc (.cells cs t)).drew (fun e w' => ∃ x : Int, e = .returned (.int .i64 x) ∧ x ∈ l ∧ Rd w' g (N + 1) ∧ w.grownBy w' (some g)) := by
  refine (one_lit (w := w.drew) (t := t) g N l hcs hb hn hl hl1 hN hr.drew_).mono ?_
  rintro e w' ⟨x, h1, h2, h3, h4⟩
  exact ⟨x, h1, h2, h3, ⟨h4.os, h4.tape, h4.output, h4.size, h4.block⟩⟩
set_option maxRecDepth 8000 in
set_option maxHeartbeats 20000000 in
theorem anyGate_ (g N : Nat) (w : World) (hN : N ≤ 400000) (hr : Rd w g N) :
    Calls Try.prog 24 #[.pointer (some ⟨g, 0, none⟩)] w (fun e w' => ∃ (b n o f h t : Int) (T : List Mp) (C : List Ct) (At Ac : Option Addr) (ct cc : Nat), e = .returned (.agg #[.int .i64 b, .int .i64 n, .int .i64 o, .slice At T.length ct, .slice Ac C.length cc, .int .i64 f, .int .i64 h, .int .i64 t]) ∧ T.length ≤ 10 ∧ C.length ≤ 12 ∧ -1 ≤ t ∧ t ≤ 10001 ∧ Out encM 4 (w.heap.size + 1) w' At ct T ∧ Out encC 3 (w.heap.size + 1) w' Ac cc C ∧ Rd w' g (N + 110) ∧ w.grownBy w' (some g)) := by
  have hlt := hr.lt
  obtain ⟨wa, hwa⟩ : ∃ y, y = w.alloc (.cells #[.int .i64 0, .int .i64 0, .int .i64 0, .slice none 0 0, .slice none 0 0, .int .i64 0, .int .i64 0, .int .i64 0] 28) := ⟨_, rfl⟩
  have hza : wa.heap.size = w.heap.size + 1 := by subst hwa; exact alloc_size _ _
  have RA := Lib.hid (show Rd wa g N by subst hwa; exact hr.alloc _)
  have BZA := Lib.hid (show BlAt wa w.heap.size #[.int .i64 0, .int .i64 0, .int .i64 0, .slice none 0 0, .slice none 0 0, .int .i64 0, .int .i64 0, .int .i64 0] by subst hwa; exact BlAt.new _ _ _)
  have GA := Lib.hid (show w.grownBy wa (some g) by subst hwa; exact grown_alloc (World.grownBy.refl _ _) _)
  have HZA := Lib.hid hza
  have WA := Lib.hid hwa
  clear hr hwa hza
  go_enter Try.func24, Try.ntmps24
  go_wp2_with fail
  rw [← WA.out]
  refine (someGate_ g N _ (by omega) RA.out).mono ?_
  rintro e w1 ⟨b, n, o, f, h, t, T, C, At, Ac, ct, cc, rfl, lT, lC, t0, t1, oT, oC, hr1, hg1⟩
  obtain ⟨w2, hw2⟩ : ∃ q, q = w1.alloc (.cells #[.int .i64 b, .int .i64 n, .int .i64 o, .slice At T.length ct, .slice Ac C.length cc, .int .i64 f, .int .i64 h, .int .i64 t] 28) := ⟨_, rfl⟩
  have hz1 : w.heap.size < w1.heap.size := by have := hg1.size; rw [HZA.out] at this; omega
  have hb2 : Below w1.heap.size w1 w2 := by subst hw2; exact (Below.refl _ _).alloc (Nat.le_refl _) _
  have S2 := Lib.hid (show GSt w w2 g (N + 100) w1.heap.size b n o f h t T C At Ac ct cc from
    ⟨by subst hw2; exact hr1.alloc _, by subst hw2; exact grown_alloc (grown_trans GA.out hg1 (.inl rfl)) _, by subst hw2; exact BlAt.new _ _ _, by subst hw2; exact (BZA.out.grown hg1 (by simp; omega)).alloc _, lT, by omega, t0, t1,
      (oT.below hb2).mono (by rw [HZA.out]; omega), (oC.below hb2).mono (by rw [HZA.out]; omega), fun x hx hne => by have := (oT.span x hx hne).2; omega, fun x hx hne => by have := (oC.span x hx hne).2; omega, hlt, hz1⟩)
  have W2 := Lib.hid hw2
  clear oT oC hr1 hg1 hw2 hb2
  go_wp2_with fail
  rw [← W2.out]
  refine (pick_ g (N + 100) 40 _ (by omega) (by omega) (by omega) S2.out.rd).mono ?_
  rintro e w3 ⟨x, rfl, hx0, hx1, _, hr3, hg3⟩
  have hx1 := hx1 (by omega)
  have S3 := Lib.hid (S2.out.grown hg3 hr3)
  clear hr3 hg3
  by_cases e0 : x = 0
  · subst e0
    go_wp2_with fail
    refine (one_lit g _ [2560, 65536] rfl (by simp) rfl (by simp) (by simp) (by omega) S3.out.rd).mono ?_
    rintro e w4 ⟨y, rfl, hy, hr4, hg4⟩
    have hyy : -1 ≤ y ∧ y ≤ 65536 := by simp at hy; omega
    have S4 := Lib.hid (S3.out.grown hg4 hr4)
    clear hr4 hg4
    have bo4 := S4.out.bo
    obtain ⟨u0, u1, u2, u3, u4, u5, u6, u7⟩ := gcells (bo4)
    have fj := bo4.free 2
    have lo4 := bo4.lt
    have bz4 := S4.out.bz
    obtain ⟨z0, z1, z2, z3, z4, z5, z6, z7⟩ := gcells (bz4)
    obtain ⟨q0, q1, q2, q3, q4, q5, q6, q7⟩ := gfrees (bz4)
    clear bo4 bz4
    have S5 := Lib.hid (S4.out.set1 2 (.int .i64 y) (b' := b) (n' := n) (o' := y) (f' := f) (h' := h) (t' := t) rfl S4.out.t0 S4.out.t1)
    have nB : w.heap.size ≠ w1.heap.size := by have := S4.out.wB; omega
    go_wp2
    refine bodyPost_ret (v := .agg #[.int .i64 b, .int .i64 n, .int .i64 y, .slice At T.length ct, .slice Ac C.length cc, .int .i64 f, .int .i64 h, .int .i64 t]) (by simp [results, Try.results24, go_sem, z0, z1, z2, z3, z4, z5, z6, z7, nB, nB.symm]) rfl ⟨b, n, y, f, h, t, T, C, At, Ac, ct, cc, rfl, S5.out.lT, by omega, S5.out.t0, S5.out.t1, ?_, ?_, ?_, ?_⟩
    · exact out_eightB S5.out.oT (by omega) _ _ _ _ _ _ _ _
    · exact out_eightB S5.out.oC (by omega) _ _ _ _ _ _ _ _
    · exact ((((((((S5.out.rd.setCell hlt _).setCell hlt _).setCell hlt _).setCell hlt _).setCell hlt _).setCell hlt _).setCell hlt _).setCell hlt _).mono (by omega)
    · have hle : w.heap.size ≤ w.heap.size := Nat.le_refl _
      exact grown_setCell (grown_setCell (grown_setCell (grown_setCell (grown_setCell (grown_setCell (grown_setCell (grown_setCell S5.out.gr (.inr hle) _) (.inr hle) _) (.inr hle) _) (.inr hle) _) (.inr hle) _) (.inr hle) _) (.inr hle) _) (.inr hle) _
  by_cases e1 : x = 1
  · subst e1
    have S4 := S3
    have bo4 := S4.out.bo
    obtain ⟨u0, u1, u2, u3, u4, u5, u6, u7⟩ := gcells (bo4)
    have fj := bo4.free 5
    have lo4 := bo4.lt
    have bz4 := S4.out.bz
    obtain ⟨z0, z1, z2, z3, z4, z5, z6, z7⟩ := gcells (bz4)
    obtain ⟨q0, q1, q2, q3, q4, q5, q6, q7⟩ := gfrees (bz4)
    clear bo4 bz4
    have S5 := Lib.hid (S4.out.set1 5 (.int .i64 3) (b' := b) (n' := n) (o' := o) (f' := 3) (h' := h) (t' := t) rfl S4.out.t0 S4.out.t1)
    have nB : w.heap.size ≠ w1.heap.size := by have := S4.out.wB; omega
    go_wp2
    refine bodyPost_ret (v := .agg #[.int .i64 b, .int .i64 n, .int .i64 o, .slice At T.length ct, .slice Ac C.length cc, .int .i64 3, .int .i64 h, .int .i64 t]) (by simp [results, Try.results24, go_sem, z0, z1, z2, z3, z4, z5, z6, z7, nB, nB.symm]) rfl ⟨b, n, o, 3, h, t, T, C, At, Ac, ct, cc, rfl, S5.out.lT, by omega, S5.out.t0, S5.out.t1, ?_, ?_, ?_, ?_⟩
    · exact out_eightB S5.out.oT (by omega) _ _ _ _ _ _ _ _
    · exact out_eightB S5.out.oC (by omega) _ _ _ _ _ _ _ _
    · exact ((((((((S5.out.rd.setCell hlt _).setCell hlt _).setCell hlt _).setCell hlt _).setCell hlt _).setCell hlt _).setCell hlt _).setCell hlt _).mono (by omega)
    · have hle : w.heap.size ≤ w.heap.size := Nat.le_refl _
      exact grown_setCell (grown_setCell (grown_setCell (grown_setCell (grown_setCell (grown_setCell (grown_setCell (grown_setCell S5.out.gr (.inr hle) _) (.inr hle) _) (.inr hle) _) (.inr hle) _) (.inr hle) _) (.inr hle) _) (.inr hle) _) (.inr hle) _
  by_cases e2 : x = 2
  · subst e2
    go_wp2_with fail
    refine (one_lit g _ [0, 1] rfl (by simp) rfl (by simp) (by simp) (by omega) S3.out.rd).mono ?_
    rintro e w4 ⟨y, rfl, hy, hr4, hg4⟩
    have hyy : -1 ≤ y ∧ y ≤ 65536 := by simp at hy; omega
    have S4 := Lib.hid (S3.out.grown hg4 hr4)
    clear hr4 hg4
    have bo4 := S4.out.bo
    obtain ⟨u0, u1, u2, u3, u4, u5, u6, u7⟩ := gcells (bo4)
    have fj := bo4.free 6
    have lo4 := bo4.lt
    have bz4 := S4.out.bz
    obtain ⟨z0, z1, z2, z3, z4, z5, z6, z7⟩ := gcells (bz4)
    obtain ⟨q0, q1, q2, q3, q4, q5, q6, q7⟩ := gfrees (bz4)
    clear bo4 bz4
    have S5 := Lib.hid (S4.out.set1 6 (.int .i64 y) (b' := b) (n' := n) (o' := o) (f' := f) (h' := y) (t' := t) rfl S4.out.t0 S4.out.t1)
    have nB : w.heap.size ≠ w1.heap.size := by have := S4.out.wB; omega
    go_wp2
    refine bodyPost_ret (v := .agg #[.int .i64 b, .int .i64 n, .int .i64 o, .slice At T.length ct, .slice Ac C.length cc, .int .i64 f, .int .i64 y, .int .i64 t]) (by simp [results, Try.results24, go_sem, z0, z1, z2, z3, z4, z5, z6, z7, nB, nB.symm]) rfl ⟨b, n, o, f, y, t, T, C, At, Ac, ct, cc, rfl, S5.out.lT, by omega, S5.out.t0, S5.out.t1, ?_, ?_, ?_, ?_⟩
    · exact out_eightB S5.out.oT (by omega) _ _ _ _ _ _ _ _
    · exact out_eightB S5.out.oC (by omega) _ _ _ _ _ _ _ _
    · exact ((((((((S5.out.rd.setCell hlt _).setCell hlt _).setCell hlt _).setCell hlt _).setCell hlt _).setCell hlt _).setCell hlt _).setCell hlt _).mono (by omega)
    · have hle : w.heap.size ≤ w.heap.size := Nat.le_refl _
      exact grown_setCell (grown_setCell (grown_setCell (grown_setCell (grown_setCell (grown_setCell (grown_setCell (grown_setCell S5.out.gr (.inr hle) _) (.inr hle) _) (.inr hle) _) (.inr hle) _) (.inr hle) _) (.inr hle) _) (.inr hle) _) (.inr hle) _
  by_cases e3 : x = 3
  · subst e3
    go_wp2_with fail
    refine (one_lit g _ [0, 10001, 9000] rfl (by simp) rfl (by simp) (by simp) (by omega) S3.out.rd).mono ?_
    rintro e w4 ⟨y, rfl, hy, hr4, hg4⟩
    have hyy : -1 ≤ y ∧ y ≤ 65536 := by simp at hy; omega
    have S4 := Lib.hid (S3.out.grown hg4 hr4)
    clear hr4 hg4
    have hty : -1 ≤ y ∧ y ≤ 10001 := by simp at hy; omega
    have bo4 := S4.out.bo
    obtain ⟨u0, u1, u2, u3, u4, u5, u6, u7⟩ := gcells (bo4)
    have fj := bo4.free 7
    have lo4 := bo4.lt
    have bz4 := S4.out.bz
    obtain ⟨z0, z1, z2, z3, z4, z5, z6, z7⟩ := gcells (bz4)
    obtain ⟨q0, q1, q2, q3, q4, q5, q6, q7⟩ := gfrees (bz4)
    clear bo4 bz4
    have S5 := Lib.hid (S4.out.set1 7 (.int .i64 y) (b' := b) (n' := n) (o' := o) (f' := f) (h' := h) (t' := y) rfl hty.1 hty.2)
    have nB : w.heap.size ≠ w1.heap.size := by have := S4.out.wB; omega
    go_wp2
    refine bodyPost_ret (v := .agg #[.int .i64 b, .int .i64 n, .int .i64 o, .slice At T.length ct, .slice Ac C.length cc, .int .i64 f, .int .i64 h, .int .i64 y]) (by simp [results, Try.results24, go_sem, z0, z1, z2, z3, z4, z5, z6, z7, nB, nB.symm]) rfl ⟨b, n, o, f, h, y, T, C, At, Ac, ct, cc, rfl, S5.out.lT, by omega, S5.out.t0, S5.out.t1, ?_, ?_, ?_, ?_⟩
    · exact out_eightB S5.out.oT (by omega) _ _ _ _ _ _ _ _
    · exact out_eightB S5.out.oC (by omega) _ _ _ _ _ _ _ _
    · exact ((((((((S5.out.rd.setCell hlt _).setCell hlt _).setCell hlt _).setCell hlt _).setCell hlt _).setCell hlt _).setCell hlt _).setCell hlt _).mono (by omega)
    · have hle : w.heap.size ≤ w.heap.size := Nat.le_refl _
      exact grown_setCell (grown_setCell (grown_setCell (grown_setCell (grown_setCell (grown_setCell (grown_setCell (grown_setCell S5.out.gr (.inr hle) _) (.inr hle) _) (.inr hle) _) (.inr hle) _) (.inr hle) _) (.inr hle) _) (.inr hle) _) (.inr hle) _
  by_cases e4 : x = 4
  · subst e4
    have C3 := Lib.hid (S3.out.oC.1.below ((Below.refl _ _).alloc (Nat.le_refl _) (.cells #[] 75)))
    have hg3 : g < w3.heap.size := S3.out.rd.lt
    have bo3 := S3.out.bo
    have lo3 := bo3.lt
    obtain ⟨u0, u1, u2, u3, u4, u5, u6, u7⟩ := gcells (bo3)
    clear bo3
    obtain ⟨L, hL⟩ : ∃ L : List Ct, C ++ [⟨1006, 0, 0⟩] = L := ⟨_, rfl⟩
    have hLl : L.length ≤ 11 := by rw [← hL, List.length_append]; simp; omega
    have HL := Lib.hid hL
    clear hL
    go_wp2_with (first | (at_builtin; refine wpList_app elC rfl (.tmp 31) (.tmp 33) rfl w3.heap.size _ _ _ [] rfl rfl (Ow.empty w3 (Nat.le_refl _)) _ _ _ C rfl rfl C3.out (by simp; omega) (by decide) (by simp) ?_; intro A5 c5 w5 ho5 hg5 _; rw [List.nil_append] at ho5 ⊢; have k5 : w3.grownBy w5 (some g) := grown_trans (grown_alloc (World.grownBy.refl _ _) _) hg5 (.inr (by intro x hx; simp [blk] at hx; omega)); have rd5 : Rd w5 g (N + 100 + 1) := (S3.out.rd.alloc _).grown hg5 (by intro x hx; simp [blk] at hx; omega); have HO5 := Lib.hid ho5; have lz5 : w3.heap.size ≤ w5.heap.size := k5.size; clear ho5 hg5) | (at_builtin; refine wpList_app elC rfl (.tmp 34) (.tmp 36) rfl w3.heap.size _ _ _ C rfl rfl (HO5.out.alloc _) _ _ _ [⟨1006, 0, 0⟩] rfl rfl (blC w5 1006 0 0).sl (by simp; omega) (by decide) (by simp; omega) ?_; intro A6 c6 w6 ho6 hg6 _; rw [HL.out] at ho6 ⊢; have k6 : w3.grownBy w6 (some g) := grown_trans (grown_alloc k5 _) hg6 (.inr (fun x hx => (HO5.out.blk x hx).1)); have rd6 : Rd w6 g (N + 100 + 1) := (rd5.alloc _).grown hg6 (fun x hx => by have := (HO5.out.blk x hx).1; omega); have S6 := Lib.hid (S3.out.grown k6 rd6); have HO6 := Lib.hid ho6.out; have bo6 := S6.out.bo; have lo6 := bo6.lt; have q4 := bo6.free 4; have bz6 := S6.out.bz; clear u0 u1 u2 u3 u4 u5 u6 u7; obtain ⟨u0, u1, u2, u3, u4, u5, u6, u7⟩ := gcells bo6; obtain ⟨z0, z1, z2, z3, z4, z5, z6, z7⟩ := gcells bz6; obtain ⟨p0, p1, p2, p3, p4, p5, p6, p7⟩ := gfrees bz6; have nB : w.heap.size ≠ w1.heap.size := (by omega); clear bo6 bz6 ho6 hg6))
    have S7 := Lib.hid (S6.out.setC (A' := A6) (c' := c6) (C' := L) (by omega) (HO6.out.mono (by omega)) (fun x hx hne => by have := (HO6.out.span x hx hne).1; omega))
    refine bodyPost_ret (v := .agg #[.int .i64 b, .int .i64 n, .int .i64 o, .slice At T.length ct, .slice A6 L.length c6, .int .i64 f, .int .i64 h, .int .i64 t]) (by simp [results, Try.results24, go_sem, z0, z1, z2, z3, z4, z5, z6, z7, nB, nB.symm]) rfl ⟨b, n, o, f, h, t, T, L, At, A6, ct, c6, rfl, S7.out.lT, by omega, S7.out.t0, S7.out.t1, ?_, ?_, ?_, ?_⟩
    · exact out_eightB S7.out.oT (by omega) _ _ _ _ _ _ _ _
    · exact out_eightB S7.out.oC (by omega) _ _ _ _ _ _ _ _
    · exact ((((((((S7.out.rd.setCell hlt _).setCell hlt _).setCell hlt _).setCell hlt _).setCell hlt _).setCell hlt _).setCell hlt _).setCell hlt _).mono (by omega)
    · have hle : w.heap.size ≤ w.heap.size := Nat.le_refl _
      exact grown_setCell (grown_setCell (grown_setCell (grown_setCell (grown_setCell (grown_setCell (grown_setCell (grown_setCell S7.out.gr (.inr hle) _) (.inr hle) _) (.inr hle) _) (.inr hle) _) (.inr hle) _) (.inr hle) _) (.inr hle) _) (.inr hle) _
  have n0 : (x == 0) = false := by simpa using e0
  have n1 : (x == 1) = false := by simpa using e1
  have n2 : (x == 2) = false := by simpa using e2
  have n3 : (x == 3) = false := by simpa using e3
  have n4 : (x == 4) = false := by simpa using e4
  have BZ := S3.out.bz
  have BO := S3.out.bo
  obtain ⟨z0, z1, z2, z3, z4, z5, z6, z7⟩ := gcells (BZ)
  obtain ⟨q0, q1, q2, q3, q4, q5, q6, q7⟩ := gfrees (BZ)
  obtain ⟨x0, x1, x2, x3, x4, x5, x6, x7⟩ := gcells (BO)
  clear BZ BO
  go_wp2
  refine bodyPost_ret (v := .agg #[.int .i64 b, .int .i64 n, .int .i64 o, .slice At T.length ct, .slice Ac C.length cc, .int .i64 f, .int .i64 h, .int .i64 t]) (by simp [results, Try.results24, go_sem, z0, z1, z2, z3, z4, z5, z6, z7]) rfl ⟨b, n, o, f, h, t, T, C, At, Ac, ct, cc, rfl, S3.out.lT, by omega, S3.out.t0, S3.out.t1, ?_, ?_, ?_, ?_⟩
  · exact out_eightB S3.out.oT (by omega) _ _ _ _ _ _ _ _
  · exact out_eightB S3.out.oC (by omega) _ _ _ _ _ _ _ _
  · exact (((((((((S3.out.rd.setCell hlt _).setCell hlt _).setCell hlt _).setCell hlt _).setCell hlt _).setCell hlt _).setCell hlt _).setCell hlt _).mono (by omega))
  · have hle : w.heap.size ≤ w.heap.size := Nat.le_refl _
    exact grown_setCell (grown_setCell (grown_setCell (grown_setCell (grown_setCell (grown_setCell (grown_setCell (grown_setCell S3.out.gr (.inr hle) _) (.inr hle) _) (.inr hle) _) (.inr hle) _) (.inr hle) _) (.inr hle) _) (.inr hle) _) (.inr hle) _
set_option maxRecDepth 8000 in
set_option maxHeartbeats 4000000 in
theorem DrawValidGate_ (A : Option Addr) (c : Nat) (l : List Int) (w : World) (hi : CodeIn w A c l) :
    Calls Try.prog 19 #[.slice A l.length c] w (fun e w' => ∃ (b n o f h t : Int) (T : List Mp) (C : List Ct) (At Ac : Option Addr) (ct cc : Nat), e = .returned (.agg #[.int .i64 b, .int .i64 n, .int .i64 o, .slice At T.length ct, .slice Ac C.length cc, .int .i64 f, .int .i64 h, .int .i64 t]) ∧ T.length ≤ 10 ∧ C.length ≤ 12 ∧ -1 ≤ t ∧ t ≤ 10001 ∧ Out encM 4 w.heap.size w' At ct T ∧ Out encC 3 w.heap.size w' Ac cc C ∧ Below w.heap.size w w') := by
  obtain ⟨wa, hwa⟩ : ∃ y, y = w.alloc (.cells #[.int .i64 0, .int .i64 0, .int .i64 0, .slice none 0 0, .slice none 0 0, .int .i64 0, .int .i64 0, .int .i64 0] 28) := ⟨_, rfl⟩
  have hza : wa.heap.size = w.heap.size + 1 := by subst hwa; exact alloc_size _ _
  have ba : Below w.heap.size w wa := by subst hwa; exact (Below.refl _ _).alloc (Nat.le_refl _) _
  have PA := Lib.hid (show BlAt wa w.heap.size #[.int .i64 0, .int .i64 0, .int .i64 0, .slice none 0 0, .slice none 0 0, .int .i64 0, .int .i64 0, .int .i64 0] by subst hwa; exact BlAt.new _ _ _)
  have IA := Lib.hid (hi.below ba)
  have BA := Lib.hid ba
  have HZA := Lib.hid hza
  have WA := Lib.hid hwa
  clear hwa hza ba hi
  go_enter Try.func19, Try.ntmps19
  go_wp2_with fail
  rw [← WA.out]
  refine (newReader_at _ _ _ wa HZA.out IA.out).mono ?_
  rintro e w2 ⟨rfl, hr, hb, hlt⟩
  have R2 := Lib.hid hr
  have P2 := Lib.hid (PA.out.below hb (by omega))
  have B2 := Lib.hid (BA.out.trans (hb.mono (by omega)))
  clear hr hb
  go_wp2_with fail
  refine (anyGate_ _ 0 _ (by omega) R2.out).mono ?_
  rintro e w3 ⟨b, n, o, f, h, t, T, C, At, Ac, ct, cc, rfl, lT, lC, t0, t1, oT, oC, _, hg⟩
  have PF := P2.out.grown hg (by simp)
  have O1 := Lib.hid oT
  have O2 := Lib.hid oC
  have B3 := Lib.hid (below_app B2.out hg (by omega) (fun g h => by injection h with h; omega))
  obtain ⟨x0, x1, x2, x3, x4, x5, x6, x7⟩ := gcells (PF)
  obtain ⟨q0, q1, q2, q3, q4, q5, q6, q7⟩ := gfrees (PF)
  clear PF hg oT oC
  go_wp2
  refine bodyPost_ret (v := .agg #[.int .i64 b, .int .i64 n, .int .i64 o, .slice At T.length ct, .slice Ac C.length cc, .int .i64 f, .int .i64 h, .int .i64 t]) (by simp [results, Try.results19, go_sem, x0, x1, x2, x3, x4, x5, x6, x7]) rfl ⟨b, n, o, f, h, t, T, C, At, Ac, ct, cc, rfl, lT, lC, t0, t1, ?_, ?_, ?_⟩
  · exact (out_eightB O1.out (by omega) _ _ _ _ _ _ _ _).mono (by omega)
  · exact (out_eightB O2.out (by omega) _ _ _ _ _ _ _ _).mono (by omega)
  · exact below_eight B3.out (Nat.le_refl _) _ _ _ _ _ _ _ _
set_option maxRecDepth 8000 in
set_option maxHeartbeats 8000000 in
theorem DrawTickGate_ (A : Option Addr) (c : Nat) (l : List Int) (w : World) (hi : CodeIn w A c l) :
    Calls Try.prog 8 #[.slice A l.length c] w (fun e w' => ∃ (b n o f h t : Int) (T : List Mp) (C : List Ct) (At Ac : Option Addr) (ct cc : Nat) (now : Int), e = .returned (.tuple #[.agg #[.int .i64 b, .int .i64 n, .int .i64 o, .slice At T.length ct, .slice Ac C.length cc, .int .i64 f, .int .i64 h, .int .i64 t], .int .i64 now]) ∧ T.length ≤ 10 ∧ C.length ≤ 12 ∧ -1 ≤ t ∧ t ≤ 10001 ∧ -2 ≤ now ∧ now ≤ 30001 ∧ Out encM 4 w.heap.size w' At ct T ∧ Out encC 3 w.heap.size w' Ac cc C ∧ Below w.heap.size w w') := by
  obtain ⟨wa, hwa⟩ : ∃ y, y = w.alloc (.cells #[.int .i64 0, .int .i64 0, .int .i64 0, .slice none 0 0, .slice none 0 0, .int .i64 0, .int .i64 0, .int .i64 0] 28) := ⟨_, rfl⟩
  have hza : wa.heap.size = w.heap.size + 1 := by subst hwa; exact alloc_size _ _
  have ba : Below w.heap.size w wa := by subst hwa; exact (Below.refl _ _).alloc (Nat.le_refl _) _
  have PA := Lib.hid (show BlAt wa w.heap.size #[.int .i64 0, .int .i64 0, .int .i64 0, .slice none 0 0, .slice none 0 0, .int .i64 0, .int .i64 0, .int .i64 0] by subst hwa; exact BlAt.new _ _ _)
  have IA := Lib.hid (hi.below ba)
  have BA := Lib.hid ba
  have HZA := Lib.hid hza
  have WA := Lib.hid hwa
  clear hwa hza ba hi
  go_enter Try.func8, Try.ntmps8
  go_wp2_with fail
  rw [← WA.out]
  refine (newReader_at _ _ _ wa HZA.out IA.out).mono ?_
  rintro e w2 ⟨rfl, hr, hb, hlt⟩
  have R2 := Lib.hid hr
  have P2 := Lib.hid (PA.out.below hb (by omega))
  have B2 := Lib.hid (BA.out.trans (hb.mono (by omega)))
  clear hr hb
  go_wp2_with fail
  refine (anyGate_ _ 0 _ (by omega) R2.out).mono ?_
  rintro e w3 ⟨b, n, o, f, h, t, T, C, At, Ac, ct, cc, rfl, lT, lC, t0, t1, oT, oC, hr3, hg⟩
  have z3 : w2.heap.size ≤ w3.heap.size := hg.size
  obtain ⟨w4, hw4⟩ : ∃ q, q = w3.alloc (.cells #[.int .i64 b, .int .i64 n, .int .i64 o, .slice At T.length ct, .slice Ac C.length cc, .int .i64 f, .int .i64 h, .int .i64 t] 28) := ⟨_, rfl⟩
  have hb4 : Below w3.heap.size w3 w4 := by subst hw4; exact (Below.refl _ _).alloc (Nat.le_refl _) _
  have bo : BlAt w4 w3.heap.size #[.int .i64 b, .int .i64 n, .int .i64 o, .slice At T.length ct, .slice Ac C.length cc, .int .i64 f, .int .i64 h, .int .i64 t] := by subst hw4; exact BlAt.new _ _ _
  have P4 := Lib.hid ((P2.out.grown hg (by simp)).below_ hb4)
  have O1 := Lib.hid (oT.below hb4)
  have O2 := Lib.hid (oC.below hb4)
  have R4 := Lib.hid (show Rd w4 (w.heap.size + 1) (0 + 110) by subst hw4; exact hr3.alloc _)
  have B4 := Lib.hid ((below_app B2.out hg (by omega) (fun g h => by injection h with h; omega)).trans (hb4.mono (by omega)))
  have BO := Lib.hid bo
  have W4 := Lib.hid hw4
  have z4 := bo.lt
  have s0 : BlAt w4.drew w3.heap.size #[.int .i64 b, .int .i64 n, .int .i64 o, .slice At T.length ct, .slice Ac C.length cc, .int .i64 f, .int .i64 h, .int .i64 t] := bo
  have sb := bo
  have p0 := P4.out
  obtain ⟨v0, v1, v2, v3, v4, v5, v6, v7⟩ := gcells (p0)
  obtain ⟨q0, q1, q2, q3, q4, q5, q6, q7⟩ := gfrees (p0)
  clear hg oT oC hr3 hw4 hb4 bo p0
  have x0 : ∀ W, BlAt W w3.heap.size #[.int .i64 b, .int .i64 n, .int .i64 o, .slice At T.length ct, .slice Ac C.length cc, .int .i64 f, .int .i64 h, .int .i64 t] → W.cell? ⟨w3.heap.size, 0, none⟩ = some (.int .i64 b) := fun W h => (gcells h).1
  have x1 : ∀ W, BlAt W w3.heap.size #[.int .i64 b, .int .i64 n, .int .i64 o, .slice At T.length ct, .slice Ac C.length cc, .int .i64 f, .int .i64 h, .int .i64 t] → W.cell? ⟨w3.heap.size, 1, none⟩ = some (.int .i64 n) := fun W h => (gcells h).2.1
  have x2 : ∀ W, BlAt W w3.heap.size #[.int .i64 b, .int .i64 n, .int .i64 o, .slice At T.length ct, .slice Ac C.length cc, .int .i64 f, .int .i64 h, .int .i64 t] → W.cell? ⟨w3.heap.size, 2, none⟩ = some (.int .i64 o) := fun W h => (gcells h).2.2.1
  have x3 : ∀ W, BlAt W w3.heap.size #[.int .i64 b, .int .i64 n, .int .i64 o, .slice At T.length ct, .slice Ac C.length cc, .int .i64 f, .int .i64 h, .int .i64 t] → W.cell? ⟨w3.heap.size, 3, none⟩ = some (.slice At T.length ct) := fun W h => (gcells h).2.2.2.1
  have x4 : ∀ W, BlAt W w3.heap.size #[.int .i64 b, .int .i64 n, .int .i64 o, .slice At T.length ct, .slice Ac C.length cc, .int .i64 f, .int .i64 h, .int .i64 t] → W.cell? ⟨w3.heap.size, 4, none⟩ = some (.slice Ac C.length cc) := fun W h => (gcells h).2.2.2.2.1
  have x5 : ∀ W, BlAt W w3.heap.size #[.int .i64 b, .int .i64 n, .int .i64 o, .slice At T.length ct, .slice Ac C.length cc, .int .i64 f, .int .i64 h, .int .i64 t] → W.cell? ⟨w3.heap.size, 5, none⟩ = some (.int .i64 f) := fun W h => (gcells h).2.2.2.2.2.1
  have x6 : ∀ W, BlAt W w3.heap.size #[.int .i64 b, .int .i64 n, .int .i64 o, .slice At T.length ct, .slice Ac C.length cc, .int .i64 f, .int .i64 h, .int .i64 t] → W.cell? ⟨w3.heap.size, 6, none⟩ = some (.int .i64 h) := fun W h => (gcells h).2.2.2.2.2.2.1
  have x7 : ∀ W, BlAt W w3.heap.size #[.int .i64 b, .int .i64 n, .int .i64 o, .slice At T.length ct, .slice Ac C.length cc, .int .i64 f, .int .i64 h, .int .i64 t] → W.cell? ⟨w3.heap.size, 7, none⟩ = some (.int .i64 t) := fun W h => (gcells h).2.2.2.2.2.2.2
  go_wp2_with fail
  rw [← W4.out]
  go_region_held3 (fun W => BlAt W w3.heap.size #[.int .i64 b, .int .i64 n, .int .i64 o, .slice At T.length ct, .slice Ac C.length cc, .int .i64 f, .int .i64 h, .int .i64 t]) (first | with_reducible exact s0 | (repeat (first | (with_reducible assumption) | (with_reducible refine BlAt.drew ?_) | ((with_reducible refine BlAt.far8' ?_ ?_ _ _ _ _ _ _ _ _); focus (omega)) | ((with_reducible refine BlAt.far6' ?_ ?_ _ _ _ _ _ _); focus (omega)) | (with_reducible refine BlAt.alloc ?_ _)))) (first | (go_at_call 25; (first | (refine (one_litD (w.heap.size + 1) (0 + 110) [0, 1, 10, 30, 100, 600, -1, 20000] rfl rfl rfl (by simp) (by simp) (by omega) R4.out).mono ?_) | (refine (one_lit (w.heap.size + 1) (0 + 110) [0, 1, 10, 30, 100, 600, -1, 20000] rfl rfl rfl (by simp) (by simp) (by omega) R4.out).mono ?_)); rintro e w5 ⟨y, rfl, hy, hr5, hg5⟩; have hyy : -1 ≤ y ∧ y ≤ 20000 := (by simp at hy; omega); obtain ⟨hy0, hy1⟩ := hyy; have hwr : IntKind.i64.wrap (t + y) = t + y := IntWalk.i64_in _ (by omega); have s5 := sb.grown hg5 (by simp; omega); have P5 := Lib.hid (P4.out.grown hg5 (by simp)); have p5 := P5.out; clear v0 v1 v2 v3 v4 v5 v6 v7 q0 q1 q2 q3 q4 q5 q6 q7; obtain ⟨v0, v1, v2, v3, v4, v5, v6, v7⟩ := gcells p5; obtain ⟨q0, q1, q2, q3, q4, q5, q6, q7⟩ := gfrees p5; have lz5 := hg5.size; clear p5 hr5 hy))
  all_goals
    try clear hwr
    clear x0 x1 x2 x3 x4 x5 x6 x7
    have O3 := Lib.hid (O1.out.away hg5 (by omega))
    have O4 := Lib.hid (O2.out.away hg5 (by omega))
    have B5 := Lib.hid (below_app B4.out hg5 (by omega) (fun g h => by injection h with h; omega))
    go_wp2
    refine bodyPost_ret (v := .tuple #[.agg #[.int .i64 b, .int .i64 n, .int .i64 o, .slice At T.length ct, .slice Ac C.length cc, .int .i64 f, .int .i64 h, .int .i64 t], .int .i64 (t + y)]) (by simp [results, Try.results8, go_sem, v0, v1, v2, v3, v4, v5, v6, v7]) rfl ⟨b, n, o, f, h, t, T, C, At, Ac, ct, cc, t + y, rfl, lT, lC, t0, t1, by omega, by omega, ?_, ?_, ?_⟩
    · exact (out_eightB O3.out (by omega) _ _ _ _ _ _ _ _).mono (by omega)
    · exact (out_eightB O4.out (by omega) _ _ _ _ _ _ _ _).mono (by omega)
    · exact below_eight B5.out (Nat.le_refl _) _ _ _ _ _ _ _ _
end Go.Proofs.Ytlgfmnognhojnaa
