/- Copies of packets, ReversePacket, equal packets, walked. -/
import Derived.Test.YtnkdhpbbiilekaaKk
namespace Go.Proofs.Ytnkdhpbbiilekaa
open Go.RowKit
theorem out_far {B c b : Nat} {w : World} {A : Option Addr} {l : List Int} (h : Out encI 1 B w A c l) (hb : b < B) (j : Nat) (u : Value) : Out encI 1 B (w.setCell ⟨b, j, none⟩ u) A c l :=
  h.grown (grown_setCell (row := some b) (World.grownBy.refl _ _) (.inl rfl) u) (fun q hq => by injection hq with hq; omega)
theorem out_six {B c b : Nat} {w : World} {A : Option Addr} {l : List Int} (h : Out encI 1 B w A c l) (hb : b < B) (u0 u1 u2 u3 u4 u5 : Value) :
    Out encI 1 B ((((((w.setCell ⟨b, 0, none⟩ u0).setCell ⟨b, 1, none⟩ u1).setCell ⟨b, 2, none⟩ u2).setCell ⟨b, 3, none⟩ u3).setCell ⟨b, 4, none⟩ u4).setCell ⟨b, 5, none⟩ u5) A c l :=
  out_far (out_far (out_far (out_far (out_far (out_far h hb 0 u0) hb 1 u1) hb 2 u2) hb 3 u3) hb 4 u4) hb 5 u5
set_option maxHeartbeats 1000000 in
theorem impl_copyOf (k fa fp ta tp : Int) (d : List Int) (A : Option Addr) (c n : Nat) (w : World) (hn : n = d.length) (hl : d.length ≤ 2000000) (hs : Sl encI 1 w A c d) :
    Calls Try.prog 43 #[.agg #[.int .i64 k, .int .i64 fa, .int .i64 fp, .int .i64 ta, .int .i64 tp, .slice A n c]] w (fun e w' => ∃ A', e = .returned (.agg #[.int .i64 k, .int .i64 fa, .int .i64 fp, .int .i64 ta, .int .i64 tp, .slice A' n n]) ∧ Out encI 1 w.heap.size w' A' n d ∧ Below w.heap.size w w') := by
  subst hn
  obtain ⟨wq, hwq⟩ : ∃ y, y = (w.alloc (.cells #[.int .i64 k, .int .i64 fa, .int .i64 fp, .int .i64 ta, .int .i64 tp, .slice A d.length c] 27)).alloc (.cells #[.int .i64 0, .int .i64 0, .int .i64 0, .int .i64 0, .int .i64 0, .slice none 0 0] 27) := ⟨_, rfl⟩
  have hq : Below w.heap.size w wq := by subst hwq; exact ((Below.refl _ _).alloc (Nat.le_refl _) _).alloc (by simp) _
  have hzq : wq.heap.size = w.heap.size + 1 + 1 := by subst hwq; simp
  have bx : PkAt wq w.heap.size k fa fp ta tp (.slice A d.length c) := by subst hwq; exact (PkAt.new _ _ _ _ _ _ _ _).alloc _
  have bz : PkAt wq (w.heap.size + 1) 0 0 0 0 0 (.slice none 0 0) := by
    subst hwq
    have := PkAt.new (w.alloc (.cells #[.int .i64 k, .int .i64 fa, .int .i64 fp, .int .i64 ta, .int .i64 tp, .slice A d.length c] 27)) 27 0 0 0 0 0 (.slice none 0 0)
    rw [alloc_size] at this
    exact this
  have BX := Lib.hid (fun W (h : Below wq.heap.size wq W) => bx.below h (by omega))
  have BZ := Lib.hid (fun W (h : Below wq.heap.size wq W) => bz.below h (by omega))
  have SL := Lib.hid (fun W (h : Below wq.heap.size wq W) => hs.below (hq.trans (h.mono hq.size)))
  have HZ := Lib.hid hzq
  have WQ := Lib.hid hwq
  have hk : Below wq.heap.size wq wq := Below.refl _ _
  clear hwq hs bx bz hzq
  go_enter Try.func43, Try.ntmps43
  go_wp2_with fail
  rw [← WQ.out]
  refine (clone_in _ _ _ d _ rfl hl (SL.out _ hk)).mono ?_
  rintro e w2 ⟨A2, rfl, ho2, hb2⟩
  have b2 := BX.out w2 hb2
  have c2 := BZ.out w2 hb2
  obtain ⟨x0, x1, x2, x3, x4, x5⟩ := b2.cells
  have q5 := b2.free 5
  obtain ⟨z0, z1, z2, z3, z4, z5⟩ := c2.cells
  obtain ⟨f0, f1, f2, f3, f4, f5⟩ := c2.frees
  have hz := HZ.out
  have hs1 : w.heap.size < wq.heap.size := by omega
  have hs2 : w.heap.size + 1 < wq.heap.size := by omega
  have O2 := Lib.hid ho2
  clear b2 c2 ho2 hz
  go_wp2
  refine bodyPost_ret (v := .agg #[.int .i64 k, .int .i64 fa, .int .i64 fp, .int .i64 ta, .int .i64 tp, .slice A2 d.length d.length]) (by simp [results, Try.results43, go_sem, z0, z1, z2, z3, z4, z5]) rfl ⟨A2, rfl, ?_, ?_⟩
  · exact (out_six (out_far O2.out hs1 _ _) hs2 _ _ _ _ _ _).mono hq.size
  · exact below_six ((hq.trans (hb2.mono hq.size)).setCell (Nat.le_refl _) _) (Nat.le_succ _) _ _ _ _ _ _
set_option maxHeartbeats 1000000 in
theorem spec_copyPacket (k fa fp ta tp : Int) (d : List Int) (A : Option Addr) (c n : Nat) (w : World) (hn : n = d.length) (hl : d.length ≤ 2000000) (hs : Sl encI 1 w A c d) :
    Calls Try.prog 45 #[.agg #[.int .i64 k, .int .i64 fa, .int .i64 fp, .int .i64 ta, .int .i64 tp, .slice A n c]] w (fun e w' => ∃ A' c', e = .returned (.agg #[.int .i64 k, .int .i64 fa, .int .i64 fp, .int .i64 ta, .int .i64 tp, .slice A' n c']) ∧ Ow encI 1 3 w.heap.size w' A' c' d ∧ Below w.heap.size w w') := by
  subst hn
  obtain ⟨wq, hwq⟩ : ∃ y, y = (w.alloc (.cells #[.int .i64 k, .int .i64 fa, .int .i64 fp, .int .i64 ta, .int .i64 tp, .slice A d.length c] 27)).alloc (.cells #[.int .i64 0, .int .i64 0, .int .i64 0, .int .i64 0, .int .i64 0, .slice none 0 0] 27) := ⟨_, rfl⟩
  have hq : Below w.heap.size w wq := by subst hwq; exact ((Below.refl _ _).alloc (Nat.le_refl _) _).alloc (by simp) _
  have hzq : wq.heap.size = w.heap.size + 1 + 1 := by subst hwq; simp
  have bx : PkAt wq w.heap.size k fa fp ta tp (.slice A d.length c) := by subst hwq; exact (PkAt.new _ _ _ _ _ _ _ _).alloc _
  have bz : PkAt wq (w.heap.size + 1) 0 0 0 0 0 (.slice none 0 0) := by
    subst hwq
    have := PkAt.new (w.alloc (.cells #[.int .i64 k, .int .i64 fa, .int .i64 fp, .int .i64 ta, .int .i64 tp, .slice A d.length c] 27)) 27 0 0 0 0 0 (.slice none 0 0)
    rw [alloc_size] at this
    exact this
  have BX := Lib.hid (fun W (h : Below wq.heap.size wq W) => bx.below h (by omega))
  have BZ := Lib.hid (fun W (h : Below wq.heap.size wq W) => bz.below h (by omega))
  have SL := Lib.hid (fun W (h : Below wq.heap.size wq W) => hs.below (hq.trans (h.mono hq.size)))
  have HZ := Lib.hid hzq
  have WQ := Lib.hid hwq
  have hk : Below wq.heap.size wq wq := Below.refl _ _
  clear hwq hs bx bz hzq
  go_enter Try.func45, Try.ntmps45
  go_wp2_with fail
  rw [← WQ.out]
  refine (spec_copyInts _ _ _ d _ rfl hl (SL.out _ hk)).mono ?_
  rintro e w2 ⟨A2, c2, rfl, ho2, hb2⟩
  have b2 := BX.out w2 hb2
  have cz := BZ.out w2 hb2
  obtain ⟨x0, x1, x2, x3, x4, x5⟩ := b2.cells
  have q5 := b2.free 5
  obtain ⟨z0, z1, z2, z3, z4, z5⟩ := cz.cells
  obtain ⟨f0, f1, f2, f3, f4, f5⟩ := cz.frees
  have hz := HZ.out
  have hs1 : w.heap.size < wq.heap.size := by omega
  have hs2 : w.heap.size + 1 < wq.heap.size := by omega
  have O2 := Lib.hid ho2
  clear b2 cz ho2 hz
  go_wp2
  refine bodyPost_ret (v := .agg #[.int .i64 k, .int .i64 fa, .int .i64 fp, .int .i64 ta, .int .i64 tp, .slice A2 d.length c2]) (by simp [results, Try.results45, go_sem, z0, z1, z2, z3, z4, z5]) rfl ⟨A2, c2, rfl, ?_, ?_⟩
  · exact (ow_six (ow_one O2.out (fun e => by have := (O2.out.blk _ e).1; omega) _ _) (fun e => by have := (O2.out.blk _ e).1; omega) _ _ _ _ _ _).base hq.size
  · exact below_six ((hq.trans (hb2.mono hq.size)).setCell (Nat.le_refl _) _) (Nat.le_succ _) _ _ _ _ _ _
set_option maxHeartbeats 2000000 in
theorem same_packets {k fa fp ta tp : Int} {d : List Int} {A A' : Option Addr} {c c' n n' : Nat} {w : World} (hn : n = d.length) (hn' : n' = d.length) (hl : d.length ≤ 2000000) (hs : Sl encI 1 w A c d) (hs' : Sl encI 1 w A' c' d) :
    Calls Try.prog 18 #[.agg #[.int .i64 k, .int .i64 fa, .int .i64 fp, .int .i64 ta, .int .i64 tp, .slice A n c], .agg #[.int .i64 k, .int .i64 fa, .int .i64 fp, .int .i64 ta, .int .i64 tp, .slice A' n' c']] w (Ret w (.bool true)) := by
  subst hn
  have HN := Lib.hid hn'
  obtain ⟨wq, hwq⟩ : ∃ y, y = (w.alloc (.cells #[.int .i64 k, .int .i64 fa, .int .i64 fp, .int .i64 ta, .int .i64 tp, .slice A d.length c] 27)).alloc (.cells #[.int .i64 k, .int .i64 fa, .int .i64 fp, .int .i64 ta, .int .i64 tp, .slice A' n' c'] 27) := ⟨_, rfl⟩
  have hq : Below w.heap.size w wq := by subst hwq; exact ((Below.refl _ _).alloc (Nat.le_refl _) _).alloc (by simp) _
  have S1 := Lib.hid (hs.below hq)
  have S2 := Lib.hid (hs'.below hq)
  have WQ := Lib.hid hwq
  have E1 := eqlEnB fa fp fa fp (r := true) (by simp)
  have E2 := eqlEnB ta tp ta tp (r := true) (by simp)
  clear hwq hs hs' hn'
  go_enter Try.func18, Try.ntmps18
  go_wp2_with fail
  rw [← WQ.out]
  refine (eqIn (l := d) (l' := d) (decide_eq_true rfl) rfl HN.out hl hl S1.out S2.out).mono ?_
  rintro e w2 ⟨rfl, hb2⟩
  go_wp2
  go_ret
  exact ⟨by simp, hq.trans (hb2.mono hq.size)⟩
set_option maxHeartbeats 2000000 in
theorem impl_ReversePacket_bad (k fa fp ta tp : Int) (d : List Int) (A : Option Addr) (c n : Nat) (w : World) (hn : n = d.length) (hl : d.length ≤ 2000000) (hs : Sl encI 1 w A c d) (hr : okPk ⟨k, fa, fp, ta, tp, d⟩ = false) :
    Calls Try.prog 16 #[.agg #[.int .i64 k, .int .i64 fa, .int .i64 fp, .int .i64 ta, .int .i64 tp, .slice A n c]] w (Ret w (.tuple #[.agg #[.int .i64 0, .int .i64 0, .int .i64 0, .int .i64 0, .int .i64 0, .slice none 0 0], .bool false])) := by
  subst hn
  obtain ⟨wq, hwq⟩ : ∃ y, y = (w.alloc (.cells #[.int .i64 k, .int .i64 fa, .int .i64 fp, .int .i64 ta, .int .i64 tp, .slice A d.length c] 27)).alloc (.cells #[.int .i64 0, .int .i64 0, .int .i64 0, .int .i64 0, .int .i64 0, .slice none 0 0] 27) := ⟨_, rfl⟩
  have hq : Below w.heap.size w wq := by subst hwq; exact ((Below.refl _ _).alloc (Nat.le_refl _) _).alloc (by simp) _
  have hzq : wq.heap.size = w.heap.size + 1 + 1 := by subst hwq; simp
  have bx : PkAt wq w.heap.size k fa fp ta tp (.slice A d.length c) := by subst hwq; exact (PkAt.new _ _ _ _ _ _ _ _).alloc _
  have bz : PkAt wq (w.heap.size + 1) 0 0 0 0 0 (.slice none 0 0) := by
    subst hwq
    have := PkAt.new (w.alloc (.cells #[.int .i64 k, .int .i64 fa, .int .i64 fp, .int .i64 ta, .int .i64 tp, .slice A d.length c] 27)) 27 0 0 0 0 0 (.slice none 0 0)
    rw [alloc_size] at this
    exact this
  have BX := Lib.hid (fun W (h : Below wq.heap.size wq W) => bx.below h (by omega))
  have BZ := Lib.hid (fun W (h : Below wq.heap.size wq W) => bz.below h (by omega))
  have SL := Lib.hid (fun W (h : Below wq.heap.size wq W) => hs.below (hq.trans (h.mono hq.size)))
  have HZ := Lib.hid hzq
  have WQ := Lib.hid hwq
  have hk : Below wq.heap.size wq wq := Below.refl _ _
  clear hwq hs bx bz hzq
  have HR := Lib.hid hr
  clear hr
  go_enter Try.func16, Try.ntmps16
  go_wp2_with fail
  rw [← WQ.out]
  obtain ⟨x0, x1, x2, x3, x4, x5⟩ := (BX.out wq hk).cells
  refine (impl_ValidPacket _ _ _ _ _ _ _ _ _ _ rfl hl (SL.out _ hk)).mono ?_
  rintro e w2 ⟨rfl, hb2⟩
  rw [HR.out]
  have cz := BZ.out w2 hb2
  obtain ⟨z0, z1, z2, z3, z4, z5⟩ := cz.cells
  obtain ⟨f0, f1, f2, f3, f4, f5⟩ := cz.frees
  clear cz x0 x1 x2 x3 x4 x5
  go_wp2
  refine bodyPost_ret (v := .tuple #[.agg #[.int .i64 0, .int .i64 0, .int .i64 0, .int .i64 0, .int .i64 0, .slice none 0 0], .bool false]) (by simp [results, Try.results16, go_sem, z0, z1, z2, z3, z4, z5]) rfl ⟨rfl, ?_⟩
  exact below_six (hq.trans (hb2.mono hq.size)) (Nat.le_succ _) _ _ _ _ _ _
set_option maxHeartbeats 4000000 in
theorem impl_ReversePacket_ok (k fa fp ta tp : Int) (d : List Int) (A : Option Addr) (c n : Nat) (w : World) (hn : n = d.length) (hl : d.length ≤ 2000000) (hs : Sl encI 1 w A c d) (hr : okPk ⟨k, fa, fp, ta, tp, d⟩ = true) :
    Calls Try.prog 16 #[.agg #[.int .i64 k, .int .i64 fa, .int .i64 fp, .int .i64 ta, .int .i64 tp, .slice A n c]] w (fun e w' => ∃ A', e = .returned (.tuple #[.agg #[.int .i64 k, .int .i64 ta, .int .i64 tp, .int .i64 fa, .int .i64 fp, .slice A' n n], .bool true]) ∧ Out encI 1 w.heap.size w' A' n d ∧ Below w.heap.size w w') := by
  subst hn
  obtain ⟨wq, hwq⟩ : ∃ y, y = (w.alloc (.cells #[.int .i64 k, .int .i64 fa, .int .i64 fp, .int .i64 ta, .int .i64 tp, .slice A d.length c] 27)).alloc (.cells #[.int .i64 0, .int .i64 0, .int .i64 0, .int .i64 0, .int .i64 0, .slice none 0 0] 27) := ⟨_, rfl⟩
  have hq : Below w.heap.size w wq := by subst hwq; exact ((Below.refl _ _).alloc (Nat.le_refl _) _).alloc (by simp) _
  have hzq : wq.heap.size = w.heap.size + 1 + 1 := by subst hwq; simp
  have bx : PkAt wq w.heap.size k fa fp ta tp (.slice A d.length c) := by subst hwq; exact (PkAt.new _ _ _ _ _ _ _ _).alloc _
  have bz : PkAt wq (w.heap.size + 1) 0 0 0 0 0 (.slice none 0 0) := by
    subst hwq
    have := PkAt.new (w.alloc (.cells #[.int .i64 k, .int .i64 fa, .int .i64 fp, .int .i64 ta, .int .i64 tp, .slice A d.length c] 27)) 27 0 0 0 0 0 (.slice none 0 0)
    rw [alloc_size] at this
    exact this
  have BX := Lib.hid (fun W (h : Below wq.heap.size wq W) => bx.below h (by omega))
  have BZ := Lib.hid (fun W (h : Below wq.heap.size wq W) => bz.below h (by omega))
  have SL := Lib.hid (fun W (h : Below wq.heap.size wq W) => hs.below (hq.trans (h.mono hq.size)))
  have HZ := Lib.hid hzq
  have WQ := Lib.hid hwq
  have hk : Below wq.heap.size wq wq := Below.refl _ _
  clear hwq hs bx bz hzq
  have HR := Lib.hid hr
  clear hr
  go_enter Try.func16, Try.ntmps16
  obtain ⟨x0, x1, x2, x3, x4, x5⟩ := (BX.out wq hk).cells
  go_wp2_with fail
  rw [← WQ.out]
  refine (impl_ValidPacket _ _ _ _ _ _ _ _ _ _ rfl hl (SL.out _ hk)).mono ?_
  rintro e w2 ⟨rfl, hb2⟩
  rw [HR.out]
  clear x0 x1 x2 x3 x4 x5
  obtain ⟨x0, x1, x2, x3, x4, x5⟩ := (BX.out w2 hb2).cells
  go_wp2_with fail
  refine (impl_copyOf _ _ _ _ _ _ _ _ _ _ rfl hl (SL.out _ hb2)).mono ?_
  rintro e w3 ⟨A3, rfl, ho3, hb3⟩
  clear x0 x1 x2 x3 x4 x5
  have hk3 := bstep hb2 hb3 hb2.size
  have b3 := BX.out w3 hk3
  have cz := BZ.out w3 hk3
  obtain ⟨x0, x1, x2, x3, x4, x5⟩ := b3.cells
  obtain ⟨z0, z1, z2, z3, z4, z5⟩ := cz.cells
  obtain ⟨f0, f1, f2, f3, f4, f5⟩ := cz.frees
  have hz := HZ.out
  have hzz3 := hk3.size
  have h31 : w.heap.size < w3.heap.size := by omega
  have h32 : w.heap.size + 1 < w3.heap.size := by omega
  have hq2 := hq.size
  have hz2 := hb2.size
  have h21 : w.heap.size + 1 < w2.heap.size := by omega
  have O3 := Lib.hid ho3
  have CZ := Lib.hid cz
  clear b3 cz hz ho3
  have y1 : ∀ W, Below w3.heap.size w3 W → W.cell? ⟨w.heap.size, 1, none⟩ = some (.int .i64 fa) := fun W h => (BX.out W (bstep hk3 h hk3.size)).cells.2.1
  have y2 : ∀ W, Below w3.heap.size w3 W → W.cell? ⟨w.heap.size, 2, none⟩ = some (.int .i64 fp) := fun W h => (BX.out W (bstep hk3 h hk3.size)).cells.2.2.1
  have y3 : ∀ W, Below w3.heap.size w3 W → W.cell? ⟨w.heap.size, 3, none⟩ = some (.int .i64 ta) := fun W h => (BX.out W (bstep hk3 h hk3.size)).cells.2.2.2.1
  have y4 : ∀ W, Below w3.heap.size w3 W → W.cell? ⟨w.heap.size, 4, none⟩ = some (.int .i64 tp) := fun W h => (BX.out W (bstep hk3 h hk3.size)).cells.2.2.2.2.1
  clear x0 x1 x2 x3 x4 x5
  go_wp2
  go_region_held3 (fun W => Below w3.heap.size w3 W) (first | exact ((Below.refl _ _).alloc (Nat.le_refl _) _).drew | assumption | (exact (Below.setCell (by assumption) (Nat.le_refl _) _)) | (exact (Below.setCell (Below.setCell (by assumption) (Nat.le_refl _) _) (Nat.le_refl _) _))) (fail)
  clear y1 y2 y3 y4
  go_wp2
  obtain ⟨W6, hW6⟩ : ∃ W : World, W = ((((((w3.setCell ⟨w.heap.size + 1, 0, none⟩ (.int .i64 k)).setCell ⟨w.heap.size + 1, 1, none⟩ (.int .i64 ta)).setCell ⟨w.heap.size + 1, 2, none⟩ (.int .i64 tp)).setCell ⟨w.heap.size + 1, 3, none⟩ (.int .i64 fa)).setCell ⟨w.heap.size + 1, 4, none⟩ (.int .i64 fp)).setCell ⟨w.heap.size + 1, 5, none⟩ (.slice A3 d.length d.length)) := ⟨_, rfl⟩
  have hS : PkAt W6 (w.heap.size + 1) k ta tp fa fp (.slice A3 d.length d.length) := by subst hW6; exact six_stores CZ.out
  have hB6 : Below w.heap.size w W6 := by subst hW6; exact below_six (hq.trans (hk3.mono hq.size)) (Nat.le_succ _) _ _ _ _ _ _
  have O6 : Out encI 1 w2.heap.size W6 A3 d.length d := by subst hW6; exact out_six O3.out (by omega) _ _ _ _ _ _
  obtain ⟨s0, s1, s2, s3, s4, s5⟩ := hS.cells
  have hlt6 := hS.lt
  rw [← hW6]
  clear hW6 z0 z1 z2 z3 z4 z5
  refine bodyPost_ret (v := .tuple #[.agg #[.int .i64 k, .int .i64 ta, .int .i64 tp, .int .i64 fa, .int .i64 fp, .slice A3 d.length d.length], .bool true]) (by simp [results, Try.results16, go_sem, s0, s1, s2, s3, s4, s5, hlt6]) rfl ⟨A3, rfl, ?_, ?_⟩
  · exact (O6.below ((Below.refl _ _).alloc (Nat.le_refl _) _)).mono (by omega)
  · exact (hB6.alloc hB6.size _).drew
set_option maxHeartbeats 2000000 in
theorem spec_ReversePacket_bad (k fa fp ta tp : Int) (d : List Int) (A : Option Addr) (c n : Nat) (w : World) (hn : n = d.length) (hl : d.length ≤ 2000000) (hs : Sl encI 1 w A c d) (hr : okPk ⟨k, fa, fp, ta, tp, d⟩ = false) :
    Calls Try.prog 17 #[.agg #[.int .i64 k, .int .i64 fa, .int .i64 fp, .int .i64 ta, .int .i64 tp, .slice A n c]] w (Ret w (.tuple #[.agg #[.int .i64 0, .int .i64 0, .int .i64 0, .int .i64 0, .int .i64 0, .slice none 0 0], .bool false])) := by
  subst hn
  obtain ⟨wq, hwq⟩ : ∃ y, y = (w.alloc (.cells #[.int .i64 k, .int .i64 fa, .int .i64 fp, .int .i64 ta, .int .i64 tp, .slice A d.length c] 27)).alloc (.cells #[.int .i64 0, .int .i64 0, .int .i64 0, .int .i64 0, .int .i64 0, .slice none 0 0] 27) := ⟨_, rfl⟩
  have hq : Below w.heap.size w wq := by subst hwq; exact ((Below.refl _ _).alloc (Nat.le_refl _) _).alloc (by simp) _
  have hzq : wq.heap.size = w.heap.size + 1 + 1 := by subst hwq; simp
  have bx : PkAt wq w.heap.size k fa fp ta tp (.slice A d.length c) := by subst hwq; exact (PkAt.new _ _ _ _ _ _ _ _).alloc _
  have bz : PkAt wq (w.heap.size + 1) 0 0 0 0 0 (.slice none 0 0) := by
    subst hwq
    have := PkAt.new (w.alloc (.cells #[.int .i64 k, .int .i64 fa, .int .i64 fp, .int .i64 ta, .int .i64 tp, .slice A d.length c] 27)) 27 0 0 0 0 0 (.slice none 0 0)
    rw [alloc_size] at this
    exact this
  have BX := Lib.hid (fun W (h : Below wq.heap.size wq W) => bx.below h (by omega))
  have BZ := Lib.hid (fun W (h : Below wq.heap.size wq W) => bz.below h (by omega))
  have SL := Lib.hid (fun W (h : Below wq.heap.size wq W) => hs.below (hq.trans (h.mono hq.size)))
  have HZ := Lib.hid hzq
  have WQ := Lib.hid hwq
  have hk : Below wq.heap.size wq wq := Below.refl _ _
  clear hwq hs bx bz hzq
  have HR := Lib.hid hr
  clear hr
  go_enter Try.func17, Try.ntmps17
  go_wp2_with fail
  rw [← WQ.out]
  obtain ⟨x0, x1, x2, x3, x4, x5⟩ := (BX.out wq hk).cells
  refine (spec_validPacket _ _ _ _ _ _ _ _ _ _ rfl hl (SL.out _ hk)).mono ?_
  rintro e w2 ⟨rfl, hb2⟩
  rw [HR.out]
  have cz := BZ.out w2 hb2
  obtain ⟨z0, z1, z2, z3, z4, z5⟩ := cz.cells
  obtain ⟨f0, f1, f2, f3, f4, f5⟩ := cz.frees
  clear cz x0 x1 x2 x3 x4 x5
  go_wp2
  refine bodyPost_ret (v := .tuple #[.agg #[.int .i64 0, .int .i64 0, .int .i64 0, .int .i64 0, .int .i64 0, .slice none 0 0], .bool false]) (by simp [results, Try.results17, go_sem, z0, z1, z2, z3, z4, z5]) rfl ⟨rfl, ?_⟩
  exact below_six (hq.trans (hb2.mono hq.size)) (Nat.le_succ _) _ _ _ _ _ _
set_option maxHeartbeats 4000000 in
theorem spec_ReversePacket_ok (k fa fp ta tp : Int) (d : List Int) (A : Option Addr) (c n : Nat) (w : World) (hn : n = d.length) (hl : d.length ≤ 2000000) (hs : Sl encI 1 w A c d) (hr : okPk ⟨k, fa, fp, ta, tp, d⟩ = true) :
    Calls Try.prog 17 #[.agg #[.int .i64 k, .int .i64 fa, .int .i64 fp, .int .i64 ta, .int .i64 tp, .slice A n c]] w (fun e w' => ∃ A' c', e = .returned (.tuple #[.agg #[.int .i64 k, .int .i64 ta, .int .i64 tp, .int .i64 fa, .int .i64 fp, .slice A' n c'], .bool true]) ∧ Ow encI 1 3 w.heap.size w' A' c' d ∧ Below w.heap.size w w') := by
  subst hn
  obtain ⟨wq, hwq⟩ : ∃ y, y = (w.alloc (.cells #[.int .i64 k, .int .i64 fa, .int .i64 fp, .int .i64 ta, .int .i64 tp, .slice A d.length c] 27)).alloc (.cells #[.int .i64 0, .int .i64 0, .int .i64 0, .int .i64 0, .int .i64 0, .slice none 0 0] 27) := ⟨_, rfl⟩
  have hq : Below w.heap.size w wq := by subst hwq; exact ((Below.refl _ _).alloc (Nat.le_refl _) _).alloc (by simp) _
  have hzq : wq.heap.size = w.heap.size + 1 + 1 := by subst hwq; simp
  have bx : PkAt wq w.heap.size k fa fp ta tp (.slice A d.length c) := by subst hwq; exact (PkAt.new _ _ _ _ _ _ _ _).alloc _
  have bz : PkAt wq (w.heap.size + 1) 0 0 0 0 0 (.slice none 0 0) := by
    subst hwq
    have := PkAt.new (w.alloc (.cells #[.int .i64 k, .int .i64 fa, .int .i64 fp, .int .i64 ta, .int .i64 tp, .slice A d.length c] 27)) 27 0 0 0 0 0 (.slice none 0 0)
    rw [alloc_size] at this
    exact this
  have BX := Lib.hid (fun W (h : Below wq.heap.size wq W) => bx.below h (by omega))
  have BZ := Lib.hid (fun W (h : Below wq.heap.size wq W) => bz.below h (by omega))
  have SL := Lib.hid (fun W (h : Below wq.heap.size wq W) => hs.below (hq.trans (h.mono hq.size)))
  have HZ := Lib.hid hzq
  have WQ := Lib.hid hwq
  have hk : Below wq.heap.size wq wq := Below.refl _ _
  clear hwq hs bx bz hzq
  have HR := Lib.hid hr
  clear hr
  go_enter Try.func17, Try.ntmps17
  obtain ⟨x0, x1, x2, x3, x4, x5⟩ := (BX.out wq hk).cells
  go_wp2_with fail
  rw [← WQ.out]
  refine (spec_validPacket _ _ _ _ _ _ _ _ _ _ rfl hl (SL.out _ hk)).mono ?_
  rintro e w2 ⟨rfl, hb2⟩
  rw [HR.out]
  clear x0 x1 x2 x3 x4 x5
  obtain ⟨x0, x1, x2, x3, x4, x5⟩ := (BX.out w2 hb2).cells
  go_wp2_with fail
  refine (spec_copyPacket _ _ _ _ _ _ _ _ _ _ rfl hl (SL.out _ hb2)).mono ?_
  rintro e w3 ⟨A3, c3, rfl, ho3, hb3⟩
  clear x0 x1 x2 x3 x4 x5
  have hk3 := bstep hb2 hb3 hb2.size
  have b3 := BX.out w3 hk3
  have cz := BZ.out w3 hk3
  obtain ⟨x0, x1, x2, x3, x4, x5⟩ := b3.cells
  obtain ⟨z0, z1, z2, z3, z4, z5⟩ := cz.cells
  obtain ⟨f0, f1, f2, f3, f4, f5⟩ := cz.frees
  have hz := HZ.out
  have hzz3 := hk3.size
  have h31 : w.heap.size < w3.heap.size := by omega
  have h32 : w.heap.size + 1 < w3.heap.size := by omega
  have hq2 := hq.size
  have hz2 := hb2.size
  have h21 : w.heap.size + 1 < w2.heap.size := by omega
  have O3 := Lib.hid ho3
  have CZ := Lib.hid cz
  clear b3 cz hz ho3
  go_wp2
  obtain ⟨W6, hW6⟩ : ∃ W : World, W = ((((((w3.setCell ⟨w.heap.size + 1, 0, none⟩ (.int .i64 k)).setCell ⟨w.heap.size + 1, 1, none⟩ (.int .i64 ta)).setCell ⟨w.heap.size + 1, 2, none⟩ (.int .i64 tp)).setCell ⟨w.heap.size + 1, 3, none⟩ (.int .i64 fa)).setCell ⟨w.heap.size + 1, 4, none⟩ (.int .i64 fp)).setCell ⟨w.heap.size + 1, 5, none⟩ (.slice A3 d.length c3)) := ⟨_, rfl⟩
  have hS : PkAt W6 (w.heap.size + 1) k ta tp fa fp (.slice A3 d.length c3) := by subst hW6; exact six_stores CZ.out
  have hB6 : Below w.heap.size w W6 := by subst hW6; exact below_six (hq.trans (hk3.mono hq.size)) (Nat.le_succ _) _ _ _ _ _ _
  have O6 : Ow encI 1 3 w2.heap.size W6 A3 c3 d := by subst hW6; exact ow_six O3.out (fun e => by have := (O3.out.blk _ e).1; omega) _ _ _ _ _ _
  obtain ⟨s0, s1, s2, s3, s4, s5⟩ := hS.cells
  have hlt6 := hS.lt
  rw [← hW6]
  clear hW6 z0 z1 z2 z3 z4 z5
  refine bodyPost_ret (v := .tuple #[.agg #[.int .i64 k, .int .i64 ta, .int .i64 tp, .int .i64 fa, .int .i64 fp, .slice A3 d.length c3], .bool true]) (by simp [results, Try.results17, go_sem, s0, s1, s2, s3, s4, s5, hlt6]) rfl ⟨A3, c3, rfl, ?_, ?_⟩
  · exact (O6.below ((Below.refl _ _).alloc (Nat.le_refl _) _)).base (by omega)
  · exact (hB6.alloc hB6.size _)
end Go.Proofs.Ytnkdhpbbiilekaa
