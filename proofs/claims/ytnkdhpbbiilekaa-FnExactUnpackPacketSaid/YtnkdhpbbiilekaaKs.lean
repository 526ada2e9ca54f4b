/- UnpackPacket of the reference, walked. -/
import Derived.Test.YtnkdhpbbiilekaaKu
namespace Go.Proofs.Ytnkdhpbbiilekaa
open Go.RowKit
set_option maxHeartbeats 1000000 in
theorem spec_UnpackPacket_short (A : Option Addr) (c n : Nat) (l : List Int) (w : World) (hn : n = l.length) (hl : l.length ≤ 2000000) (hcm : c ≤ 9223372036854775807) (hs : Sl encI 1 w A c l) (h6 : l.length < 6 ∨ 18 < l.length) :
    Calls Try.prog 37 #[.slice A n c] w (Ret w (.tuple #[.agg #[.int .i64 0, .int .i64 0, .int .i64 0, .int .i64 0, .int .i64 0, .slice none 0 0], .bool false])) := by
  subst hn
  obtain ⟨wq, hwq⟩ : ∃ y : World, y = w.alloc (.cells #[.int .i64 0, .int .i64 0, .int .i64 0, .int .i64 0, .int .i64 0, .slice none 0 0] 27) := ⟨_, rfl⟩
  have hq : Below w.heap.size w wq := by subst hwq; exact (Below.refl _ _).alloc (Nat.le_refl _) _
  have hzq : wq.heap.size = w.heap.size + 1 := by subst hwq; exact alloc_size _ _
  have bz : PkAt wq w.heap.size 0 0 0 0 0 (.slice none 0 0) := by subst hwq; exact PkAt.new _ _ _ _ _ _ _ _
  have BZ := Lib.hid (fun W (h : Below wq.heap.size wq W) => bz.below h (by omega))
  have SL := Lib.hid (fun W (h : Below wq.heap.size wq W) => hs.below (hq.trans (h.mono hq.size)))
  have HZ := Lib.hid hzq
  have WQ := Lib.hid hwq
  have hk : Below wq.heap.size wq wq := Below.refl _ _
  clear hwq hs bz hzq
  rcases h6 with h6 | h6
  all_goals
    go_enter Try.func37, Try.ntmps37
    have cz := BZ.out wq hk
    obtain ⟨z0, z1, z2, z3, z4, z5⟩ := cz.cells
    obtain ⟨f0, f1, f2, f3, f4, f5⟩ := cz.frees
    clear cz
    go_wp2_with fail
    rw [← WQ.out]
    go_wp2
    refine bodyPost_ret (v := .tuple #[.agg #[.int .i64 0, .int .i64 0, .int .i64 0, .int .i64 0, .int .i64 0, .slice none 0 0], .bool false]) (by simp [results, Try.results37, go_sem, z0, z1, z2, z3, z4, z5]) rfl ⟨rfl, ?_⟩
    exact hq
set_option maxHeartbeats 4000000 in
theorem spec_UnpackPacket_long (A : Option Addr) (c n : Nat) (l : List Int) (w : World) (hn : n = l.length) (hl : l.length ≤ 2000000) (hcm : c ≤ 9223372036854775807) (hs : Sl encI 1 w A c l) (h6 : 6 ≤ l.length) (h18 : l.length ≤ 18) :
    Calls Try.prog 37 #[.slice A n c] w (fun e w' => ((unpackO l = false ∧ e = .returned (.tuple #[.agg #[.int .i64 0, .int .i64 0, .int .i64 0, .int .i64 0, .int .i64 0, .slice none 0 0], .bool false])) ∨ (unpackO l = true ∧ ∃ A' c', e = .returned (.tuple #[.agg #[.int .i64 (unpackP l).k, .int .i64 (unpackP l).fa, .int .i64 (unpackP l).fp, .int .i64 (unpackP l).ta, .int .i64 (unpackP l).tp, .slice A' (unpackP l).d.length c'], .bool true]) ∧ Out encI 1 w.heap.size w' A' c' (unpackP l).d)) ∧ Below w.heap.size w w') := by
  subst hn
  obtain ⟨wq, hwq⟩ : ∃ y : World, y = w.alloc (.cells #[.int .i64 0, .int .i64 0, .int .i64 0, .int .i64 0, .int .i64 0, .slice none 0 0] 27) := ⟨_, rfl⟩
  have hq : Below w.heap.size w wq := by subst hwq; exact (Below.refl _ _).alloc (Nat.le_refl _) _
  have hzq : wq.heap.size = w.heap.size + 1 := by subst hwq; exact alloc_size _ _
  have bz : PkAt wq w.heap.size 0 0 0 0 0 (.slice none 0 0) := by subst hwq; exact PkAt.new _ _ _ _ _ _ _ _
  have BZ := Lib.hid (fun W (h : Below wq.heap.size wq W) => bz.below h (by omega))
  have SL := Lib.hid (fun W (h : Below wq.heap.size wq W) => hs.below (hq.trans (h.mono hq.size)))
  have HZ := Lib.hid hzq
  have WQ := Lib.hid hwq
  have hk : Below wq.heap.size wq wq := Below.refl _ _
  have hlc := hs.1
  obtain ⟨b, o, rfl, hbs, hrow⟩ := (hs.below hq).base (i := 0) (by omega)
  obtain ⟨l0, e0⟩ := at_i (l := l) (i := 0) (by omega)
  obtain ⟨l1, e1⟩ := at_i (l := l) (i := 1) (by omega)
  obtain ⟨l2, e2⟩ := at_i (l := l) (i := 2) (by omega)
  obtain ⟨l3, e3⟩ := at_i (l := l) (i := 3) (by omega)
  obtain ⟨l4, e4⟩ := at_i (l := l) (i := 4) (by omega)
  obtain ⟨l5, e5⟩ := at_i (l := l) (i := 5) (by omega)
  obtain ⟨D, hD⟩ : ∃ D, l.drop 6 = D := ⟨_, rfl⟩
  have hmk : mkPk l = ⟨l0, l2, l4, l3, l5, D⟩ := by rw [mk_of e0 e2 e3 e4 e5, hD]
  have HU := Lib.hid (unpack_is h6 hmk)
  have HMK := Lib.hid hmk
  obtain ⟨r, hr⟩ : ∃ r, okPk ⟨l0, l2, l4, l3, l5, D⟩ = r := ⟨_, rfl⟩
  obtain ⟨L0, hL⟩ : ∃ L, wordsP ⟨l0, l2, l4, l3, l5, D⟩ 0 = L := ⟨_, rfl⟩
  obtain ⟨m0, hm⟩ : ∃ m, L0.length = m := ⟨_, rfl⟩
  obtain ⟨T, hT⟩ : ∃ T, tot L0 = T := ⟨_, rfl⟩
  have ROK := Lib.hid hr
  have HL0 := Lib.hid hL
  have HM0 := Lib.hid hm
  have HT := Lib.hid hT
  have HE1 := Lib.hid e1
  clear hL hm hT
  have y0 : ∀ W, Below wq.heap.size wq W → W.cell? ⟨b, o, none⟩ = some (.int .i64 l0) := fun W h => by simpa using hrow.inn h hbs e0
  have y1 : ∀ W, Below wq.heap.size wq W → W.cell? ⟨b, o + 1, none⟩ = some (.int .i64 l1) := fun W h => hrow.inn h hbs e1
  have y2 : ∀ W, Below wq.heap.size wq W → W.cell? ⟨b, o + 2, none⟩ = some (.int .i64 l2) := fun W h => hrow.inn h hbs e2
  have y3 : ∀ W, Below wq.heap.size wq W → W.cell? ⟨b, o + 3, none⟩ = some (.int .i64 l3) := fun W h => hrow.inn h hbs e3
  have y4 : ∀ W, Below wq.heap.size wq W → W.cell? ⟨b, o + 4, none⟩ = some (.int .i64 l4) := fun W h => hrow.inn h hbs e4
  have y5 : ∀ W, Below wq.heap.size wq W → W.cell? ⟨b, o + 5, none⟩ = some (.int .i64 l5) := fun W h => hrow.inn h hbs e5
  obtain ⟨n1, hn1⟩ : ∃ n1, l.length = n1 + 6 := ⟨l.length - 6, by omega⟩
  obtain ⟨cc, rfl⟩ : ∃ cc, c = cc + 6 := ⟨c - 6, by omega⟩
  have hDn : n1 = D.length := by rw [← hD, List.length_drop]; omega
  have TS0 := Lib.hid (fun W (h : Below wq.heap.size wq W) => (show Sl encI 1 W (if cc + 6 = 6 then some ⟨b, o, none⟩ else some ⟨b, o + 6, none⟩) cc D by
    have := (SL.out W h).drop 6 h6
    rw [hD] at this
    simpa [Addr.add] using this))
  have HD := Lib.hid hDn
  have HN := Lib.hid hn1.symm
  have hd2 : D.length ≤ 2000000 := by omega
  have hn1c : n1 ≤ cc := by omega
  clear hwq hs bz hzq hrow e0 e1 e2 e3 e4 e5 hD hmk hr hDn
  rcases Nat.eq_zero_or_pos cc with hz1 | hz1
  · subst hz1
    obtain rfl : n1 = 0 := by omega
    have TS := Lib.hid (fun W (h : Below wq.heap.size wq W) => (show Sl encI 1 W (some ⟨b, o, none⟩) 0 D by have := TS0.out W h; simpa using this))
    go_enter Try.func37, Try.ntmps37
    go_wp2
    rw [← WQ.out]
    go_region_held3 (fun W => Below wq.heap.size wq W) (first | with_reducible exact hk.drew | with_reducible exact (Below.alloc hk (Nat.le_refl _) _).drew | with_reducible assumption | (with_reducible exact Below.alloc (by with_reducible assumption) (Below.size (by with_reducible assumption)) _) | (with_reducible exact below_six (by with_reducible assumption) (Nat.le_refl _) _ _ _ _ _ _)) (first | (go_at_call 60; refine (spec_copyInts _ _ _ D _ HD.out (by omega) (TS.out _ (by with_reducible assumption))).mono ?_; rintro e w3 ⟨A3, c3, rfl, ho3, hb3⟩; have hk3 := bstep (B := wq.heap.size) (a := wq) (by with_reducible assumption) hb3 (Below.size (by with_reducible assumption)); first | (have bp3 : PkAt w3 wq.heap.size 0 0 0 0 0 (.slice none 0 0) := (by have b0 : PkAt (wq.alloc (.cells #[.int .i64 0, .int .i64 0, .int .i64 0, .int .i64 0, .int .i64 0, .slice none 0 0] 27)).drew wq.heap.size 0 0 0 0 0 (.slice none 0 0) := PkAt.new wq 27 0 0 0 0 0 (.slice none 0 0); with_reducible exact b0.below_ hb3); obtain ⟨p0, p1, p2, p3, p4, p5⟩ := bp3.cells; obtain ⟨u0, u1, u2, u3, u4, u5⟩ := bp3.frees; have hl3 := bp3.lt) | skip))
    all_goals
      have hzz := HZ.out
      have hz3 := hk3.size
      first | (obtain ⟨W5, hW5⟩ : ∃ z : World, z = w3.alloc (.cells #[.int .i64 l0, .int .i64 l2, .int .i64 l4, .int .i64 l3, .int .i64 l5, .slice A3 0 c3] 27) := ⟨_, rfl⟩; rw [← hW5]; have hk4 : Below wq.heap.size wq W5 := (by subst hW5; exact hk3.alloc hk3.size _); have bp : PkAt W5 w3.heap.size l0 l2 l4 l3 l5 (.slice A3 0 c3) := (by subst hW5; exact PkAt.new _ _ _ _ _ _ _ _); have o5 : Out encI 1 wq.heap.size W5 A3 c3 D := (by subst hW5; exact (ho3.out.below ((Below.refl _ _).alloc (Nat.le_refl _) _)).mono (Nat.le_refl _)); obtain ⟨g4, hg4⟩ : ∃ g, g = w3.heap.size := ⟨_, rfl⟩; have hne : g4 ≠ w.heap.size := (by omega); rw [← hg4] at bp ⊢; clear hW5) | (obtain ⟨W5, hW5⟩ : ∃ z : World, z = ((((((w3.setCell ⟨wq.heap.size, 0, none⟩ (.int .i64 l0)).setCell ⟨wq.heap.size, 1, none⟩ (.int .i64 l2)).setCell ⟨wq.heap.size, 2, none⟩ (.int .i64 l4)).setCell ⟨wq.heap.size, 3, none⟩ (.int .i64 l3)).setCell ⟨wq.heap.size, 4, none⟩ (.int .i64 l5)).setCell ⟨wq.heap.size, 5, none⟩ (.slice A3 0 c3)) := ⟨_, rfl⟩; rw [← hW5]; have hk4 : Below wq.heap.size wq W5 := (by subst hW5; exact below_six hk3 (Nat.le_refl _) _ _ _ _ _ _); have bp : PkAt W5 wq.heap.size l0 l2 l4 l3 l5 (.slice A3 0 c3) := (by subst hW5; exact six_stores bp3); have o5 : Out encI 1 wq.heap.size W5 A3 c3 D := (by subst hW5; exact (out_six ho3.out (by simp) _ _ _ _ _ _).mono (by simp)); obtain ⟨g4, hg4⟩ : ∃ g, g = wq.heap.size := ⟨_, rfl⟩; have hne : g4 ≠ w.heap.size := (by omega); rw [← hg4] at bp ⊢; clear hW5 p0 p1 p2 p3 p4 p5 u0 u1 u2 u3 u4 u5 bp3)
      have O3 := Lib.hid (fun W (h : Below W5.heap.size W5 W) => o5.below h)
      have hwl : w.heap.size < wq.heap.size := by omega
      have hal : Below W5.heap.size W5 W5 := Below.refl _ _
      have YY := y1
      clear y0 y1 y2 y3 y4 y5
      have y1 : ∀ W, Below W5.heap.size W5 W → W.cell? ⟨b, o + 1, none⟩ = some (.int .i64 l1) := fun W h => YY W (bstep hk4 h hk4.size)
      have CC := Lib.hid (fun W (h : Below W5.heap.size W5 W) => bp.below_ h)
      have p0 : ∀ W, Below W5.heap.size W5 W → W.cell? ⟨g4, 0, none⟩ = some (.int .i64 l0) := fun W h => (CC.out W h).cells.1
      have p1 : ∀ W, Below W5.heap.size W5 W → W.cell? ⟨g4, 1, none⟩ = some (.int .i64 l2) := fun W h => (CC.out W h).cells.2.1
      have p2 : ∀ W, Below W5.heap.size W5 W → W.cell? ⟨g4, 2, none⟩ = some (.int .i64 l4) := fun W h => (CC.out W h).cells.2.2.1
      have p3 : ∀ W, Below W5.heap.size W5 W → W.cell? ⟨g4, 3, none⟩ = some (.int .i64 l3) := fun W h => (CC.out W h).cells.2.2.2.1
      have p4 : ∀ W, Below W5.heap.size W5 W → W.cell? ⟨g4, 4, none⟩ = some (.int .i64 l5) := fun W h => (CC.out W h).cells.2.2.2.2.1
      have p5 : ∀ W, Below W5.heap.size W5 W → W.cell? ⟨g4, 5, none⟩ = some (.slice A3 0 c3) := fun W h => (CC.out W h).cells.2.2.2.2.2
      clear YY hg4 ho3 hzz
      cases r
      · have hu : unpackO l = false := by rw [HU.out, ROK.out]; rfl
        have CV := Lib.hid (fun W h => ROK.out ▸ spec_validPacket l0 l2 l4 l3 l5 D A3 c3 0 W HD.out (by omega) h)
        have b0 : ∀ y : BW W5.heap.size W5, y.w.cell? ⟨g4, 0, none⟩ = some (.int .i64 l0) := fun y => p0 _ y.h
        have b1 : ∀ y : BW W5.heap.size W5, y.w.cell? ⟨g4, 1, none⟩ = some (.int .i64 l2) := fun y => p1 _ y.h
        have b2 : ∀ y : BW W5.heap.size W5, y.w.cell? ⟨g4, 2, none⟩ = some (.int .i64 l4) := fun y => p2 _ y.h
        have b3 : ∀ y : BW W5.heap.size W5, y.w.cell? ⟨g4, 3, none⟩ = some (.int .i64 l3) := fun y => p3 _ y.h
        have b4 : ∀ y : BW W5.heap.size W5, y.w.cell? ⟨g4, 4, none⟩ = some (.int .i64 l5) := fun y => p4 _ y.h
        have b5 : ∀ y : BW W5.heap.size W5, y.w.cell? ⟨g4, 5, none⟩ = some (.slice A3 0 c3) := fun y => p5 _ y.h
        go_wp2_with fail
        refine wp_region_bw W5.heap.size W5 (Below.refl _ _) (by kernel_rfl) (by kernel_rfl) ?_
        repeat (go_big_quiet_step (first | (go_at_call 44; exact bwCall (Nat.le_refl _) (CV.out _ (O3.out _ (BW.h _)).1))))
        refine wpQuiet_nil ?_
        rintro _ ⟨⟨w4, hj4⟩, rfl⟩
        all_goals
          have hk5 := bstep hk4 hj4 hk4.size
          have cz := BZ.out _ hk5
          obtain ⟨z0, z1, z2, z3, z4, z5⟩ := cz.cells
          obtain ⟨f0, f1, f2, f3, f4, f5⟩ := cz.frees
          clear cz
          go_wp2
          refine bodyPost_ret (v := .tuple #[.agg #[.int .i64 0, .int .i64 0, .int .i64 0, .int .i64 0, .int .i64 0, .slice none 0 0], .bool false]) (by simp [results, Try.results37, go_sem, z0, z1, z2, z3, z4, z5]) rfl ⟨.inl ⟨hu, rfl⟩, ?_⟩
          exact below_six (hq.trans (hk5.mono hq.size)) (Nat.le_refl _) _ _ _ _ _ _
      have hok := ROK.out
      have hchk : chk ⟨l0, l2, l4, l3, l5, D⟩ = 65535 - T := by unfold chk; rw [HL0.out, HT.out]
      have HCK := Lib.hid hchk
      have hd12 : D.length ≤ 12 := (okPk_iff.1 hok).2.2.2.1
      have hm18 : m0 ≤ 18 := by rw [← HM0.out, ← HL0.out, wordsP_len]; show 6 + D.length ≤ 18; omega
      have hin : ∀ y ∈ L0, 0 ≤ y ∧ y ≤ 65535 := by rw [← HL0.out]; exact wordsP_in hok (by omega) (by omega)
      have hTr : 0 ≤ T ∧ T ≤ 65535 := by rw [← HT.out]; exact tot_range hin
      obtain ⟨hT0, hT1⟩ := hTr
      have HIN := Lib.hid hin
      have hwr : IntKind.i64.wrap (65535 - T) = 65535 - T := IntWalk.i64_in _ (by omega)
      have hq1 : unpackO l = decide (l1 = 65535 - T) := by
        rw [unpackO_spec h6 (by rw [HMK.out]; exact hok), HMK.out, HCK.out, HE1.out]
        rfl
      have HQ1 := Lib.hid hq1
      clear hq1
      clear hok hchk hin
      go_wp2
      go_region_held3 (fun W => Below W5.heap.size W5 W) (first | with_reducible exact hal.drew | with_reducible exact hal | with_reducible assumption) (first | (go_at_call 44; refine (spec_validPacket l0 l2 l4 l3 l5 D _ _ _ _ HD.out (by omega) (O3.out _ (by with_reducible assumption)).1).mono ?_; rintro e w4 ⟨rfl, hb4⟩; rw [ROK.out]; have hj4 := bstep (B := W5.heap.size) (a := W5) (by with_reducible assumption) hb4 (Below.size (by with_reducible assumption))) | (go_at_call 50; refine (spec_words l0 l2 l4 l3 l5 D _ _ _ _ HD.out (by omega) (O3.out _ (by with_reducible assumption)).1 0 L0 m0 HL0.out HM0.out).mono ?_; rintro e w6 ⟨A6, c6, rfl, ho6, hb6⟩; have hj6 := bstep (B := W5.heap.size) (a := W5) (by with_reducible assumption) hb6 (Below.size (by with_reducible assumption)); have O6 := Lib.hid ho6; clear ho6) | (go_at_call 49; refine (spec_sumOf _ _ _ L0 _ HM0.out.symm (by rw [HM0.out]; omega) HIN.out O6.out.sl).mono ?_; rintro e w7 ⟨rfl, rfl⟩; rw [HT.out]))
      all_goals
        clear hwr p0 p1 p2 p3 p4 p5 y1
        have hk7 := bstep hk4 hj6 hk4.size
        have cz := BZ.out w6 hk7
        obtain ⟨z0, z1, z2, z3, z4, z5⟩ := cz.cells
        obtain ⟨f0, f1, f2, f3, f4, f5⟩ := cz.frees
        clear cz
        by_cases he : l1 = 65535 - T
        · have hu : unpackO l = true := by rw [HQ1.out, decide_eq_true he]
          have hup : unpackP l = ⟨l0, l2, l4, l3, l5, D⟩ := by unfold unpackP; rw [if_pos hu]; exact HMK.out
          subst he
          obtain ⟨y0, y1, y2, y3, y4, y5⟩ := (CC.out _ hj6).cells
          have HU2 := Lib.hid hu
          have HUP := Lib.hid hup
          clear hu hup
          go_wp2
          have hu := HU2.out
          have hup := HUP.out
          refine bodyPost_ret (v := .tuple #[.agg #[.int .i64 l0, .int .i64 l2, .int .i64 l4, .int .i64 l3, .int .i64 l5, .slice A3 0 c3], .bool true]) (by simp [results, Try.results37, go_sem, y0, y1, y2, y3, y4, y5, z0, z1, z2, z3, z4, z5]) rfl ⟨.inr ⟨hu, A3, c3, ?_, ?_⟩, ?_⟩
          · rw [hup]; simp only []; rw [← HD.out]
          · rw [hup]; exact (out_six (O3.out _ hj6) hwl _ _ _ _ _ _).mono hq.size
          · exact below_six (hq.trans (hk7.mono hq.size)) (Nat.le_refl _) _ _ _ _ _ _
        · have hu : unpackO l = false := by rw [HQ1.out, decide_eq_false he]
          go_wp2
          refine bodyPost_ret (v := .tuple #[.agg #[.int .i64 0, .int .i64 0, .int .i64 0, .int .i64 0, .int .i64 0, .slice none 0 0], .bool false]) (by simp [results, Try.results37, go_sem, z0, z1, z2, z3, z4, z5]) rfl ⟨.inl ⟨hu, rfl⟩, ?_⟩
          exact below_six (hq.trans (hk7.mono hq.size)) (Nat.le_refl _) _ _ _ _ _ _
  · have TS := Lib.hid (fun W (h : Below wq.heap.size wq W) => (show Sl encI 1 W (some ⟨b, o + 6, none⟩) cc D by have := TS0.out W h; rwa [if_neg (by omega)] at this))
    have q1 : 6 ≤ n1 + 6 := by omega
    have q2 : (6 : Int) ≤ (n1 : Int) + 6 := by omega
    have q3 : ¬ cc + 6 = 6 := by omega
    have q4 : ¬ cc = 0 := by omega
    have i0 : (0 : Int) < (n1 : Int) + 6 := by omega
    have i1 : (1 : Int) < (n1 : Int) + 6 := by omega
    have i2 : (2 : Int) < (n1 : Int) + 6 := by omega
    have i3 : (3 : Int) < (n1 : Int) + 6 := by omega
    have i4 : (4 : Int) < (n1 : Int) + 6 := by omega
    have i5 : (5 : Int) < (n1 : Int) + 6 := by omega
    have j0 : 0 < n1 + 6 := by omega
    have j1 : 1 < n1 + 6 := by omega
    have j2 : 2 < n1 + 6 := by omega
    have j3 : 3 < n1 + 6 := by omega
    have j4 : 4 < n1 + 6 := by omega
    have j5 : 5 < n1 + 6 := by omega
    go_enter Try.func37, Try.ntmps37
    go_wp2
    rw [← WQ.out]
    go_region_held3 (fun W => Below wq.heap.size wq W) (first | with_reducible exact hk.drew | with_reducible exact (Below.alloc hk (Nat.le_refl _) _).drew | with_reducible assumption | (with_reducible exact Below.alloc (by with_reducible assumption) (Below.size (by with_reducible assumption)) _) | (with_reducible exact below_six (by with_reducible assumption) (Nat.le_refl _) _ _ _ _ _ _)) (first | (go_at_call 60; refine (spec_copyInts _ _ _ D _ HD.out (by omega) (TS.out _ (by with_reducible assumption))).mono ?_; rintro e w3 ⟨A3, c3, rfl, ho3, hb3⟩; have hk3 := bstep (B := wq.heap.size) (a := wq) (by with_reducible assumption) hb3 (Below.size (by with_reducible assumption)); first | (have bp3 : PkAt w3 wq.heap.size 0 0 0 0 0 (.slice none 0 0) := (by have b0 : PkAt (wq.alloc (.cells #[.int .i64 0, .int .i64 0, .int .i64 0, .int .i64 0, .int .i64 0, .slice none 0 0] 27)).drew wq.heap.size 0 0 0 0 0 (.slice none 0 0) := PkAt.new wq 27 0 0 0 0 0 (.slice none 0 0); with_reducible exact b0.below_ hb3); obtain ⟨p0, p1, p2, p3, p4, p5⟩ := bp3.cells; obtain ⟨u0, u1, u2, u3, u4, u5⟩ := bp3.frees; have hl3 := bp3.lt) | skip))
    all_goals
      have hzz := HZ.out
      have hz3 := hk3.size
      first | (obtain ⟨W5, hW5⟩ : ∃ z : World, z = w3.alloc (.cells #[.int .i64 l0, .int .i64 l2, .int .i64 l4, .int .i64 l3, .int .i64 l5, .slice A3 n1 c3] 27) := ⟨_, rfl⟩; rw [← hW5]; have hk4 : Below wq.heap.size wq W5 := (by subst hW5; exact hk3.alloc hk3.size _); have bp : PkAt W5 w3.heap.size l0 l2 l4 l3 l5 (.slice A3 n1 c3) := (by subst hW5; exact PkAt.new _ _ _ _ _ _ _ _); have o5 : Out encI 1 wq.heap.size W5 A3 c3 D := (by subst hW5; exact (ho3.out.below ((Below.refl _ _).alloc (Nat.le_refl _) _)).mono (Nat.le_refl _)); obtain ⟨g4, hg4⟩ : ∃ g, g = w3.heap.size := ⟨_, rfl⟩; have hne : g4 ≠ w.heap.size := (by omega); rw [← hg4] at bp ⊢; clear hW5) | (obtain ⟨W5, hW5⟩ : ∃ z : World, z = ((((((w3.setCell ⟨wq.heap.size, 0, none⟩ (.int .i64 l0)).setCell ⟨wq.heap.size, 1, none⟩ (.int .i64 l2)).setCell ⟨wq.heap.size, 2, none⟩ (.int .i64 l4)).setCell ⟨wq.heap.size, 3, none⟩ (.int .i64 l3)).setCell ⟨wq.heap.size, 4, none⟩ (.int .i64 l5)).setCell ⟨wq.heap.size, 5, none⟩ (.slice A3 n1 c3)) := ⟨_, rfl⟩; rw [← hW5]; have hk4 : Below wq.heap.size wq W5 := (by subst hW5; exact below_six hk3 (Nat.le_refl _) _ _ _ _ _ _); have bp : PkAt W5 wq.heap.size l0 l2 l4 l3 l5 (.slice A3 n1 c3) := (by subst hW5; exact six_stores bp3); have o5 : Out encI 1 wq.heap.size W5 A3 c3 D := (by subst hW5; exact (out_six ho3.out (by simp) _ _ _ _ _ _).mono (by simp)); obtain ⟨g4, hg4⟩ : ∃ g, g = wq.heap.size := ⟨_, rfl⟩; have hne : g4 ≠ w.heap.size := (by omega); rw [← hg4] at bp ⊢; clear hW5 p0 p1 p2 p3 p4 p5 u0 u1 u2 u3 u4 u5 bp3)
      have O3 := Lib.hid (fun W (h : Below W5.heap.size W5 W) => o5.below h)
      have hwl : w.heap.size < wq.heap.size := by omega
      have hal : Below W5.heap.size W5 W5 := Below.refl _ _
      have YY := y1
      clear y0 y1 y2 y3 y4 y5
      have y1 : ∀ W, Below W5.heap.size W5 W → W.cell? ⟨b, o + 1, none⟩ = some (.int .i64 l1) := fun W h => YY W (bstep hk4 h hk4.size)
      have CC := Lib.hid (fun W (h : Below W5.heap.size W5 W) => bp.below_ h)
      have p0 : ∀ W, Below W5.heap.size W5 W → W.cell? ⟨g4, 0, none⟩ = some (.int .i64 l0) := fun W h => (CC.out W h).cells.1
      have p1 : ∀ W, Below W5.heap.size W5 W → W.cell? ⟨g4, 1, none⟩ = some (.int .i64 l2) := fun W h => (CC.out W h).cells.2.1
      have p2 : ∀ W, Below W5.heap.size W5 W → W.cell? ⟨g4, 2, none⟩ = some (.int .i64 l4) := fun W h => (CC.out W h).cells.2.2.1
      have p3 : ∀ W, Below W5.heap.size W5 W → W.cell? ⟨g4, 3, none⟩ = some (.int .i64 l3) := fun W h => (CC.out W h).cells.2.2.2.1
      have p4 : ∀ W, Below W5.heap.size W5 W → W.cell? ⟨g4, 4, none⟩ = some (.int .i64 l5) := fun W h => (CC.out W h).cells.2.2.2.2.1
      have p5 : ∀ W, Below W5.heap.size W5 W → W.cell? ⟨g4, 5, none⟩ = some (.slice A3 n1 c3) := fun W h => (CC.out W h).cells.2.2.2.2.2
      clear YY hg4 ho3 hzz
      cases r
      · have hu : unpackO l = false := by rw [HU.out, ROK.out]; rfl
        have CV := Lib.hid (fun W h => ROK.out ▸ spec_validPacket l0 l2 l4 l3 l5 D A3 c3 n1 W HD.out (by omega) h)
        have b0 : ∀ y : BW W5.heap.size W5, y.w.cell? ⟨g4, 0, none⟩ = some (.int .i64 l0) := fun y => p0 _ y.h
        have b1 : ∀ y : BW W5.heap.size W5, y.w.cell? ⟨g4, 1, none⟩ = some (.int .i64 l2) := fun y => p1 _ y.h
        have b2 : ∀ y : BW W5.heap.size W5, y.w.cell? ⟨g4, 2, none⟩ = some (.int .i64 l4) := fun y => p2 _ y.h
        have b3 : ∀ y : BW W5.heap.size W5, y.w.cell? ⟨g4, 3, none⟩ = some (.int .i64 l3) := fun y => p3 _ y.h
        have b4 : ∀ y : BW W5.heap.size W5, y.w.cell? ⟨g4, 4, none⟩ = some (.int .i64 l5) := fun y => p4 _ y.h
        have b5 : ∀ y : BW W5.heap.size W5, y.w.cell? ⟨g4, 5, none⟩ = some (.slice A3 n1 c3) := fun y => p5 _ y.h
        go_wp2_with fail
        refine wp_region_bw W5.heap.size W5 (Below.refl _ _) (by kernel_rfl) (by kernel_rfl) ?_
        repeat (go_big_quiet_step (first | (go_at_call 44; exact bwCall (Nat.le_refl _) (CV.out _ (O3.out _ (BW.h _)).1))))
        refine wpQuiet_nil ?_
        rintro _ ⟨⟨w4, hj4⟩, rfl⟩
        all_goals
          have hk5 := bstep hk4 hj4 hk4.size
          have cz := BZ.out _ hk5
          obtain ⟨z0, z1, z2, z3, z4, z5⟩ := cz.cells
          obtain ⟨f0, f1, f2, f3, f4, f5⟩ := cz.frees
          clear cz
          go_wp2
          refine bodyPost_ret (v := .tuple #[.agg #[.int .i64 0, .int .i64 0, .int .i64 0, .int .i64 0, .int .i64 0, .slice none 0 0], .bool false]) (by simp [results, Try.results37, go_sem, z0, z1, z2, z3, z4, z5]) rfl ⟨.inl ⟨hu, rfl⟩, ?_⟩
          exact below_six (hq.trans (hk5.mono hq.size)) (Nat.le_refl _) _ _ _ _ _ _
      have hok := ROK.out
      have hchk : chk ⟨l0, l2, l4, l3, l5, D⟩ = 65535 - T := by unfold chk; rw [HL0.out, HT.out]
      have HCK := Lib.hid hchk
      have hd12 : D.length ≤ 12 := (okPk_iff.1 hok).2.2.2.1
      have hm18 : m0 ≤ 18 := by rw [← HM0.out, ← HL0.out, wordsP_len]; show 6 + D.length ≤ 18; omega
      have hin : ∀ y ∈ L0, 0 ≤ y ∧ y ≤ 65535 := by rw [← HL0.out]; exact wordsP_in hok (by omega) (by omega)
      have hTr : 0 ≤ T ∧ T ≤ 65535 := by rw [← HT.out]; exact tot_range hin
      obtain ⟨hT0, hT1⟩ := hTr
      have HIN := Lib.hid hin
      have hwr : IntKind.i64.wrap (65535 - T) = 65535 - T := IntWalk.i64_in _ (by omega)
      have hq1 : unpackO l = decide (l1 = 65535 - T) := by
        rw [unpackO_spec h6 (by rw [HMK.out]; exact hok), HMK.out, HCK.out, HE1.out]
        rfl
      have HQ1 := Lib.hid hq1
      clear hq1
      clear hok hchk hin
      go_wp2
      go_region_held3 (fun W => Below W5.heap.size W5 W) (first | with_reducible exact hal.drew | with_reducible exact hal | with_reducible assumption) (first | (go_at_call 44; refine (spec_validPacket l0 l2 l4 l3 l5 D _ _ _ _ HD.out (by omega) (O3.out _ (by with_reducible assumption)).1).mono ?_; rintro e w4 ⟨rfl, hb4⟩; rw [ROK.out]; have hj4 := bstep (B := W5.heap.size) (a := W5) (by with_reducible assumption) hb4 (Below.size (by with_reducible assumption))) | (go_at_call 50; refine (spec_words l0 l2 l4 l3 l5 D _ _ _ _ HD.out (by omega) (O3.out _ (by with_reducible assumption)).1 0 L0 m0 HL0.out HM0.out).mono ?_; rintro e w6 ⟨A6, c6, rfl, ho6, hb6⟩; have hj6 := bstep (B := W5.heap.size) (a := W5) (by with_reducible assumption) hb6 (Below.size (by with_reducible assumption)); have O6 := Lib.hid ho6; clear ho6) | (go_at_call 49; refine (spec_sumOf _ _ _ L0 _ HM0.out.symm (by rw [HM0.out]; omega) HIN.out O6.out.sl).mono ?_; rintro e w7 ⟨rfl, rfl⟩; rw [HT.out]))
      all_goals
        clear hwr p0 p1 p2 p3 p4 p5 y1
        have hk7 := bstep hk4 hj6 hk4.size
        have cz := BZ.out w6 hk7
        obtain ⟨z0, z1, z2, z3, z4, z5⟩ := cz.cells
        obtain ⟨f0, f1, f2, f3, f4, f5⟩ := cz.frees
        clear cz
        by_cases he : l1 = 65535 - T
        · have hu : unpackO l = true := by rw [HQ1.out, decide_eq_true he]
          have hup : unpackP l = ⟨l0, l2, l4, l3, l5, D⟩ := by unfold unpackP; rw [if_pos hu]; exact HMK.out
          subst he
          obtain ⟨y0, y1, y2, y3, y4, y5⟩ := (CC.out _ hj6).cells
          have HU2 := Lib.hid hu
          have HUP := Lib.hid hup
          clear hu hup
          go_wp2
          have hu := HU2.out
          have hup := HUP.out
          refine bodyPost_ret (v := .tuple #[.agg #[.int .i64 l0, .int .i64 l2, .int .i64 l4, .int .i64 l3, .int .i64 l5, .slice A3 n1 c3], .bool true]) (by simp [results, Try.results37, go_sem, y0, y1, y2, y3, y4, y5, z0, z1, z2, z3, z4, z5]) rfl ⟨.inr ⟨hu, A3, c3, ?_, ?_⟩, ?_⟩
          · rw [hup]; simp only []; rw [← HD.out]
          · rw [hup]; exact (out_six (O3.out _ hj6) hwl _ _ _ _ _ _).mono hq.size
          · exact below_six (hq.trans (hk7.mono hq.size)) (Nat.le_refl _) _ _ _ _ _ _
        · have hu : unpackO l = false := by rw [HQ1.out, decide_eq_false he]
          go_wp2
          refine bodyPost_ret (v := .tuple #[.agg #[.int .i64 0, .int .i64 0, .int .i64 0, .int .i64 0, .int .i64 0, .slice none 0 0], .bool false]) (by simp [results, Try.results37, go_sem, z0, z1, z2, z3, z4, z5]) rfl ⟨.inl ⟨hu, rfl⟩, ?_⟩
          exact below_six (hq.trans (hk7.mono hq.size)) (Nat.le_refl _) _ _ _ _ _ _
end Go.Proofs.Ytnkdhpbbiilekaa
