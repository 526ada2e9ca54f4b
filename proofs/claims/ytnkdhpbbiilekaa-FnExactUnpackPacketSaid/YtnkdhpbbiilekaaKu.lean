/- UnpackPacket: the program's and the reference's, walked. -/
import Derived.Test.YtnkdhpbbiilekaaKr
namespace Go.Proofs.Ytnkdhpbbiilekaa
open Go.RowKit
theorem EqualU {A A' : Option Addr} {c c' n n' : Nat} {l l' : List Int} {w : World} {r : Bool} (hr : decide (l = l') = r) (hn : n = l.length) (hn' : n' = l'.length) (hl : l.length ≤ 2000000) (hl' : l'.length ≤ 2000000) (hs : Sl encI 1 w A c l) (hs' : Sl encI 1 w A' c' l') :
    Calls Try.prog 56 #[.slice A n c, .slice A' n' c'] w (Ret w (.bool r)) := by
  subst hn
  subst hn'
  subst hr
  exact Equal_in A A' c c' l l' w (by omega) (by omega) hs hs'
theorem unpack_short {l : List Int} (h : l.length < 6) : unpackO l = false := by unfold unpackO; rw [decide_eq_false (by omega)]; rfl
theorem unpack_long {l : List Int} (h : 18 < l.length) : unpackO l = false := by
  cases ho : unpackO l
  · rfl
  · have := (unpack_some ho).2
    have h2 := pack_len (unpackP l)
    rw [this] at h2
    omega
theorem mk_of {l : List Int} {l0 l2 l3 l4 l5 : Int} (h0 : l[0]? = some l0) (h2 : l[2]? = some l2) (h3 : l[3]? = some l3) (h4 : l[4]? = some l4) (h5 : l[5]? = some l5) : mkPk l = ⟨l0, l2, l4, l3, l5, l.drop 6⟩ := by
  unfold mkPk
  rw [h0, h2, h3, h4, h5]
  rfl
theorem unpack_is {l : List Int} {x : Pk} (h6 : 6 ≤ l.length) (hm : mkPk l = x) : unpackO l = (okPk x && decide (packV x = l)) := by
  unfold unpackO
  rw [decide_eq_true h6, hm]
  rfl
theorem at_i {l : List Int} {i : Nat} (h : i < l.length) : ∃ x, l[i]? = some x := ⟨_, List.getElem?_eq_getElem h⟩
set_option maxHeartbeats 1000000 in
theorem impl_UnpackPacket_short (A : Option Addr) (c n : Nat) (l : List Int) (w : World) (hn : n = l.length) (hl : l.length ≤ 2000000) (hcm : c ≤ 9223372036854775807) (hs : Sl encI 1 w A c l) (h6 : l.length < 6) :
    Calls Try.prog 35 #[.slice A n c] w (Ret w (.tuple #[.agg #[.int .i64 0, .int .i64 0, .int .i64 0, .int .i64 0, .int .i64 0, .slice none 0 0], .bool false])) := by
  subst hn
  obtain ⟨wq, hwq⟩ : ∃ y : World, y = w.alloc (.cells #[.int .i64 0, .int .i64 0, .int .i64 0, .int .i64 0, .int .i64 0, .slice none 0 0] 27) := ⟨_, rfl⟩
  have hq : Below w.heap.size w wq := by subst hwq; exact (Below.refl _ _).alloc (Nat.le_refl _) _
  have hzq : wq.heap.size = w.heap.size + 1 := by subst hwq; exact alloc_size _ _
  have bz : PkAt wq w.heap.size 0 0 0 0 0 (.slice none 0 0) := by subst hwq; exact PkAt.new _ _ _ _ _ _ _ _
  have BZ := Lib.hid (fun W (h : Below wq.heap.size wq W) => bz.below h (by omega))
  have SL := Lib.hid (fun W (h : Below wq.heap.size wq W) => hs.below (hq.trans (h.mono hq.size)))
  have HZ := Lib.hid hzq
  have WQ := Lib.hid hwq
  have hk : Below wq.heap.size wq wq := Below.refl _ _
  clear hwq hs bz hzq
  go_enter Try.func35, Try.ntmps35
  have cz := BZ.out wq hk
  obtain ⟨z0, z1, z2, z3, z4, z5⟩ := cz.cells
  obtain ⟨f0, f1, f2, f3, f4, f5⟩ := cz.frees
  clear cz
  go_wp2_with fail
  rw [← WQ.out]
  go_wp2
  refine bodyPost_ret (v := .tuple #[.agg #[.int .i64 0, .int .i64 0, .int .i64 0, .int .i64 0, .int .i64 0, .slice none 0 0], .bool false]) (by simp [results, Try.results35, go_sem, z0, z1, z2, z3, z4, z5]) rfl ⟨rfl, ?_⟩
  exact hq
set_option maxHeartbeats 4000000 in
theorem impl_UnpackPacket_long (A : Option Addr) (c n : Nat) (l : List Int) (w : World) (hn : n = l.length) (hl : l.length ≤ 2000000) (hcm : c ≤ 9223372036854775807) (hs : Sl encI 1 w A c l) (h6 : 6 ≤ l.length) :
    Calls Try.prog 35 #[.slice A n c] w (fun e w' => ((unpackO l = false ∧ e = .returned (.tuple #[.agg #[.int .i64 0, .int .i64 0, .int .i64 0, .int .i64 0, .int .i64 0, .slice none 0 0], .bool false])) ∨ (unpackO l = true ∧ ∃ A' c', e = .returned (.tuple #[.agg #[.int .i64 (unpackP l).k, .int .i64 (unpackP l).fa, .int .i64 (unpackP l).fp, .int .i64 (unpackP l).ta, .int .i64 (unpackP l).tp, .slice A' (unpackP l).d.length c'], .bool true]) ∧ Out encI 1 w.heap.size w' A' c' (unpackP l).d)) ∧ Below w.heap.size w w') := by
  subst hn
  obtain ⟨wq, hwq⟩ : ∃ y : World, y = w.alloc (.cells #[.int .i64 0, .int .i64 0, .int .i64 0, .int .i64 0, .int .i64 0, .slice none 0 0] 27) := ⟨_, rfl⟩
  have hq : Below w.heap.size w wq := by subst hwq; exact (Below.refl _ _).alloc (Nat.le_refl _) _
  have hzq : wq.heap.size = w.heap.size + 1 := by subst hwq; exact alloc_size _ _
  have bz : PkAt wq w.heap.size 0 0 0 0 0 (.slice none 0 0) := by subst hwq; exact PkAt.new _ _ _ _ _ _ _ _
  have BZ := Lib.hid (fun W (h : Below wq.heap.size wq W) => bz.below h (by omega))
  have SL := Lib.hid (fun W (h : Below wq.heap.size wq W) => hs.below (hq.trans (h.mono hq.size)))
  have HZ := Lib.hid hzq
  have WQ := Lib.hid hwq
  have hk : Below wq.heap.size wq wq := Below.refl _ _
  have hlc := hs.1
  obtain ⟨b, o, rfl, hbs, hrow⟩ := (hs.below hq).base (i := 0) (by omega)
  obtain ⟨l0, e0⟩ := at_i (l := l) (i := 0) (by omega)
  obtain ⟨l1, e1⟩ := at_i (l := l) (i := 1) (by omega)
  obtain ⟨l2, e2⟩ := at_i (l := l) (i := 2) (by omega)
  obtain ⟨l3, e3⟩ := at_i (l := l) (i := 3) (by omega)
  obtain ⟨l4, e4⟩ := at_i (l := l) (i := 4) (by omega)
  obtain ⟨l5, e5⟩ := at_i (l := l) (i := 5) (by omega)
  obtain ⟨D, hD⟩ : ∃ D, l.drop 6 = D := ⟨_, rfl⟩
  have hmk : mkPk l = ⟨l0, l2, l4, l3, l5, D⟩ := by rw [mk_of e0 e2 e3 e4 e5, hD]
  have HU := Lib.hid (unpack_is h6 hmk)
  have HMK := Lib.hid hmk
  obtain ⟨r, hr⟩ : ∃ r, okPk ⟨l0, l2, l4, l3, l5, D⟩ = r := ⟨_, rfl⟩
  obtain ⟨L, hL⟩ : ∃ L, packV ⟨l0, l2, l4, l3, l5, D⟩ = L := ⟨_, rfl⟩
  obtain ⟨m, hm⟩ : ∃ m, L.length = m := ⟨_, rfl⟩
  obtain ⟨q, hqq⟩ : ∃ q, decide (L = l) = q := ⟨_, rfl⟩
  have hm18 : m ≤ 18 := by rw [← hm, ← hL]; exact pack_len _
  have ROK := Lib.hid hr
  have HL := Lib.hid hL
  have HM := Lib.hid hm
  have HQ := Lib.hid hqq
  clear hL hm hqq
  have y0 : ∀ W, Below wq.heap.size wq W → W.cell? ⟨b, o, none⟩ = some (.int .i64 l0) := fun W h => by simpa using hrow.inn h hbs e0
  have y1 : ∀ W, Below wq.heap.size wq W → W.cell? ⟨b, o + 1, none⟩ = some (.int .i64 l1) := fun W h => hrow.inn h hbs e1
  have y2 : ∀ W, Below wq.heap.size wq W → W.cell? ⟨b, o + 2, none⟩ = some (.int .i64 l2) := fun W h => hrow.inn h hbs e2
  have y3 : ∀ W, Below wq.heap.size wq W → W.cell? ⟨b, o + 3, none⟩ = some (.int .i64 l3) := fun W h => hrow.inn h hbs e3
  have y4 : ∀ W, Below wq.heap.size wq W → W.cell? ⟨b, o + 4, none⟩ = some (.int .i64 l4) := fun W h => hrow.inn h hbs e4
  have y5 : ∀ W, Below wq.heap.size wq W → W.cell? ⟨b, o + 5, none⟩ = some (.int .i64 l5) := fun W h => hrow.inn h hbs e5
  obtain ⟨n1, hn1⟩ : ∃ n1, l.length = n1 + 6 := ⟨l.length - 6, by omega⟩
  obtain ⟨cc, rfl⟩ : ∃ cc, c = cc + 6 := ⟨c - 6, by omega⟩
  have hDn : n1 = D.length := by rw [← hD, List.length_drop]; omega
  have TS0 := Lib.hid (fun W (h : Below wq.heap.size wq W) => (show Sl encI 1 W (if cc + 6 = 6 then some ⟨b, o, none⟩ else some ⟨b, o + 6, none⟩) cc D by
    have := (SL.out W h).drop 6 h6
    rw [hD] at this
    simpa [Addr.add] using this))
  have HD := Lib.hid hDn
  have HN := Lib.hid hn1.symm
  have hd2 : D.length ≤ 2000000 := by omega
  have hn1c : n1 ≤ cc := by omega
  clear hwq hs bz hzq hrow e0 e1 e2 e3 e4 e5 hD hmk hr hDn
  rcases Nat.eq_zero_or_pos cc with hz1 | hz1
  · subst hz1
    obtain rfl : n1 = 0 := by omega
    have TS := Lib.hid (fun W (h : Below wq.heap.size wq W) => (show Sl encI 1 W (some ⟨b, o, none⟩) 0 D by have := TS0.out W h; simpa using this))
    go_enter Try.func35, Try.ntmps35
    go_wp2
    rw [← WQ.out]
    go_region_held3 (fun W => Below wq.heap.size wq W) (first | with_reducible exact hk.drew | with_reducible exact (Below.alloc hk (Nat.le_refl _) _).drew | with_reducible assumption | (with_reducible exact Below.alloc (by with_reducible assumption) (Below.size (by with_reducible assumption)) _) | (with_reducible exact below_six (by with_reducible assumption) (Nat.le_refl _) _ _ _ _ _ _)) (first | (go_at_call 55; refine (clone_in _ _ _ D _ HD.out (by omega) (TS.out _ (by with_reducible assumption))).mono ?_; rintro e w3 ⟨A3, rfl, ho3, hb3⟩; have hk3 := bstep (B := wq.heap.size) (a := wq) (by with_reducible assumption) hb3 (Below.size (by with_reducible assumption)); first | (have bp3 : PkAt w3 wq.heap.size 0 0 0 0 0 (.slice none 0 0) := (by have b0 : PkAt (wq.alloc (.cells #[.int .i64 0, .int .i64 0, .int .i64 0, .int .i64 0, .int .i64 0, .slice none 0 0] 27)).drew wq.heap.size 0 0 0 0 0 (.slice none 0 0) := PkAt.new wq 27 0 0 0 0 0 (.slice none 0 0); with_reducible exact b0.below_ hb3); obtain ⟨p0, p1, p2, p3, p4, p5⟩ := bp3.cells; obtain ⟨u0, u1, u2, u3, u4, u5⟩ := bp3.frees; have hl3 := bp3.lt) | skip))
    all_goals
      have hzz := HZ.out
      have hz3 := hk3.size
      first | (obtain ⟨W5, hW5⟩ : ∃ z : World, z = w3.alloc (.cells #[.int .i64 l0, .int .i64 l2, .int .i64 l4, .int .i64 l3, .int .i64 l5, .slice A3 0 0] 27) := ⟨_, rfl⟩; rw [← hW5]; have hk4 : Below wq.heap.size wq W5 := (by subst hW5; exact hk3.alloc hk3.size _); have bp : PkAt W5 w3.heap.size l0 l2 l4 l3 l5 (.slice A3 0 0) := (by subst hW5; exact PkAt.new _ _ _ _ _ _ _ _); have o5 : Out encI 1 wq.heap.size W5 A3 0 D := (by subst hW5; exact (ho3.below ((Below.refl _ _).alloc (Nat.le_refl _) _)).mono (Nat.le_refl _)); obtain ⟨g4, hg4⟩ : ∃ g, g = w3.heap.size := ⟨_, rfl⟩; have hne : g4 ≠ w.heap.size := (by omega); rw [← hg4] at bp ⊢; clear hW5) | (obtain ⟨W5, hW5⟩ : ∃ z : World, z = ((((((w3.setCell ⟨wq.heap.size, 0, none⟩ (.int .i64 l0)).setCell ⟨wq.heap.size, 1, none⟩ (.int .i64 l2)).setCell ⟨wq.heap.size, 2, none⟩ (.int .i64 l4)).setCell ⟨wq.heap.size, 3, none⟩ (.int .i64 l3)).setCell ⟨wq.heap.size, 4, none⟩ (.int .i64 l5)).setCell ⟨wq.heap.size, 5, none⟩ (.slice A3 0 0)) := ⟨_, rfl⟩; rw [← hW5]; have hk4 : Below wq.heap.size wq W5 := (by subst hW5; exact below_six hk3 (Nat.le_refl _) _ _ _ _ _ _); have bp : PkAt W5 wq.heap.size l0 l2 l4 l3 l5 (.slice A3 0 0) := (by subst hW5; exact six_stores bp3); have o5 : Out encI 1 wq.heap.size W5 A3 0 D := (by subst hW5; exact (out_six ho3 (by simp) _ _ _ _ _ _).mono (by simp)); obtain ⟨g4, hg4⟩ : ∃ g, g = wq.heap.size := ⟨_, rfl⟩; have hne : g4 ≠ w.heap.size := (by omega); rw [← hg4] at bp ⊢; clear hW5 p0 p1 p2 p3 p4 p5 u0 u1 u2 u3 u4 u5 bp3)
      have O3 := Lib.hid (fun W (h : Below W5.heap.size W5 W) => o5.below h)
      have hwl : w.heap.size < wq.heap.size := by omega
      have hal : Below W5.heap.size W5 W5 := Below.refl _ _
      obtain ⟨y0, y1, y2, y3, y4, y5⟩ := bp.cells
      clear ho3 hzz hg4
      go_wp2_with fail
      refine (impl_ValidPacket l0 l2 l4 l3 l5 D _ _ _ _ HD.out (by omega) (O3.out _ hal).1).mono ?_
      rintro e w4 ⟨rfl, hb4⟩
      have hk5 := bstep hk4 hb4 hk4.size
      have hj5 := bstep hal hb4 hal.size
      have bp4 := bp.below_ hb4
      clear y0 y1 y2 y3 y4 y5
      rw [ROK.out]
      cases r
      · have hu : unpackO l = false := by rw [HU.out, ROK.out]; rfl
        have cz := BZ.out w4 hk5
        obtain ⟨z0, z1, z2, z3, z4, z5⟩ := cz.cells
        obtain ⟨f0, f1, f2, f3, f4, f5⟩ := cz.frees
        clear cz
        go_wp2
        refine bodyPost_ret (v := .tuple #[.agg #[.int .i64 0, .int .i64 0, .int .i64 0, .int .i64 0, .int .i64 0, .slice none 0 0], .bool false]) (by simp [results, Try.results35, go_sem, z0, z1, z2, z3, z4, z5]) rfl ⟨.inl ⟨hu, rfl⟩, ?_⟩
        exact below_six (hq.trans (hk5.mono hq.size)) (Nat.le_refl _) _ _ _ _ _ _
      obtain ⟨y0, y1, y2, y3, y4, y5⟩ := bp4.cells
      go_wp2_with fail
      refine (impl_PackPacket l0 l2 l4 l3 l5 D _ _ _ _ HD.out (by omega) (O3.out _ hj5).1 L m true ROK.out HL.out HM.out).mono ?_
      rintro e w5 ⟨A5, rfl, _, ho5, hb5⟩
      have hk6 := bstep hk5 hb5 hk5.size
      have hj6 := bstep hj5 hb5 hj5.size
      have bp5 := bp4.below_ hb5
      clear y0 y1 y2 y3 y4 y5
      go_wp2_with fail
      refine (EqualU (r := q) HQ.out HM.out.symm HN.out (by rw [HM.out]; omega) (by omega) ho5.1 (SL.out _ hk6)).mono ?_
      rintro e w6 ⟨rfl, hb6⟩
      have hk7 := bstep hk6 hb6 hk6.size
      have hj7 := bstep hj6 hb6 hj6.size
      have bp6 := bp5.below_ hb6
      cases q
      · have hu : unpackO l = false := by rw [HU.out, ROK.out, HL.out, HQ.out]; rfl
        have cz := BZ.out w6 hk7
        obtain ⟨z0, z1, z2, z3, z4, z5⟩ := cz.cells
        obtain ⟨f0, f1, f2, f3, f4, f5⟩ := cz.frees
        clear cz
        go_wp2
        refine bodyPost_ret (v := .tuple #[.agg #[.int .i64 0, .int .i64 0, .int .i64 0, .int .i64 0, .int .i64 0, .slice none 0 0], .bool false]) (by simp [results, Try.results35, go_sem, z0, z1, z2, z3, z4, z5]) rfl ⟨.inl ⟨hu, rfl⟩, ?_⟩
        exact below_six (hq.trans (hk7.mono hq.size)) (Nat.le_refl _) _ _ _ _ _ _
      have hu : unpackO l = true := by rw [HU.out, ROK.out, HL.out, HQ.out]; rfl
      have hup : unpackP l = ⟨l0, l2, l4, l3, l5, D⟩ := by unfold unpackP; rw [if_pos hu]; exact HMK.out
      obtain ⟨y0, y1, y2, y3, y4, y5⟩ := bp6.cells
      have cz := BZ.out w6 hk7
      obtain ⟨z0, z1, z2, z3, z4, z5⟩ := cz.cells
      obtain ⟨f0, f1, f2, f3, f4, f5⟩ := cz.frees
      clear cz
      go_wp2
      refine bodyPost_ret (v := .tuple #[.agg #[.int .i64 l0, .int .i64 l2, .int .i64 l4, .int .i64 l3, .int .i64 l5, .slice A3 0 0], .bool true]) (by simp [results, Try.results35, go_sem, y0, y1, y2, y3, y4, y5, z0, z1, z2, z3, z4, z5]) rfl ⟨.inr ⟨hu, A3, 0, ?_, ?_⟩, ?_⟩
      · rw [hup]; simp only []; rw [← HD.out]
      · rw [hup]; exact (out_six (O3.out _ hj7) hwl _ _ _ _ _ _).mono hq.size
      · exact below_six (hq.trans (hk7.mono hq.size)) (Nat.le_refl _) _ _ _ _ _ _
  · have TS := Lib.hid (fun W (h : Below wq.heap.size wq W) => (show Sl encI 1 W (some ⟨b, o + 6, none⟩) cc D by have := TS0.out W h; rwa [if_neg (by omega)] at this))
    have q1 : 6 ≤ n1 + 6 := by omega
    have q2 : (6 : Int) ≤ (n1 : Int) + 6 := by omega
    have q3 : ¬ cc + 6 = 6 := by omega
    have q4 : ¬ cc = 0 := by omega
    have i0 : (0 : Int) < (n1 : Int) + 6 := by omega
    have i1 : (1 : Int) < (n1 : Int) + 6 := by omega
    have i2 : (2 : Int) < (n1 : Int) + 6 := by omega
    have i3 : (3 : Int) < (n1 : Int) + 6 := by omega
    have i4 : (4 : Int) < (n1 : Int) + 6 := by omega
    have i5 : (5 : Int) < (n1 : Int) + 6 := by omega
    have j0 : 0 < n1 + 6 := by omega
    have j1 : 1 < n1 + 6 := by omega
    have j2 : 2 < n1 + 6 := by omega
    have j3 : 3 < n1 + 6 := by omega
    have j4 : 4 < n1 + 6 := by omega
    have j5 : 5 < n1 + 6 := by omega
    go_enter Try.func35, Try.ntmps35
    go_wp2
    rw [← WQ.out]
    go_region_held3 (fun W => Below wq.heap.size wq W) (first | with_reducible exact hk.drew | with_reducible exact (Below.alloc hk (Nat.le_refl _) _).drew | with_reducible assumption | (with_reducible exact Below.alloc (by with_reducible assumption) (Below.size (by with_reducible assumption)) _) | (with_reducible exact below_six (by with_reducible assumption) (Nat.le_refl _) _ _ _ _ _ _)) (first | (go_at_call 55; refine (clone_in _ _ _ D _ HD.out (by omega) (TS.out _ (by with_reducible assumption))).mono ?_; rintro e w3 ⟨A3, rfl, ho3, hb3⟩; have hk3 := bstep (B := wq.heap.size) (a := wq) (by with_reducible assumption) hb3 (Below.size (by with_reducible assumption)); first | (have bp3 : PkAt w3 wq.heap.size 0 0 0 0 0 (.slice none 0 0) := (by have b0 : PkAt (wq.alloc (.cells #[.int .i64 0, .int .i64 0, .int .i64 0, .int .i64 0, .int .i64 0, .slice none 0 0] 27)).drew wq.heap.size 0 0 0 0 0 (.slice none 0 0) := PkAt.new wq 27 0 0 0 0 0 (.slice none 0 0); with_reducible exact b0.below_ hb3); obtain ⟨p0, p1, p2, p3, p4, p5⟩ := bp3.cells; obtain ⟨u0, u1, u2, u3, u4, u5⟩ := bp3.frees; have hl3 := bp3.lt) | skip))
    all_goals
      have hzz := HZ.out
      have hz3 := hk3.size
      first | (obtain ⟨W5, hW5⟩ : ∃ z : World, z = w3.alloc (.cells #[.int .i64 l0, .int .i64 l2, .int .i64 l4, .int .i64 l3, .int .i64 l5, .slice A3 n1 n1] 27) := ⟨_, rfl⟩; rw [← hW5]; have hk4 : Below wq.heap.size wq W5 := (by subst hW5; exact hk3.alloc hk3.size _); have bp : PkAt W5 w3.heap.size l0 l2 l4 l3 l5 (.slice A3 n1 n1) := (by subst hW5; exact PkAt.new _ _ _ _ _ _ _ _); have o5 : Out encI 1 wq.heap.size W5 A3 n1 D := (by subst hW5; exact (ho3.below ((Below.refl _ _).alloc (Nat.le_refl _) _)).mono (Nat.le_refl _)); obtain ⟨g4, hg4⟩ : ∃ g, g = w3.heap.size := ⟨_, rfl⟩; have hne : g4 ≠ w.heap.size := (by omega); rw [← hg4] at bp ⊢; clear hW5) | (obtain ⟨W5, hW5⟩ : ∃ z : World, z = ((((((w3.setCell ⟨wq.heap.size, 0, none⟩ (.int .i64 l0)).setCell ⟨wq.heap.size, 1, none⟩ (.int .i64 l2)).setCell ⟨wq.heap.size, 2, none⟩ (.int .i64 l4)).setCell ⟨wq.heap.size, 3, none⟩ (.int .i64 l3)).setCell ⟨wq.heap.size, 4, none⟩ (.int .i64 l5)).setCell ⟨wq.heap.size, 5, none⟩ (.slice A3 n1 n1)) := ⟨_, rfl⟩; rw [← hW5]; have hk4 : Below wq.heap.size wq W5 := (by subst hW5; exact below_six hk3 (Nat.le_refl _) _ _ _ _ _ _); have bp : PkAt W5 wq.heap.size l0 l2 l4 l3 l5 (.slice A3 n1 n1) := (by subst hW5; exact six_stores bp3); have o5 : Out encI 1 wq.heap.size W5 A3 n1 D := (by subst hW5; exact (out_six ho3 (by simp) _ _ _ _ _ _).mono (by simp)); obtain ⟨g4, hg4⟩ : ∃ g, g = wq.heap.size := ⟨_, rfl⟩; have hne : g4 ≠ w.heap.size := (by omega); rw [← hg4] at bp ⊢; clear hW5 p0 p1 p2 p3 p4 p5 u0 u1 u2 u3 u4 u5 bp3)
      have O3 := Lib.hid (fun W (h : Below W5.heap.size W5 W) => o5.below h)
      have hwl : w.heap.size < wq.heap.size := by omega
      have hal : Below W5.heap.size W5 W5 := Below.refl _ _
      obtain ⟨y0, y1, y2, y3, y4, y5⟩ := bp.cells
      clear ho3 hzz hg4
      go_wp2_with fail
      refine (impl_ValidPacket l0 l2 l4 l3 l5 D _ _ _ _ HD.out (by omega) (O3.out _ hal).1).mono ?_
      rintro e w4 ⟨rfl, hb4⟩
      have hk5 := bstep hk4 hb4 hk4.size
      have hj5 := bstep hal hb4 hal.size
      have bp4 := bp.below_ hb4
      clear y0 y1 y2 y3 y4 y5
      rw [ROK.out]
      cases r
      · have hu : unpackO l = false := by rw [HU.out, ROK.out]; rfl
        have cz := BZ.out w4 hk5
        obtain ⟨z0, z1, z2, z3, z4, z5⟩ := cz.cells
        obtain ⟨f0, f1, f2, f3, f4, f5⟩ := cz.frees
        clear cz
        go_wp2
        refine bodyPost_ret (v := .tuple #[.agg #[.int .i64 0, .int .i64 0, .int .i64 0, .int .i64 0, .int .i64 0, .slice none 0 0], .bool false]) (by simp [results, Try.results35, go_sem, z0, z1, z2, z3, z4, z5]) rfl ⟨.inl ⟨hu, rfl⟩, ?_⟩
        exact below_six (hq.trans (hk5.mono hq.size)) (Nat.le_refl _) _ _ _ _ _ _
      obtain ⟨y0, y1, y2, y3, y4, y5⟩ := bp4.cells
      go_wp2_with fail
      refine (impl_PackPacket l0 l2 l4 l3 l5 D _ _ _ _ HD.out (by omega) (O3.out _ hj5).1 L m true ROK.out HL.out HM.out).mono ?_
      rintro e w5 ⟨A5, rfl, _, ho5, hb5⟩
      have hk6 := bstep hk5 hb5 hk5.size
      have hj6 := bstep hj5 hb5 hj5.size
      have bp5 := bp4.below_ hb5
      clear y0 y1 y2 y3 y4 y5
      go_wp2_with fail
      refine (EqualU (r := q) HQ.out HM.out.symm HN.out (by rw [HM.out]; omega) (by omega) ho5.1 (SL.out _ hk6)).mono ?_
      rintro e w6 ⟨rfl, hb6⟩
      have hk7 := bstep hk6 hb6 hk6.size
      have hj7 := bstep hj6 hb6 hj6.size
      have bp6 := bp5.below_ hb6
      cases q
      · have hu : unpackO l = false := by rw [HU.out, ROK.out, HL.out, HQ.out]; rfl
        have cz := BZ.out w6 hk7
        obtain ⟨z0, z1, z2, z3, z4, z5⟩ := cz.cells
        obtain ⟨f0, f1, f2, f3, f4, f5⟩ := cz.frees
        clear cz
        go_wp2
        refine bodyPost_ret (v := .tuple #[.agg #[.int .i64 0, .int .i64 0, .int .i64 0, .int .i64 0, .int .i64 0, .slice none 0 0], .bool false]) (by simp [results, Try.results35, go_sem, z0, z1, z2, z3, z4, z5]) rfl ⟨.inl ⟨hu, rfl⟩, ?_⟩
        exact below_six (hq.trans (hk7.mono hq.size)) (Nat.le_refl _) _ _ _ _ _ _
      have hu : unpackO l = true := by rw [HU.out, ROK.out, HL.out, HQ.out]; rfl
      have hup : unpackP l = ⟨l0, l2, l4, l3, l5, D⟩ := by unfold unpackP; rw [if_pos hu]; exact HMK.out
      obtain ⟨y0, y1, y2, y3, y4, y5⟩ := bp6.cells
      have cz := BZ.out w6 hk7
      obtain ⟨z0, z1, z2, z3, z4, z5⟩ := cz.cells
      obtain ⟨f0, f1, f2, f3, f4, f5⟩ := cz.frees
      clear cz
      go_wp2
      refine bodyPost_ret (v := .tuple #[.agg #[.int .i64 l0, .int .i64 l2, .int .i64 l4, .int .i64 l3, .int .i64 l5, .slice A3 n1 n1], .bool true]) (by simp [results, Try.results35, go_sem, y0, y1, y2, y3, y4, y5, z0, z1, z2, z3, z4, z5]) rfl ⟨.inr ⟨hu, A3, n1, ?_, ?_⟩, ?_⟩
      · rw [hup]; simp only []; rw [← HD.out]
      · rw [hup]; exact (out_six (O3.out _ hj7) hwl _ _ _ _ _ _).mono hq.size
      · exact below_six (hq.trans (hk7.mono hq.size)) (Nat.le_refl _) _ _ _ _ _ _
end Go.Proofs.Ytnkdhpbbiilekaa
