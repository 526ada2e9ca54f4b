/- Copies of gates, walked. -/
import Derived.Test.YtlgfmnognhojnaaGc
namespace Go.Proofs.Ytlgfmnognhojnaa
open Go.RowKit
theorem below_eight {w0 w : World} {B b : Nat} (h : Below B w0 w) (hb : B ≤ b) (u0 u1 u2 u3 u4 u5 u6 u7 : Value) : Below B w0 ((((((((w.setCell ⟨b, 0, none⟩ u0).setCell ⟨b, 1, none⟩ u1).setCell ⟨b, 2, none⟩ u2).setCell ⟨b, 3, none⟩ u3).setCell ⟨b, 4, none⟩ u4).setCell ⟨b, 5, none⟩ u5).setCell ⟨b, 6, none⟩ u6).setCell ⟨b, 7, none⟩ u7) :=
  ((((((((h.setCell hb _).setCell hb _).setCell hb _).setCell hb _).setCell hb _).setCell hb _).setCell hb _).setCell hb _)
theorem eight_stores {w : World} {b : Nat} {u0 u1 u2 u3 u4 u5 u6 u7 v0 v1 v2 v3 v4 v5 v6 v7 : Value} (h : BlAt w b #[v0, v1, v2, v3, v4, v5, v6, v7]) : BlAt ((((((((w.setCell ⟨b, 0, none⟩ u0).setCell ⟨b, 1, none⟩ u1).setCell ⟨b, 2, none⟩ u2).setCell ⟨b, 3, none⟩ u3).setCell ⟨b, 4, none⟩ u4).setCell ⟨b, 5, none⟩ u5).setCell ⟨b, 6, none⟩ u6).setCell ⟨b, 7, none⟩ u7) b #[u0, u1, u2, u3, u4, u5, u6, u7] :=
  ((((((((h.set (cs := #[v0, v1, v2, v3, v4, v5, v6, v7]) (cs' := #[u0, v1, v2, v3, v4, v5, v6, v7]) 0 u0 rfl).set (cs := #[u0, v1, v2, v3, v4, v5, v6, v7]) (cs' := #[u0, u1, v2, v3, v4, v5, v6, v7]) 1 u1 rfl).set (cs := #[u0, u1, v2, v3, v4, v5, v6, v7]) (cs' := #[u0, u1, u2, v3, v4, v5, v6, v7]) 2 u2 rfl).set (cs := #[u0, u1, u2, v3, v4, v5, v6, v7]) (cs' := #[u0, u1, u2, u3, v4, v5, v6, v7]) 3 u3 rfl).set (cs := #[u0, u1, u2, u3, v4, v5, v6, v7]) (cs' := #[u0, u1, u2, u3, u4, v5, v6, v7]) 4 u4 rfl).set (cs := #[u0, u1, u2, u3, u4, v5, v6, v7]) (cs' := #[u0, u1, u2, u3, u4, u5, v6, v7]) 5 u5 rfl).set (cs := #[u0, u1, u2, u3, u4, u5, v6, v7]) (cs' := #[u0, u1, u2, u3, u4, u5, u6, v7]) 6 u6 rfl).set (cs := #[u0, u1, u2, u3, u4, u5, u6, v7]) (cs' := #[u0, u1, u2, u3, u4, u5, u6, u7]) 7 u7 rfl)
theorem Out.farN {α : Type} {enc : α → List Value} {k B c : Nat} {w : World} {A : Option Addr} {l : List α} (h : Out enc k B w A c l) {p : Addr} (hp : ∀ g, Go.Proofs.Ytlgfmnognhojnaa.blk A = some g → l ≠ [] → p.block ≠ g) (u : Value) : Out enc k B (w.setCell p u) A c l := by
  rcases Nat.eq_zero_or_pos l.length with h0 | h0
  · obtain rfl := List.eq_nil_of_length_eq_zero h0
    exact ⟨Sl.nil h.1.1, Fr.nil⟩
  · obtain ⟨b, o, e, hB, hlt, hf⟩ := h.2 h0
    subst e
    obtain ⟨b', o', e', hb', hrow⟩ := h.1.base h0
    injection e' with e'
    injection e' with e1 e2
    subst e1
    subst e2
    have hpb := hp b rfl (List.ne_nil_of_length_pos h0)
    have hbb : (w.setCell p u).heap[b]? = w.heap[b]? := Below.heap_setCell _ _ _ _ (Ne.symm hpb)
    refine ⟨⟨h.1.1, fun _ => ⟨b, o, rfl, by simpa using hb', fun i x hi j v hv => ?_⟩⟩, fun _ => ⟨b, o, rfl, hB, by simpa using hlt, fun q => by rw [← hf q]; unfold World.frozen?; rw [hbb]⟩⟩
    have := hrow i x hi j v hv
    unfold World.cell? at this ⊢
    rw [hbb]
    exact this
theorem Out.span {α : Type} {enc : α → List Value} {k B c : Nat} {w : World} {A : Option Addr} {l : List α} (h : Out enc k B w A c l) : ∀ g, Go.Proofs.Ytlgfmnognhojnaa.blk A = some g → l ≠ [] → B ≤ g ∧ g < w.heap.size := by
  intro g hg hne
  have h0 : 0 < l.length := List.length_pos_iff.2 hne
  refine ⟨h.2.blkB h0 g hg, ?_⟩
  obtain ⟨b, o, rfl, hb, _⟩ := h.1.base h0
  simp [Go.Proofs.Ytlgfmnognhojnaa.blk] at hg
  omega
theorem Out.farB {α : Type} {enc : α → List Value} {k B c : Nat} {w : World} {A : Option Addr} {l : List α} (h : Out enc k B w A c l) {p : Addr} (hp : p.block < B) (u : Value) : Out enc k B (w.setCell p u) A c l :=
  h.farN (fun g hg hne => by have := (h.span g hg hne).1; omega) u
theorem out_eightB {α : Type} {enc : α → List Value} {k B c b : Nat} {w : World} {A : Option Addr} {l : List α} (h : Out enc k B w A c l) (hb : b < B) (u0 u1 u2 u3 u4 u5 u6 u7 : Value) : Out enc k B ((((((((w.setCell ⟨b, 0, none⟩ u0).setCell ⟨b, 1, none⟩ u1).setCell ⟨b, 2, none⟩ u2).setCell ⟨b, 3, none⟩ u3).setCell ⟨b, 4, none⟩ u4).setCell ⟨b, 5, none⟩ u5).setCell ⟨b, 6, none⟩ u6).setCell ⟨b, 7, none⟩ u7) A c l :=
  ((((((((h.farB hb _).farB hb _).farB hb _).farB hb _).farB hb _).farB hb _).farB hb _).farB hb _)
set_option maxHeartbeats 4000000 in
theorem spec_copyGate (b n o f h t : Int) (T : List Mp) (C : List Ct) (At Ac : Option Addr) (ct cc nt nc : Nat) (w : World) (hnt : nt = T.length) (hnc : nc = C.length) (hlT : T.length ≤ 2000000) (hlC : C.length ≤ 2000000) (hT : Sl encM 4 w At ct T) (hC : Sl encC 3 w Ac cc C) :
    Calls Try.prog 78 #[.agg #[.int .i64 b, .int .i64 n, .int .i64 o, .slice At nt ct, .slice Ac nc cc, .int .i64 f, .int .i64 h, .int .i64 t]] w (fun e w' => ∃ A1 c1 A2 c2, e = .returned (.agg #[.int .i64 b, .int .i64 n, .int .i64 o, .slice A1 nt c1, .slice A2 nc c2, .int .i64 f, .int .i64 h, .int .i64 t]) ∧ Out encM 4 w.heap.size w' A1 c1 T ∧ Out encC 3 w.heap.size w' A2 c2 C ∧ Below w.heap.size w w') := by
  subst hnt
  subst hnc
  obtain ⟨wq, hwq⟩ : ∃ y, y = (w.alloc (.cells #[.int .i64 b, .int .i64 n, .int .i64 o, .slice At T.length ct, .slice Ac C.length cc, .int .i64 f, .int .i64 h, .int .i64 t] 28)).alloc (.cells #[.int .i64 0, .int .i64 0, .int .i64 0, .slice none 0 0, .slice none 0 0, .int .i64 0, .int .i64 0, .int .i64 0] 28) := ⟨_, rfl⟩
  have hq : Below w.heap.size w wq := by subst hwq; exact ((Below.refl _ _).alloc (Nat.le_refl _) _).alloc (by simp) _
  have hzq : wq.heap.size = w.heap.size + 1 + 1 := by subst hwq; simp
  have bg : BlAt wq w.heap.size #[.int .i64 b, .int .i64 n, .int .i64 o, .slice At T.length ct, .slice Ac C.length cc, .int .i64 f, .int .i64 h, .int .i64 t] := by subst hwq; exact (BlAt.new _ _ _).alloc _
  have bz : BlAt wq (w.heap.size + 1) #[.int .i64 0, .int .i64 0, .int .i64 0, .slice none 0 0, .slice none 0 0, .int .i64 0, .int .i64 0, .int .i64 0] := by
    subst hwq
    have := BlAt.new (w.alloc (.cells #[.int .i64 b, .int .i64 n, .int .i64 o, .slice At T.length ct, .slice Ac C.length cc, .int .i64 f, .int .i64 h, .int .i64 t] 28)) 28 #[.int .i64 0, .int .i64 0, .int .i64 0, .slice none 0 0, .slice none 0 0, .int .i64 0, .int .i64 0, .int .i64 0]
    rw [alloc_size] at this
    exact this
  have BG := Lib.hid (fun W (h : Below wq.heap.size wq W) => bg.below h (by omega))
  have BZ := Lib.hid (fun W (h : Below wq.heap.size wq W) => bz.below h (by omega))
  have ST := Lib.hid (fun W (h : Below wq.heap.size wq W) => hT.below (hq.trans (h.mono hq.size)))
  have SC := Lib.hid (fun W (h : Below wq.heap.size wq W) => hC.below (hq.trans (h.mono hq.size)))
  have WQ := Lib.hid hwq
  have hk0 : Below wq.heap.size wq wq := Below.refl _ _
  have HZ := Lib.hid hzq
  have hB1 : Below wq.heap.size wq (wq.alloc (.cells #[] 64)) := (Below.refl _ _).alloc (Nat.le_refl _) _
  have EM := Lib.hid (show Ow encM 4 64 wq.heap.size (wq.alloc (.cells #[] 64)) (some ⟨w.heap.size + 1 + 1, 0, none⟩) 0 [] by have := Ow.empty (enc := encM) (k := 4) (e := 64) (B := wq.heap.size) wq (Nat.le_refl _); rw [hzq] at this ⊢; exact this)
  have ST1 := Lib.hid (ST.out _ hB1)
  have HB1 := Lib.hid hB1
  clear hwq hT bg bz hzq hB1
  go_enter Try.func78, Try.ntmps78
  go_wp2_with (first | (at_builtin; rw [← WQ.out]; refine wpList_app elM rfl (.tmp 3) (.tmp 5) rfl wq.heap.size _ _ _ [] rfl rfl EM.out _ _ _ T rfl rfl ST1.out (by simp; omega) (by decide) HB1.out.size ?_; intro A1 c1 w2 ho2 hg2 _; rw [List.nil_append] at ho2 ⊢; have hb2 : Below wq.heap.size wq w2 := below_app HB1.out hg2 HB1.out.size (fun g h => (EM.out.blk g h).1); have b2 := BG.out w2 hb2; have O2 := Lib.hid ho2; obtain ⟨x0, x1, x2, x3, x4, x5, x6, x7⟩ := gcells b2; have q3 := b2.free 3; have l2 := b2.lt; clear ho2) | (at_builtin; obtain ⟨w3, hw3⟩ : ∃ y, y = w2.setCell ⟨w.heap.size, 3, none⟩ (.slice A1 T.length c1) := ⟨_, rfl⟩; have hs1 : w.heap.size < wq.heap.size := (by have := HZ.out; omega); have hs2 : w.heap.size + 1 < wq.heap.size := (by have := HZ.out; omega); have hz3 : w3.heap.size = w2.heap.size := (by subst hw3; simp); have b3 : BlAt w3 w.heap.size #[.int .i64 b, .int .i64 n, .int .i64 o, .slice A1 T.length c1, .slice Ac C.length cc, .int .i64 f, .int .i64 h, .int .i64 t] := (by subst hw3; exact b2.set 3 _ rfl); have z3 : BlAt w3 (w.heap.size + 1) #[.int .i64 0, .int .i64 0, .int .i64 0, .slice none 0 0, .slice none 0 0, .int .i64 0, .int .i64 0, .int .i64 0] := (by subst hw3; exact (BZ.out w2 hb2).far (by simp) _); have O3 := Lib.hid (show Out encM 4 wq.heap.size w3 A1 c1 T from (by subst hw3; exact O2.out.out.farB hs1 _)); have hb3 : Below w.heap.size w w3 := (by subst hw3; exact (hq.trans (hb2.mono hq.size)).setCell (Nat.le_refl _) _); have SC3 := Lib.hid (hC.below hb3); have hB3 : Below w3.heap.size w3 (w3.alloc (.cells #[] 75)) := (Below.refl _ _).alloc (Nat.le_refl _) _; have HB3 := Lib.hid hB3; have EC3 := Lib.hid (show Ow encC 3 75 w3.heap.size (w3.alloc (.cells #[] 75)) (some ⟨w2.heap.size, 0, none⟩) 0 [] from (by have := Ow.empty (enc := encC) (k := 3) (e := 75) (B := w3.heap.size) w3 (Nat.le_refl _); rw [hz3] at this ⊢; exact this)); have SC4 := Lib.hid (SC3.out.below hB3); have W3 := Lib.hid hw3; have l3 : wq.heap.size ≤ w3.heap.size := (by rw [hz3]; exact hb2.size); have B3 := Lib.hid b3; have Z3 := Lib.hid z3; clear x0 x1 x2 x3 x4 x5 x6 x7 q3 hz3 hw3 hB3 b2 b3 z3 hC; rw [← W3.out]; refine wpList_app elC rfl (.tmp 8) (.tmp 10) rfl w3.heap.size _ _ _ [] rfl rfl EC3.out _ _ _ C rfl rfl SC4.out (by simp; omega) (by decide) HB3.out.size ?_; intro A2 c2 w4 ho4 hg4 _; rw [List.nil_append] at ho4 ⊢; have hb4 : Below w3.heap.size w3 w4 := below_app HB3.out hg4 HB3.out.size (fun g h => (EC3.out.blk g h).1); have b4 := B3.out.below_ hb4; have z4 := Z3.out.below_ hb4; have O4 := Lib.hid ho4; obtain ⟨x0, x1, x2, x3, x4, x5, x6, x7⟩ := gcells b4; obtain ⟨y0, y1, y2, y3, y4, y5, y6, y7⟩ := gcells z4; have q4 := b4.free 4; obtain ⟨f0, f1, f2, f3, f4, f5, f6, f7⟩ := gfrees z4; clear ho4))
  refine bodyPost_ret (v := .agg #[.int .i64 b, .int .i64 n, .int .i64 o, .slice A1 T.length c1, .slice A2 C.length c2, .int .i64 f, .int .i64 h, .int .i64 t]) (by simp [results, Try.results78, go_sem, y0, y1, y2, y3, y4, y5, y6, y7]) rfl ⟨A1, c1, A2, c2, rfl, ?_, ?_, ?_⟩
  · exact (out_eightB ((O3.out.below hb4).farB hs1 _) hs2 _ _ _ _ _ _ _ _).mono (by omega)
  · exact (out_eightB ((O4.out.out.mono l3).farB hs1 _) hs2 _ _ _ _ _ _ _ _).mono (by omega)
  · exact below_eight ((hb3.trans (hb4.mono hb3.size)).setCell (Nat.le_refl _) _) (Nat.le_succ _) _ _ _ _ _ _ _ _
set_option maxHeartbeats 4000000 in
theorem impl_copyGate (b n o f h t : Int) (T : List Mp) (C : List Ct) (At Ac : Option Addr) (ct cc nt nc : Nat) (w : World) (hnt : nt = T.length) (hnc : nc = C.length) (hlT : T.length ≤ 2000000) (hlC : C.length ≤ 2000000) (hT : Sl encM 4 w At ct T) (hC : Sl encC 3 w Ac cc C) :
    Calls Try.prog 27 #[.agg #[.int .i64 b, .int .i64 n, .int .i64 o, .slice At nt ct, .slice Ac nc cc, .int .i64 f, .int .i64 h, .int .i64 t]] w (fun e w' => ∃ A1 c1 A2 c2, e = .returned (.agg #[.int .i64 b, .int .i64 n, .int .i64 o, .slice A1 nt c1, .slice A2 nc c2, .int .i64 f, .int .i64 h, .int .i64 t]) ∧ Out encM 4 w.heap.size w' A1 c1 T ∧ Out encC 3 w.heap.size w' A2 c2 C ∧ Below w.heap.size w w') := by
  subst hnt
  subst hnc
  obtain ⟨wq, hwq⟩ : ∃ y, y = (w.alloc (.cells #[.int .i64 b, .int .i64 n, .int .i64 o, .slice At T.length ct, .slice Ac C.length cc, .int .i64 f, .int .i64 h, .int .i64 t] 28)).alloc (.cells #[.int .i64 0, .int .i64 0, .int .i64 0, .slice none 0 0, .slice none 0 0, .int .i64 0, .int .i64 0, .int .i64 0] 28) := ⟨_, rfl⟩
  have hq : Below w.heap.size w wq := by subst hwq; exact ((Below.refl _ _).alloc (Nat.le_refl _) _).alloc (by simp) _
  have hzq : wq.heap.size = w.heap.size + 1 + 1 := by subst hwq; simp
  have bg : BlAt wq w.heap.size #[.int .i64 b, .int .i64 n, .int .i64 o, .slice At T.length ct, .slice Ac C.length cc, .int .i64 f, .int .i64 h, .int .i64 t] := by subst hwq; exact (BlAt.new _ _ _).alloc _
  have bz : BlAt wq (w.heap.size + 1) #[.int .i64 0, .int .i64 0, .int .i64 0, .slice none 0 0, .slice none 0 0, .int .i64 0, .int .i64 0, .int .i64 0] := by
    subst hwq
    have := BlAt.new (w.alloc (.cells #[.int .i64 b, .int .i64 n, .int .i64 o, .slice At T.length ct, .slice Ac C.length cc, .int .i64 f, .int .i64 h, .int .i64 t] 28)) 28 #[.int .i64 0, .int .i64 0, .int .i64 0, .slice none 0 0, .slice none 0 0, .int .i64 0, .int .i64 0, .int .i64 0]
    rw [alloc_size] at this
    exact this
  have BG := Lib.hid (fun W (h : Below wq.heap.size wq W) => bg.below h (by omega))
  have BZ := Lib.hid (fun W (h : Below wq.heap.size wq W) => bz.below h (by omega))
  have ST := Lib.hid (fun W (h : Below wq.heap.size wq W) => hT.below (hq.trans (h.mono hq.size)))
  have SC := Lib.hid (fun W (h : Below wq.heap.size wq W) => hC.below (hq.trans (h.mono hq.size)))
  have WQ := Lib.hid hwq
  have hk0 : Below wq.heap.size wq wq := Below.refl _ _
  have hs1 : w.heap.size < wq.heap.size := by omega
  have hs2 : w.heap.size + 1 < wq.heap.size := by omega
  obtain ⟨x0, x1, x2, x3, x4, x5, x6, x7⟩ := gcells bg
  have q3 := bg.free 3
  have q4 := bg.free 4
  clear hwq hT hC bg bz hzq
  go_enter Try.func27, Try.ntmps27
  go_wp2_with fail
  rw [← WQ.out]
  go_region_with (first | (go_at_call 64; refine (clone_mt _ _ _ T _ rfl hlT (ST.out _ (by first | exact hk0 | exact hk0.drew | exact bdrewN hk0 _))).mono ?_; rintro e w2 ⟨A1, c1, rfl, ho2, hb2⟩; have hk2 : Below wq.heap.size wq w2 := bstep (by first | exact hk0 | exact hk0.drew | exact bdrewN hk0 _) hb2 (Nat.le_refl _); have O2 := Lib.hid (show Out encM 4 wq.heap.size w2 A1 T.length T from ⟨⟨Nat.le_refl _, ho2.sl.2⟩, ho2.fr⟩); have b2 := BG.out w2 hk2; obtain ⟨y0, y1, y2, y3, y4, y5, y6, y7⟩ := gcells b2; clear ho2 b2) | (go_at_call 65; refine (clone_ct _ _ _ C _ rfl hlC (SC.out _ (by first | exact hk2 | exact hk2.drew | exact bdrewN hk2 _))).mono ?_; rintro e w3 ⟨A2, rfl, ho3, hb3⟩; have hb3' : Below w2.heap.size w2 w3 := bstep (by first | exact Below.refl _ _ | exact (Below.refl _ _).drew | exact bdrewN (Below.refl _ _) _) hb3 (Nat.le_refl _); have hk3 := bstep hk2 hb3' hk2.size; have O3 := Lib.hid (O2.out.below hb3'); have P3 := Lib.hid ho3; have b3 := BG.out w3 hk3; have z3 := BZ.out w3 hk3; obtain ⟨u0, u1, u2, u3, u4, u5, u6, u7⟩ := gcells b3; obtain ⟨v0, v1, v2, v3, v4, v5, v6, v7⟩ := gcells z3; have q3 := b3.free 3; have q4 := b3.free 4; obtain ⟨f0, f1, f2, f3, f4, f5, f6, f7⟩ := gfrees z3; clear ho3 b3 z3 y0 y1 y2 y3 y4 y5 y6 y7))
  all_goals
    go_wp2
    refine bodyPost_ret (v := .agg #[.int .i64 b, .int .i64 n, .int .i64 o, .slice A1 T.length T.length, .slice A2 C.length C.length, .int .i64 f, .int .i64 h, .int .i64 t]) (by simp [results, Try.results27, go_sem, v0, v1, v2, v3, v4, v5, v6, v7]) rfl ⟨A1, T.length, A2, C.length, rfl, ?_, ?_, ?_⟩
    · exact (out_eightB ((O3.out.farB hs1 _).farB hs1 _) hs2 _ _ _ _ _ _ _ _).mono (by omega)
    · exact (out_eightB (((P3.out.mono (show wq.heap.size ≤ _ from hk2.size)).farB hs1 _).farB hs1 _) hs2 _ _ _ _ _ _ _ _).mono (by omega)
    · exact below_eight (((hq.trans (hk3.mono hq.size)).setCell (Nat.le_refl _) _).setCell (Nat.le_refl _) _) (Nat.le_succ _) _ _ _ _ _ _ _ _
end Go.Proofs.Ytlgfmnognhojnaa
