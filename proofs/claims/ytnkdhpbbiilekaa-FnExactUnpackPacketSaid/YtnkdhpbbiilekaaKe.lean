/- PackPacket, PacketCheck, UpdateCheck, IsRight, walked. -/
import Derived.Test.YtnkdhpbbiilekaaKc
namespace Go.Proofs.Ytnkdhpbbiilekaa
open Go.RowKit
theorem Bl.outI {e : TypeId} {w : World} {g c m B : Nat} {L : List Int} (h : Bl encI 1 e w g c L) (hB : B ≤ g) (hm : L.length = m) : Out encI 1 B w (some ⟨g, 0, none⟩) m L := by
  subst hm
  exact ⟨h.sl, fun _ => ⟨g, 0, rfl, hB, h.lt, fun j => h.frozen j⟩⟩
theorem words_at1 (x : Pk) (c : Int) : (wordsP x c)[1]? = some c := rfl
theorem words_ne (x : Pk) (c : Int) : wordsP x c ≠ [] := by unfold wordsP; simp
set_option maxHeartbeats 2000000 in
theorem impl_PackPacket (k fa fp ta tp : Int) (d : List Int) (A : Option Addr) (c n : Nat) (w : World) (hn : n = d.length) (hl : d.length ≤ 2000000) (hs : Sl encI 1 w A c d) (L : List Int) (m : Nat) (r : Bool) (hr : okPk ⟨k, fa, fp, ta, tp, d⟩ = r) (hL : packV ⟨k, fa, fp, ta, tp, d⟩ = L) (hm : L.length = m) :
    Calls Try.prog 21 #[.agg #[.int .i64 k, .int .i64 fa, .int .i64 fp, .int .i64 ta, .int .i64 tp, .slice A n c]] w (fun e w' => ∃ A', e = .returned (.slice A' m m) ∧ ((r = false ∧ A' = none) ∨ (r = true ∧ ∃ g, A' = some ⟨g, 0, none⟩)) ∧ Out encI 1 w.heap.size w' A' m L ∧ Below w.heap.size w w') := by
  subst hn
  obtain ⟨wq, hwq⟩ : ∃ y, y = w.alloc (.cells #[.int .i64 k, .int .i64 fa, .int .i64 fp, .int .i64 ta, .int .i64 tp, .slice A d.length c] 27) := ⟨_, rfl⟩
  have hq : Below w.heap.size w wq := by subst hwq; exact (Below.refl _ _).alloc (Nat.le_refl _) _
  have hzq : wq.heap.size = w.heap.size + 1 := by subst hwq; exact alloc_size _ _
  have bx : PkAt wq w.heap.size k fa fp ta tp (.slice A d.length c) := by subst hwq; exact PkAt.new _ _ _ _ _ _ _ _
  have BX := Lib.hid bx
  have CC := Lib.hid (fun W (h : Below wq.heap.size wq W) => (bx.below h (by omega)).cells)
  have SL := Lib.hid (fun W (h : Below wq.heap.size wq W) => hs.below (hq.trans (h.mono hq.size)))
  have HZ := Lib.hid hzq
  have WQ := Lib.hid hwq
  have hk : Below wq.heap.size wq wq := Below.refl _ _
  clear hwq hs bx hzq
  cases r
  · have hm0 : m = 0 := by rw [← hm, ← hL, packV_bad hr]; rfl
    subst hm0
    have hLn : L = [] := List.eq_nil_of_length_eq_zero hm
    subst hLn
    have HR := Lib.hid hr
    clear hL hm hr
    go_enter Try.func21, Try.ntmps21
    go_wp2_with fail
    rw [← WQ.out]
    refine (impl_ValidPacket _ _ _ _ _ _ _ _ _ _ rfl hl (SL.out _ hk)).mono ?_
    rintro e w2 ⟨rfl, hb2⟩
    rw [HR.out]
    go_wp2
    go_ret
    exact ⟨none, rfl, by simp, ⟨Sl.nil, Fr.nil⟩, hq.trans (hb2.mono hq.size)⟩
  have hLe : wordsP ⟨k, fa, fp, ta, tp, d⟩ (chk ⟨k, fa, fp, ta, tp, d⟩) = L := by rw [← hL, packV_ok hr]
  obtain ⟨L0, hL0⟩ : ∃ L0, wordsP ⟨k, fa, fp, ta, tp, d⟩ 0 = L0 := ⟨_, rfl⟩
  have hm0 : L0.length = m := by rw [← hm, ← hLe, ← hL0, wordsP_len, wordsP_len]
  have hm6 : 6 ≤ m := by rw [← hm0, ← hL0, wordsP_len]; omega
  have hm18 : m ≤ 18 := by rw [← hm, ← hL]; exact pack_len _
  have hd12 : d.length ≤ 12 := (okPk_iff.1 hr).2.2.2.1
  have hin : ∀ y ∈ L0, 0 ≤ y ∧ y ≤ 65535 := by rw [← hL0]; exact wordsP_in hr (by omega) (by omega)
  obtain ⟨T, hT⟩ : ∃ T, tot L0 = T := ⟨_, rfl⟩
  have hTr : 0 ≤ T ∧ T ≤ 65535 := by rw [← hT]; exact tot_range hin
  obtain ⟨hT0, hT1⟩ := hTr
  have hset : L0.set 1 (65535 - T) = L := by rw [← hL0, Concat_set, ← hLe]; unfold chk; rw [hL0, hT]
  have h1 : L0[1]? = some 0 := by rw [← hL0]; exact words_at1 _ _
  have hne : L0 ≠ [] := by rw [← hL0]; exact words_ne _ _
  have HR := Lib.hid hr
  have HL0 := Lib.hid hL0
  have HM0 := Lib.hid hm0
  have HIN := Lib.hid hin
  have HT := Lib.hid hT
  have HSET := Lib.hid hset
  have H1 := Lib.hid h1
  clear hL hm hr hLe hL0 hm0 hin hT hset h1
  go_enter Try.func21, Try.ntmps21
  go_wp2_with fail
  rw [← WQ.out]
  refine (impl_ValidPacket _ _ _ _ _ _ _ _ _ _ rfl hl (SL.out _ hk)).mono ?_
  rintro e w2 ⟨rfl, hb2⟩
  rw [HR.out]
  obtain ⟨x0, x1, x2, x3, x4, x5⟩ := CC.out w2 hb2
  have hlt2 : w.heap.size < w2.heap.size := by have := HZ.out; have := hb2.size; omega
  obtain ⟨w3, hw3⟩ : ∃ y, y = (w2.alloc (.cells #[.int .i64 k, .int .i64 0, .int .i64 fa, .int .i64 ta, .int .i64 fp, .int .i64 tp] 3)).alloc (.cells #[.slice (some ⟨w2.heap.size, 0, none⟩) 6 6, .slice A d.length c] 25) := ⟨_, rfl⟩
  have hb3 : Below w2.heap.size w2 w3 := by subst hw3; exact ((Below.refl _ _).alloc (Nat.le_refl _) _).alloc (by simp) _
  have c0 : w3.cell? ⟨w2.heap.size + 1, 0, none⟩ = some (.slice (some ⟨w2.heap.size, 0, none⟩) 6 6) := by
    subst hw3
    have := heap_alloc_new (w2.alloc (.cells #[.int .i64 k, .int .i64 0, .int .i64 fa, .int .i64 ta, .int .i64 fp, .int .i64 tp] 3)) (.cells #[.slice (some ⟨w2.heap.size, 0, none⟩) 6 6, .slice A d.length c] 25)
    rw [alloc_size] at this
    exact cell_of_row _ _ _ _ _ _ this
  have c1 : w3.cell? ⟨w2.heap.size + 1, 1, none⟩ = some (.slice A d.length c) := by
    subst hw3
    have := heap_alloc_new (w2.alloc (.cells #[.int .i64 k, .int .i64 0, .int .i64 fa, .int .i64 ta, .int .i64 fp, .int .i64 tp] 3)) (.cells #[.slice (some ⟨w2.heap.size, 0, none⟩) 6 6, .slice A d.length c] 25)
    rw [alloc_size] at this
    exact cell_of_row _ _ _ _ _ _ this
  have hsix : Sl encI 1 w3 (some ⟨w2.heap.size, 0, none⟩) 6 [k, 0, fa, ta, fp, tp] := by
    subst hw3
    exact ((Ow.lit (enc := encI) (k := 1) (e := 3) (B := w2.heap.size) (cs := #[.int .i64 k, .int .i64 0, .int .i64 fa, .int .i64 ta, .int .i64 fp, .int .i64 tp]) (l := [k, 0, fa, ta, fp, tp]) w2 (Nat.le_refl _) rfl (fun _ => rfl) (by show 6 ≤ maxLen; unfold maxLen; omega)).alloc _).sl
  have hk3 := bstep hb2 hb3 hb2.size
  have W3 := Lib.hid hw3
  have C0 := Lib.hid c0
  have C1 := Lib.hid c1
  have SIX := Lib.hid hsix
  clear hw3 c0 c1 hsix
  go_wp2_with fail
  rw [← W3.out]
  refine (Concat_in (w2.heap.size + 1) _ _ _ _ _ _ [k, 0, fa, ta, fp, tp] d w3 rfl rfl (by show 6 ≤ 1000000; omega) (by omega) (by show 0 < 6 + d.length; omega) C0.out C1.out SIX.out (SL.out _ hk3)).mono ?_
  rintro e w4 ⟨A4, c4, rfl, hown, hb4⟩
  rw [show [k, 0, fa, ta, fp, tp] ++ d = L0 from HL0.out] at hown ⊢
  rw [HM0.out]
  have hk4 := bstep hk3 hb4 hk3.size
  obtain ⟨g4, rfl, hg4, hlc, hcm, hbl⟩ := hown.resolve_left (by rintro ⟨_, _, h⟩; exact hne h)
  rw [HM0.out] at hlc
  have S4 := Lib.hid hown.sl
  have d4 := hbl.row.inn (Below.refl _ _) hbl.lt H1.out
  simp only [Nat.zero_add] at d4
  have f4 := hbl.frozen 1
  have BL := Lib.hid hbl
  have hg4l := hbl.lt
  have HCM := Lib.hid hcm
  have hcm8 : c4 ≤ 9223372036854775807 := by unfold maxLen at hcm; omega
  clear x0 x1 x2 x3 x4 x5 hown hbl hcm
  go_wp2_with (first | (go_at_call 47; refine (impl_total _ _ _ L0 _ HM0.out.symm (by rw [HM0.out]; omega) HIN.out S4.out).mono ?_; rintro e w' ⟨rfl, rfl⟩; rw [HT.out]) | (go_at_call 48; refine (Clip_in _ _ _ _ hlc HCM.out).mono ?_; rintro e w' ⟨rfl, rfl⟩))
  go_ret
  have hst := BL.out.store (x := 0) (x' := 65535 - T) (u := .int .i64 (65535 - T)) (i := 1) (j := 0) (fun _ => rfl) H1.out (by decide) rfl
  rw [HSET.out] at hst
  have hLm : L.length = m := by rw [← HSET.out, List.length_set]; exact HM0.out
  refine ⟨some ⟨g4, 0, none⟩, rfl, by simp, hst.outI (by have := hq.size; have := hk3.size; omega) hLm, ?_⟩
  exact (hq.trans (hk4.mono hq.size)).setCell (show w.heap.size ≤ g4 by have := hq.size; have := hk3.size; omega) _
set_option maxHeartbeats 4000000 in
theorem spec_PackPacket (k fa fp ta tp : Int) (d : List Int) (A : Option Addr) (c n : Nat) (w : World) (hn : n = d.length) (hl : d.length ≤ 2000000) (hs : Sl encI 1 w A c d) (L : List Int) (m : Nat) (r : Bool) (hr : okPk ⟨k, fa, fp, ta, tp, d⟩ = r) (hL : packV ⟨k, fa, fp, ta, tp, d⟩ = L) (hm : L.length = m) :
    Calls Try.prog 30 #[.agg #[.int .i64 k, .int .i64 fa, .int .i64 fp, .int .i64 ta, .int .i64 tp, .slice A n c]] w (fun e w' => ∃ A' c', e = .returned (.slice A' m c') ∧ Ow encI 1 3 w.heap.size w' A' c' L ∧ Below w.heap.size w w') := by
  subst hn
  obtain ⟨wq, hwq⟩ : ∃ y, y = w.alloc (.cells #[.int .i64 k, .int .i64 fa, .int .i64 fp, .int .i64 ta, .int .i64 tp, .slice A d.length c] 27) := ⟨_, rfl⟩
  have hq : Below w.heap.size w wq := by subst hwq; exact (Below.refl _ _).alloc (Nat.le_refl _) _
  have hzq : wq.heap.size = w.heap.size + 1 := by subst hwq; exact alloc_size _ _
  have bx : PkAt wq w.heap.size k fa fp ta tp (.slice A d.length c) := by subst hwq; exact PkAt.new _ _ _ _ _ _ _ _
  have BX := Lib.hid bx
  have CC := Lib.hid (fun W (h : Below wq.heap.size wq W) => (bx.below h (by omega)).cells)
  have SL := Lib.hid (fun W (h : Below wq.heap.size wq W) => hs.below (hq.trans (h.mono hq.size)))
  have HZ := Lib.hid hzq
  have WQ := Lib.hid hwq
  have hk : Below wq.heap.size wq wq := Below.refl _ _
  clear hwq hs bx hzq
  cases r
  · have hm0 : m = 0 := by rw [← hm, ← hL, packV_bad hr]; rfl
    subst hm0
    have hLn : L = [] := List.eq_nil_of_length_eq_zero hm
    subst hLn
    have HR := Lib.hid hr
    clear hL hm hr
    go_enter Try.func30, Try.ntmps30
    go_wp2_with fail
    rw [← WQ.out]
    refine (spec_validPacket _ _ _ _ _ _ _ _ _ _ rfl hl (SL.out _ hk)).mono ?_
    rintro e w2 ⟨rfl, hb2⟩
    rw [HR.out]
    go_wp2
    go_ret
    exact ⟨none, 0, rfl, Ow.nil, hq.trans (hb2.mono hq.size)⟩
  have hLe : wordsP ⟨k, fa, fp, ta, tp, d⟩ (chk ⟨k, fa, fp, ta, tp, d⟩) = L := by rw [← hL, packV_ok hr]
  obtain ⟨L0, hL0⟩ : ∃ L0, wordsP ⟨k, fa, fp, ta, tp, d⟩ 0 = L0 := ⟨_, rfl⟩
  have hm0 : L0.length = m := by rw [← hm, ← hLe, ← hL0, wordsP_len, wordsP_len]
  have hm18 : m ≤ 18 := by rw [← hm, ← hL]; exact pack_len _
  have hd12 : d.length ≤ 12 := (okPk_iff.1 hr).2.2.2.1
  have hin : ∀ y ∈ L0, 0 ≤ y ∧ y ≤ 65535 := by rw [← hL0]; exact wordsP_in hr (by omega) (by omega)
  obtain ⟨T, hT⟩ : ∃ T, tot L0 = T := ⟨_, rfl⟩
  have hTr : 0 ≤ T ∧ T ≤ 65535 := by rw [← hT]; exact tot_range hin
  obtain ⟨hT0, hT1⟩ := hTr
  have hLT : wordsP ⟨k, fa, fp, ta, tp, d⟩ (65535 - T) = L := by rw [← hLe]; unfold chk; rw [hL0, hT]
  have HR := Lib.hid hr
  have HL0 := Lib.hid hL0
  have HM0 := Lib.hid hm0
  have HM := Lib.hid hm
  have HIN := Lib.hid hin
  have HT := Lib.hid hT
  have HLT := Lib.hid hLT
  clear hL hm hr hLe hL0 hm0 hin hT hLT
  go_enter Try.func30, Try.ntmps30
  go_wp2_with fail
  rw [← WQ.out]
  refine (spec_validPacket _ _ _ _ _ _ _ _ _ _ rfl hl (SL.out _ hk)).mono ?_
  rintro e w2 ⟨rfl, hb2⟩
  rw [HR.out]
  have x0 : ∀ W, Below w2.heap.size w2 W → W.cell? ⟨w.heap.size, 0, none⟩ = some (.int .i64 k) := fun W h => (CC.out W (bstep hb2 h hb2.size)).1
  have x1 : ∀ W, Below w2.heap.size w2 W → W.cell? ⟨w.heap.size, 1, none⟩ = some (.int .i64 fa) := fun W h => (CC.out W (bstep hb2 h hb2.size)).2.1
  have x2 : ∀ W, Below w2.heap.size w2 W → W.cell? ⟨w.heap.size, 2, none⟩ = some (.int .i64 fp) := fun W h => (CC.out W (bstep hb2 h hb2.size)).2.2.1
  have x3 : ∀ W, Below w2.heap.size w2 W → W.cell? ⟨w.heap.size, 3, none⟩ = some (.int .i64 ta) := fun W h => (CC.out W (bstep hb2 h hb2.size)).2.2.2.1
  have x4 : ∀ W, Below w2.heap.size w2 W → W.cell? ⟨w.heap.size, 4, none⟩ = some (.int .i64 tp) := fun W h => (CC.out W (bstep hb2 h hb2.size)).2.2.2.2.1
  have x5 : ∀ W, Below w2.heap.size w2 W → W.cell? ⟨w.heap.size, 5, none⟩ = some (.slice A d.length c) := fun W h => (CC.out W (bstep hb2 h hb2.size)).2.2.2.2.2
  have SL2 := Lib.hid (fun W (h : Below w2.heap.size w2 W) => SL.out W (bstep hb2 h hb2.size))
  have hwr : IntKind.i64.wrap (65535 - T) = 65535 - T := by simp [IntKind.wrap, IntKind.bits, IntKind.signed]; omega
  go_wp2
  go_region_held3 (fun W => Below w2.heap.size w2 W) (first | exact (Below.refl _ _).drew | assumption) (first | (go_at_call 50; first | (have _hh := hka; refine (spec_words _ _ _ _ _ _ _ _ _ _ rfl hl (SL2.out _ (by assumption)) (65535 - T) L m HLT.out HM.out).mono ?_; rintro e wb ⟨Ab, cb, rfl, howb, hbb⟩; have hkb := bstep (B := w2.heap.size) (a := w2) (by assumption) hbb (Below.size (by assumption))) | (refine (spec_words _ _ _ _ _ _ _ _ _ _ rfl hl (SL2.out _ (by assumption)) 0 L0 m HL0.out HM0.out).mono ?_; rintro e wa ⟨Aa, ca, rfl, howa, hba⟩; have hka := bstep (B := w2.heap.size) (a := w2) (by assumption) hba (Below.size (by assumption)))) | (go_at_call 49; refine (spec_sumOf _ _ _ L0 _ HM0.out.symm (by rw [HM0.out]; omega) HIN.out howa.sl).mono ?_; rintro e w' ⟨rfl, rfl⟩; rw [HT.out]))
  all_goals
    go_wp2
    go_ret
    exact ⟨Ab, cb, rfl, howb.base (by have := hq.size; have := hb2.size; have := hka.size; omega), hq.trans ((bstep hb2 hkb hb2.size).mono hq.size)⟩
end Go.Proofs.Ytnkdhpbbiilekaa
