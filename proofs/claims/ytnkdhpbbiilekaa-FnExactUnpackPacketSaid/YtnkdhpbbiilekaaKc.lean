/- Valid packets, PackPacket, PacketCheck: the program's and the reference's, walked. -/
import Derived.Test.YtnkdhpbbiilekaaKb
namespace Go.Proofs.Ytnkdhpbbiilekaa
open Go.RowKit
theorem okPk_def (k fa fp ta tp : Int) (d : List Int) : okPk ⟨k, fa, fp, ta, tp, d⟩ = (inR k 0 2 && ((isW fa && isW fp) && ((isW ta && isW tp) && (decide (d.length ≤ 12) && d.all isW)))) := rfl
set_option maxHeartbeats 2000000 in
theorem impl_ValidPacket (k fa fp ta tp : Int) (d : List Int) (A : Option Addr) (c n : Nat) (w : World) (hn : n = d.length) (hl : d.length ≤ 2000000) (hs : Sl encI 1 w A c d) :
    Calls Try.prog 38 #[.agg #[.int .i64 k, .int .i64 fa, .int .i64 fp, .int .i64 ta, .int .i64 tp, .slice A n c]] w (Ret w (.bool (okPk ⟨k, fa, fp, ta, tp, d⟩))) := by
  subst hn
  obtain ⟨wq, hwq⟩ : ∃ y, y = w.alloc (.cells #[.int .i64 k, .int .i64 fa, .int .i64 fp, .int .i64 ta, .int .i64 tp, .slice A d.length c] 27) := ⟨_, rfl⟩
  have hq : Below w.heap.size w wq := by subst hwq; exact (Below.refl _ _).alloc (Nat.le_refl _) _
  have hzq : wq.heap.size = w.heap.size + 1 := by subst hwq; exact alloc_size _ _
  have bx : PkAt wq w.heap.size k fa fp ta tp (.slice A d.length c) := by subst hwq; exact PkAt.new _ _ _ _ _ _ _ _
  have BX := Lib.hid bx
  have CC := Lib.hid (fun W (h : Below wq.heap.size wq W) => (bx.below h (by omega)).cells)
  have SL := Lib.hid (fun W (h : Below wq.heap.size wq W) => hs.below (hq.trans (h.mono hq.size)))
  have HZ := Lib.hid hzq
  have WQ := Lib.hid hwq
  have hk : Below wq.heap.size wq wq := Below.refl _ _
  clear hwq hs bx hzq
  rw [okPk_def]
  cases h1 : inR k 0 2
  · have H1 := Lib.hid h1
    clear h1
    go_enter Try.func38, Try.ntmps38
    go_wp2_with fail
    rw [← WQ.out]
    refine (impl_in _ _ _ _).mono ?_
    rintro e w' ⟨rfl, rfl⟩
    rw [H1.out]
    go_wp2
    go_ret
    exact ⟨rfl, hq⟩
  cases h2 : (isW fa && isW fp)
  · have H1 := Lib.hid h1
    have H2 := Lib.hid h2
    clear h1 h2
    obtain ⟨x0, x1, x2, x3, x4, x5⟩ := CC.out wq hk
    go_enter Try.func38, Try.ntmps38
    go_wp2_with fail
    rw [← WQ.out]
    refine (impl_in _ _ _ _).mono ?_
    rintro e w' ⟨rfl, rfl⟩
    rw [H1.out]
    go_wp2_with fail
    refine (impl_End_valid _ _ _).mono ?_
    rintro e w2 ⟨rfl, hb2⟩
    rw [H2.out]
    go_wp2
    go_ret
    exact ⟨rfl, hq.trans (hb2.mono hq.size)⟩
  cases h3 : (isW ta && isW tp)
  · have H1 := Lib.hid h1
    have H2 := Lib.hid h2
    have H3 := Lib.hid h3
    clear h1 h2 h3
    obtain ⟨x0, x1, x2, x3, x4, x5⟩ := CC.out wq hk
    go_enter Try.func38, Try.ntmps38
    go_wp2_with fail
    rw [← WQ.out]
    refine (impl_in _ _ _ _).mono ?_
    rintro e w' ⟨rfl, rfl⟩
    rw [H1.out]
    go_wp2_with fail
    refine (impl_End_valid _ _ _).mono ?_
    rintro e w2 ⟨rfl, hb2⟩
    rw [H2.out]
    clear x0 x1 x2 x3 x4 x5
    obtain ⟨x0, x1, x2, x3, x4, x5⟩ := CC.out w2 hb2
    go_wp2_with fail
    refine (impl_End_valid _ _ _).mono ?_
    rintro e w3 ⟨rfl, hb3⟩
    rw [H3.out]
    have hk3 := bstep hb2 hb3 hb2.size
    go_wp2
    go_ret
    exact ⟨rfl, hq.trans (hk3.mono hq.size)⟩
  have H1 := Lib.hid h1
  have H2 := Lib.hid h2
  have H3 := Lib.hid h3
  clear h1 h2 h3
  by_cases h4 : d.length ≤ 12
  · rw [decide_eq_true h4]
    cases h5 : d.all isW
    all_goals
      have H5 := Lib.hid h5
      clear h5
      obtain ⟨x0, x1, x2, x3, x4, x5⟩ := CC.out wq hk
      go_enter Try.func38, Try.ntmps38
      go_wp2_with fail
      rw [← WQ.out]
      refine (impl_in _ _ _ _).mono ?_
      rintro e w' ⟨rfl, rfl⟩
      rw [H1.out]
      go_wp2_with fail
      refine (impl_End_valid _ _ _).mono ?_
      rintro e w2 ⟨rfl, hb2⟩
      rw [H2.out]
      clear x0 x1 x2 x3 x4 x5
      obtain ⟨x0, x1, x2, x3, x4, x5⟩ := CC.out w2 hb2
      go_wp2_with fail
      refine (impl_End_valid _ _ _).mono ?_
      rintro e w3 ⟨rfl, hb3⟩
      rw [H3.out]
      have hk3 := bstep hb2 hb3 hb2.size
      clear x0 x1 x2 x3 x4 x5
      obtain ⟨x0, x1, x2, x3, x4, x5⟩ := CC.out w3 hk3
      go_wp2_with fail
      refine (impl_areWords _ _ _ _ hl (SL.out _ hk3)).mono ?_
      rintro e w' ⟨rfl, rfl⟩
      rw [H5.out]
      go_wp2
      go_ret
      exact ⟨rfl, hq.trans (hk3.mono hq.size)⟩
  · rw [decide_eq_false h4]
    obtain ⟨x0, x1, x2, x3, x4, x5⟩ := CC.out wq hk
    go_enter Try.func38, Try.ntmps38
    go_wp2_with fail
    rw [← WQ.out]
    refine (impl_in _ _ _ _).mono ?_
    rintro e w' ⟨rfl, rfl⟩
    rw [H1.out]
    go_wp2_with fail
    refine (impl_End_valid _ _ _).mono ?_
    rintro e w2 ⟨rfl, hb2⟩
    rw [H2.out]
    clear x0 x1 x2 x3 x4 x5
    obtain ⟨x0, x1, x2, x3, x4, x5⟩ := CC.out w2 hb2
    go_wp2_with fail
    refine (impl_End_valid _ _ _).mono ?_
    rintro e w3 ⟨rfl, hb3⟩
    rw [H3.out]
    have hk3 := bstep hb2 hb3 hb2.size
    clear x0 x1 x2 x3 x4 x5
    obtain ⟨x0, x1, x2, x3, x4, x5⟩ := CC.out w3 hk3
    go_wp2
    go_ret
    exact ⟨rfl, hq.trans (hk3.mono hq.size)⟩
set_option maxHeartbeats 2000000 in
theorem spec_validPacket (k fa fp ta tp : Int) (d : List Int) (A : Option Addr) (c n : Nat) (w : World) (hn : n = d.length) (hl : d.length ≤ 2000000) (hs : Sl encI 1 w A c d) :
    Calls Try.prog 44 #[.agg #[.int .i64 k, .int .i64 fa, .int .i64 fp, .int .i64 ta, .int .i64 tp, .slice A n c]] w (Ret w (.bool (okPk ⟨k, fa, fp, ta, tp, d⟩))) := by
  subst hn
  obtain ⟨wq, hwq⟩ : ∃ y, y = w.alloc (.cells #[.int .i64 k, .int .i64 fa, .int .i64 fp, .int .i64 ta, .int .i64 tp, .slice A d.length c] 27) := ⟨_, rfl⟩
  have hq : Below w.heap.size w wq := by subst hwq; exact (Below.refl _ _).alloc (Nat.le_refl _) _
  have hzq : wq.heap.size = w.heap.size + 1 := by subst hwq; exact alloc_size _ _
  have bx : PkAt wq w.heap.size k fa fp ta tp (.slice A d.length c) := by subst hwq; exact PkAt.new _ _ _ _ _ _ _ _
  have BX := Lib.hid bx
  have CC := Lib.hid (fun W (h : Below wq.heap.size wq W) => (bx.below h (by omega)).cells)
  have SL := Lib.hid (fun W (h : Below wq.heap.size wq W) => hs.below (hq.trans (h.mono hq.size)))
  have HZ := Lib.hid hzq
  have WQ := Lib.hid hwq
  have hk : Below wq.heap.size wq wq := Below.refl _ _
  clear hwq hs bx hzq
  rw [okPk_def]
  cases h1 : inR k 0 2
  · have H1 := Lib.hid h1
    clear h1
    go_enter Try.func44, Try.ntmps44
    go_wp2_with fail
    rw [← WQ.out]
    refine (spec_inRange _ _ _ _).mono ?_
    rintro e w' ⟨rfl, rfl⟩
    rw [H1.out]
    go_wp2
    go_ret
    exact ⟨rfl, hq⟩
  cases h2 : (isW fa && isW fp)
  · have H1 := Lib.hid h1
    have H2 := Lib.hid h2
    clear h1 h2
    obtain ⟨x0, x1, x2, x3, x4, x5⟩ := CC.out wq hk
    go_enter Try.func44, Try.ntmps44
    go_wp2_with fail
    rw [← WQ.out]
    refine (spec_inRange _ _ _ _).mono ?_
    rintro e w' ⟨rfl, rfl⟩
    rw [H1.out]
    go_wp2_with fail
    refine (spec_validEnd _ _ _).mono ?_
    rintro e w2 ⟨rfl, hb2⟩
    rw [H2.out]
    go_wp2
    go_ret
    exact ⟨rfl, hq.trans (hb2.mono hq.size)⟩
  cases h3 : (isW ta && isW tp)
  · have H1 := Lib.hid h1
    have H2 := Lib.hid h2
    have H3 := Lib.hid h3
    clear h1 h2 h3
    obtain ⟨x0, x1, x2, x3, x4, x5⟩ := CC.out wq hk
    go_enter Try.func44, Try.ntmps44
    go_wp2_with fail
    rw [← WQ.out]
    refine (spec_inRange _ _ _ _).mono ?_
    rintro e w' ⟨rfl, rfl⟩
    rw [H1.out]
    go_wp2_with fail
    refine (spec_validEnd _ _ _).mono ?_
    rintro e w2 ⟨rfl, hb2⟩
    rw [H2.out]
    clear x0 x1 x2 x3 x4 x5
    obtain ⟨x0, x1, x2, x3, x4, x5⟩ := CC.out w2 hb2
    go_wp2_with fail
    refine (spec_validEnd _ _ _).mono ?_
    rintro e w3 ⟨rfl, hb3⟩
    rw [H3.out]
    have hk3 := bstep hb2 hb3 hb2.size
    go_wp2
    go_ret
    exact ⟨rfl, hq.trans (hk3.mono hq.size)⟩
  have H1 := Lib.hid h1
  have H2 := Lib.hid h2
  have H3 := Lib.hid h3
  clear h1 h2 h3
  by_cases h4 : d.length ≤ 12
  · rw [decide_eq_true h4]
    cases h5 : d.all isW
    all_goals
      have H5 := Lib.hid h5
      clear h5
      obtain ⟨x0, x1, x2, x3, x4, x5⟩ := CC.out wq hk
      go_enter Try.func44, Try.ntmps44
      go_wp2_with fail
      rw [← WQ.out]
      refine (spec_inRange _ _ _ _).mono ?_
      rintro e w' ⟨rfl, rfl⟩
      rw [H1.out]
      go_wp2_with fail
      refine (spec_validEnd _ _ _).mono ?_
      rintro e w2 ⟨rfl, hb2⟩
      rw [H2.out]
      clear x0 x1 x2 x3 x4 x5
      obtain ⟨x0, x1, x2, x3, x4, x5⟩ := CC.out w2 hb2
      go_wp2_with fail
      refine (spec_validEnd _ _ _).mono ?_
      rintro e w3 ⟨rfl, hb3⟩
      rw [H3.out]
      have hk3 := bstep hb2 hb3 hb2.size
      clear x0 x1 x2 x3 x4 x5
      obtain ⟨x0, x1, x2, x3, x4, x5⟩ := CC.out w3 hk3
      go_wp2_with fail
      refine (spec_allIn _ _ _ _ _ rfl hl (SL.out _ hk3)).mono ?_
      rintro e w' ⟨rfl, rfl⟩
      rw [H5.out]
      go_wp2
      go_ret
      exact ⟨rfl, hq.trans (hk3.mono hq.size)⟩
  · rw [decide_eq_false h4]
    obtain ⟨x0, x1, x2, x3, x4, x5⟩ := CC.out wq hk
    go_enter Try.func44, Try.ntmps44
    go_wp2_with fail
    rw [← WQ.out]
    refine (spec_inRange _ _ _ _).mono ?_
    rintro e w' ⟨rfl, rfl⟩
    rw [H1.out]
    go_wp2_with fail
    refine (spec_validEnd _ _ _).mono ?_
    rintro e w2 ⟨rfl, hb2⟩
    rw [H2.out]
    clear x0 x1 x2 x3 x4 x5
    obtain ⟨x0, x1, x2, x3, x4, x5⟩ := CC.out w2 hb2
    go_wp2_with fail
    refine (spec_validEnd _ _ _).mono ?_
    rintro e w3 ⟨rfl, hb3⟩
    rw [H3.out]
    have hk3 := bstep hb2 hb3 hb2.size
    clear x0 x1 x2 x3 x4 x5
    obtain ⟨x0, x1, x2, x3, x4, x5⟩ := CC.out w3 hk3
    go_wp2
    go_ret
    exact ⟨rfl, hq.trans (hk3.mono hq.size)⟩
theorem Concat_set (k fa fp ta tp : Int) (d : List Int) (u : Int) : (wordsP ⟨k, fa, fp, ta, tp, d⟩ 0).set 1 u = wordsP ⟨k, fa, fp, ta, tp, d⟩ u := rfl
set_option maxHeartbeats 1000000 in
theorem spec_words (k fa fp ta tp : Int) (d : List Int) (A : Option Addr) (c n : Nat) (w : World) (hn : n = d.length) (hl : d.length ≤ 2000000) (hs : Sl encI 1 w A c d) (ck : Int) (L : List Int) (m : Nat) (hL : wordsP ⟨k, fa, fp, ta, tp, d⟩ ck = L) (hm : L.length = m) :
    Calls Try.prog 50 #[.agg #[.int .i64 k, .int .i64 fa, .int .i64 fp, .int .i64 ta, .int .i64 tp, .slice A n c], .int .i64 ck] w (fun e w' => ∃ A' c', e = .returned (.slice A' m c') ∧ Ow encI 1 3 w.heap.size w' A' c' L ∧ Below w.heap.size w w') := by
  subst hn
  obtain ⟨wq, hwq⟩ : ∃ y, y = w.alloc (.cells #[.int .i64 k, .int .i64 fa, .int .i64 fp, .int .i64 ta, .int .i64 tp, .slice A d.length c] 27) := ⟨_, rfl⟩
  have hq : Below w.heap.size w wq := by subst hwq; exact (Below.refl _ _).alloc (Nat.le_refl _) _
  have hzq : wq.heap.size = w.heap.size + 1 := by subst hwq; exact alloc_size _ _
  have bx : PkAt wq w.heap.size k fa fp ta tp (.slice A d.length c) := by subst hwq; exact PkAt.new _ _ _ _ _ _ _ _
  have BX := Lib.hid bx
  have CC := Lib.hid (fun W (h : Below wq.heap.size wq W) => (bx.below h (by omega)).cells)
  have SL := Lib.hid (fun W (h : Below wq.heap.size wq W) => hs.below (hq.trans (h.mono hq.size)))
  have HZ := Lib.hid hzq
  have WQ := Lib.hid hwq
  have hk : Below wq.heap.size wq wq := Below.refl _ _
  clear hwq hs bx hzq
  have hbn : Below wq.heap.size wq (wq.alloc (.cells #[.int .i64 k, .int .i64 ck, .int .i64 fa, .int .i64 ta, .int .i64 fp, .int .i64 tp] 3)) := (Below.refl _ _).alloc (Nat.le_refl _) _
  have LIT := Lib.hid (show Ow encI 1 3 w.heap.size (wq.alloc (.cells #[.int .i64 k, .int .i64 ck, .int .i64 fa, .int .i64 ta, .int .i64 fp, .int .i64 tp] 3)) (some ⟨w.heap.size + 1, 0, none⟩) 6 [k, ck, fa, ta, fp, tp] by
    have := Ow.lit (enc := encI) (k := 1) (e := 3) (B := w.heap.size) (cs := #[.int .i64 k, .int .i64 ck, .int .i64 fa, .int .i64 ta, .int .i64 fp, .int .i64 tp]) (l := [k, ck, fa, ta, fp, tp]) wq hq.size rfl (fun _ => rfl) (by show 6 ≤ maxLen; unfold maxLen; omega)
    rw [HZ.out] at this
    exact this)
  have HBN := Lib.hid hbn
  have HL := Lib.hid hL
  have HM := Lib.hid hm
  clear hbn hL hm
  go_enter Try.func50, Try.ntmps50
  go_wp2_with (at_builtin; rw [← WQ.out]; refine wpList_app elI rfl (.tmp 20) (.tmp 22) rfl w.heap.size _ _ _ [k, ck, fa, ta, fp, tp] rfl rfl LIT.out _ _ _ d rfl rfl (SL.out _ HBN.out) (by simp; omega) (by decide) (Nat.le_trans hq.size HBN.out.size) ?_; intro A' c' w2 hown hg _; rw [show [k, ck, fa, ta, fp, tp] ++ d = L from HL.out] at hown ⊢; rw [HM.out])
  go_ret
  exact ⟨A', c', rfl, hown, below_app (hq.trans (HBN.out.mono hq.size)) hg (Nat.le_trans hq.size HBN.out.size) (fun g h => (LIT.out.blk g h).1)⟩
end Go.Proofs.Ytnkdhpbbiilekaa
