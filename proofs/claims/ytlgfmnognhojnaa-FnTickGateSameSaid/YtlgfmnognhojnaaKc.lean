/- Valid packets, PackPacket, PacketCheck: the program's and the reference's, walked. -/
import Derived.Test.YtlgfmnognhojnaaKb
namespace Go.Proofs.Ytlgfmnognhojnaa
open Go.RowKit
theorem okPk_def (k fa fp ta tp : Int) (d : List Int) : okPk ⟨k, fa, fp, ta, tp, d⟩ = (inR k 0 2 && ((isW fa && isW fp) && ((isW ta && isW tp) && (decide (d.length ≤ 12) && d.all isW)))) := rfl
set_option maxHeartbeats 2000000 in
theorem spec_validPacket (k fa fp ta tp : Int) (d : List Int) (A : Option Addr) (c n : Nat) (w : World) (hn : n = d.length) (hl : d.length ≤ 2000000) (hs : Sl encI 1 w A c d) :
    Calls Try.prog 103 #[.agg #[.int .i64 k, .int .i64 fa, .int .i64 fp, .int .i64 ta, .int .i64 tp, .slice A n c]] w (Ret w (.bool (okPk ⟨k, fa, fp, ta, tp, d⟩))) := by
  subst hn
  obtain ⟨wq, hwq⟩ : ∃ y, y = w.alloc (.cells #[.int .i64 k, .int .i64 fa, .int .i64 fp, .int .i64 ta, .int .i64 tp, .slice A d.length c] 110) := ⟨_, rfl⟩
  have hq : Below w.heap.size w wq := by subst hwq; exact (Below.refl _ _).alloc (Nat.le_refl _) _
  have hzq : wq.heap.size = w.heap.size + 1 := by subst hwq; exact alloc_size _ _
  have bx : PkAt wq w.heap.size k fa fp ta tp (.slice A d.length c) := by subst hwq; exact PkAt.new _ _ _ _ _ _ _ _
  have BX := Lib.hid bx
  have CC := Lib.hid (fun W (h : Below wq.heap.size wq W) => (bx.below h (by omega)).cells)
  have SL := Lib.hid (fun W (h : Below wq.heap.size wq W) => hs.below (hq.trans (h.mono hq.size)))
  have HZ := Lib.hid hzq
  have WQ := Lib.hid hwq
  have hk : Below wq.heap.size wq wq := Below.refl _ _
  clear hwq hs bx hzq
  rw [okPk_def]
  cases h1 : inR k 0 2
  · have H1 := Lib.hid h1
    clear h1
    go_enter Try.func103, Try.ntmps103
    go_wp2_with fail
    rw [← WQ.out]
    refine (spec_inRange _ _ _ _).mono ?_
    rintro e w' ⟨rfl, rfl⟩
    rw [H1.out]
    go_wp2
    go_ret
    exact ⟨rfl, hq⟩
  cases h2 : (isW fa && isW fp)
  · have H1 := Lib.hid h1
    have H2 := Lib.hid h2
    clear h1 h2
    obtain ⟨x0, x1, x2, x3, x4, x5⟩ := CC.out wq hk
    go_enter Try.func103, Try.ntmps103
    go_wp2_with fail
    rw [← WQ.out]
    refine (spec_inRange _ _ _ _).mono ?_
    rintro e w' ⟨rfl, rfl⟩
    rw [H1.out]
    go_wp2_with fail
    refine (spec_validEnd _ _ _).mono ?_
    rintro e w2 ⟨rfl, hb2⟩
    rw [H2.out]
    go_wp2
    go_ret
    exact ⟨rfl, hq.trans (hb2.mono hq.size)⟩
  cases h3 : (isW ta && isW tp)
  · have H1 := Lib.hid h1
    have H2 := Lib.hid h2
    have H3 := Lib.hid h3
    clear h1 h2 h3
    obtain ⟨x0, x1, x2, x3, x4, x5⟩ := CC.out wq hk
    go_enter Try.func103, Try.ntmps103
    go_wp2_with fail
    rw [← WQ.out]
    refine (spec_inRange _ _ _ _).mono ?_
    rintro e w' ⟨rfl, rfl⟩
    rw [H1.out]
    go_wp2_with fail
    refine (spec_validEnd _ _ _).mono ?_
    rintro e w2 ⟨rfl, hb2⟩
    rw [H2.out]
    clear x0 x1 x2 x3 x4 x5
    obtain ⟨x0, x1, x2, x3, x4, x5⟩ := CC.out w2 hb2
    go_wp2_with fail
    refine (spec_validEnd _ _ _).mono ?_
    rintro e w3 ⟨rfl, hb3⟩
    rw [H3.out]
    have hk3 := bstep hb2 hb3 hb2.size
    go_wp2
    go_ret
    exact ⟨rfl, hq.trans (hk3.mono hq.size)⟩
  have H1 := Lib.hid h1
  have H2 := Lib.hid h2
  have H3 := Lib.hid h3
  clear h1 h2 h3
  by_cases h4 : d.length ≤ 12
  · rw [decide_eq_true h4]
    cases h5 : d.all isW
    all_goals
      have H5 := Lib.hid h5
      clear h5
      obtain ⟨x0, x1, x2, x3, x4, x5⟩ := CC.out wq hk
      go_enter Try.func103, Try.ntmps103
      go_wp2_with fail
      rw [← WQ.out]
      refine (spec_inRange _ _ _ _).mono ?_
      rintro e w' ⟨rfl, rfl⟩
      rw [H1.out]
      go_wp2_with fail
      refine (spec_validEnd _ _ _).mono ?_
      rintro e w2 ⟨rfl, hb2⟩
      rw [H2.out]
      clear x0 x1 x2 x3 x4 x5
      obtain ⟨x0, x1, x2, x3, x4, x5⟩ := CC.out w2 hb2
      go_wp2_with fail
      refine (spec_validEnd _ _ _).mono ?_
      rintro e w3 ⟨rfl, hb3⟩
      rw [H3.out]
      have hk3 := bstep hb2 hb3 hb2.size
      clear x0 x1 x2 x3 x4 x5
      obtain ⟨x0, x1, x2, x3, x4, x5⟩ := CC.out w3 hk3
      go_wp2_with fail
      refine (spec_allIn _ _ _ _ _ rfl hl (SL.out _ hk3)).mono ?_
      rintro e w' ⟨rfl, rfl⟩
      rw [H5.out]
      go_wp2
      go_ret
      exact ⟨rfl, hq.trans (hk3.mono hq.size)⟩
  · rw [decide_eq_false h4]
    obtain ⟨x0, x1, x2, x3, x4, x5⟩ := CC.out wq hk
    go_enter Try.func103, Try.ntmps103
    go_wp2_with fail
    rw [← WQ.out]
    refine (spec_inRange _ _ _ _).mono ?_
    rintro e w' ⟨rfl, rfl⟩
    rw [H1.out]
    go_wp2_with fail
    refine (spec_validEnd _ _ _).mono ?_
    rintro e w2 ⟨rfl, hb2⟩
    rw [H2.out]
    clear x0 x1 x2 x3 x4 x5
    obtain ⟨x0, x1, x2, x3, x4, x5⟩ := CC.out w2 hb2
    go_wp2_with fail
    refine (spec_validEnd _ _ _).mono ?_
    rintro e w3 ⟨rfl, hb3⟩
    rw [H3.out]
    have hk3 := bstep hb2 hb3 hb2.size
    clear x0 x1 x2 x3 x4 x5
    obtain ⟨x0, x1, x2, x3, x4, x5⟩ := CC.out w3 hk3
    go_wp2
    go_ret
    exact ⟨rfl, hq.trans (hk3.mono hq.size)⟩
theorem Concat_set (k fa fp ta tp : Int) (d : List Int) (u : Int) : (wordsP ⟨k, fa, fp, ta, tp, d⟩ 0).set 1 u = wordsP ⟨k, fa, fp, ta, tp, d⟩ u := rfl
end Go.Proofs.Ytlgfmnognhojnaa
