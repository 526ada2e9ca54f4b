/- PacketCheck, IsRight, UpdateCheck, copies, ReversePacket, walked. -/
import Derived.Test.YtnkdhpbbiilekaaKe
namespace Go.Proofs.Ytnkdhpbbiilekaa
open Go.RowKit
set_option maxHeartbeats 2000000 in
theorem impl_PacketCheck (k fa fp ta tp : Int) (d : List Int) (A : Option Addr) (c n : Nat) (w : World) (hn : n = d.length) (hl : d.length ≤ 2000000) (hs : Sl encI 1 w A c d) :
    Calls Try.prog 20 #[.agg #[.int .i64 k, .int .i64 fa, .int .i64 fp, .int .i64 ta, .int .i64 tp, .slice A n c]] w (Ret w (.int .i64 (checkV ⟨k, fa, fp, ta, tp, d⟩))) := by
  subst hn
  obtain ⟨wq, hwq⟩ : ∃ y, y = w.alloc (.cells #[.int .i64 k, .int .i64 fa, .int .i64 fp, .int .i64 ta, .int .i64 tp, .slice A d.length c] 27) := ⟨_, rfl⟩
  have hq : Below w.heap.size w wq := by subst hwq; exact (Below.refl _ _).alloc (Nat.le_refl _) _
  have hzq : wq.heap.size = w.heap.size + 1 := by subst hwq; exact alloc_size _ _
  have bx : PkAt wq w.heap.size k fa fp ta tp (.slice A d.length c) := by subst hwq; exact PkAt.new _ _ _ _ _ _ _ _
  have BX := Lib.hid bx
  have CC := Lib.hid (fun W (h : Below wq.heap.size wq W) => (bx.below h (by omega)).cells)
  have SL := Lib.hid (fun W (h : Below wq.heap.size wq W) => hs.below (hq.trans (h.mono hq.size)))
  have HZ := Lib.hid hzq
  have WQ := Lib.hid hwq
  have hk : Below wq.heap.size wq wq := Below.refl _ _
  clear hwq hs bx hzq
  obtain ⟨r, hr⟩ : ∃ r, okPk ⟨k, fa, fp, ta, tp, d⟩ = r := ⟨_, rfl⟩
  obtain ⟨L, hL⟩ : ∃ L, packV ⟨k, fa, fp, ta, tp, d⟩ = L := ⟨_, rfl⟩
  obtain ⟨m, hm⟩ : ∃ m, L.length = m := ⟨_, rfl⟩
  cases r
  · have hm0 : m = 0 := by rw [← hm, ← hL, packV_bad hr]; rfl
    subst hm0
    rw [checkV_neg hr]
    have hnil := fun W => Lib.run_eql_slice_nil (P := Try.prog) W 25 3 none 0 0 0 0 Try.underlying25
    have HR := Lib.hid hr
    have HL := Lib.hid hL
    have HM := Lib.hid hm
    clear hL hm hr
    go_enter Try.func20, Try.ntmps20
    go_wp2_with fail
    rw [← WQ.out]
    refine (impl_PackPacket _ _ _ _ _ _ _ _ _ _ rfl hl (SL.out _ hk) L 0 false HR.out HL.out HM.out).mono ?_
    rintro e w2 ⟨A2, rfl, hA, ho2, hb2⟩
    obtain rfl : A2 = none := by rcases hA with ⟨_, h⟩ | ⟨h, _⟩; exact h; cases h
    clear hA ho2
    go_wp2
    go_ret
    exact ⟨rfl, hq.trans (hb2.mono hq.size)⟩
  · have hLe : wordsP ⟨k, fa, fp, ta, tp, d⟩ (chk ⟨k, fa, fp, ta, tp, d⟩) = L := by rw [← hL, packV_ok hr]
    have hm6 : 6 ≤ m := by rw [← hm, ← hLe, wordsP_len]; omega
    rw [checkV_ok hr]
    obtain ⟨ck, hck⟩ : ∃ ck, chk ⟨k, fa, fp, ta, tp, d⟩ = ck := ⟨_, rfl⟩
    rw [hck] at hLe ⊢
    have h1 : L[1]? = some ck := by rw [← hLe]; exact words_at1 _ _
    have HR := Lib.hid hr
    have HL := Lib.hid hL
    have HM := Lib.hid hm
    have H1 := Lib.hid h1
    clear hL hm hr hLe hck h1
    go_enter Try.func20, Try.ntmps20
    go_wp2_with fail
    rw [← WQ.out]
    refine (impl_PackPacket _ _ _ _ _ _ _ _ _ _ rfl hl (SL.out _ hk) L m true HR.out HL.out HM.out).mono ?_
    rintro e w2 ⟨A2, rfl, hA, ho2, hb2⟩
    obtain ⟨g, rfl⟩ : ∃ g, A2 = some ⟨g, 0, none⟩ := by rcases hA with ⟨h, _⟩ | ⟨_, h⟩; cases h; exact h
    obtain ⟨b, o, e1, hbs, hrow⟩ := ho2.1.base (i := 1) (by rw [HM.out]; omega)
    injection e1 with e1
    injection e1 with e1 e2
    subst e1
    subst e2
    have d1 := hrow.inn (Below.refl _ _) hbs H1.out
    simp only [Nat.zero_add] at d1
    have hnil := fun W => Lib.run_eql_slice_nil (P := Try.prog) W 25 3 (some ⟨g, 0, none⟩) m m 0 0 Try.underlying25
    clear hA ho2 hrow
    go_wp2
    go_ret
    exact ⟨rfl, hq.trans (hb2.mono hq.size)⟩
set_option maxHeartbeats 2000000 in
theorem spec_PacketCheck (k fa fp ta tp : Int) (d : List Int) (A : Option Addr) (c n : Nat) (w : World) (hn : n = d.length) (hl : d.length ≤ 2000000) (hs : Sl encI 1 w A c d) :
    Calls Try.prog 22 #[.agg #[.int .i64 k, .int .i64 fa, .int .i64 fp, .int .i64 ta, .int .i64 tp, .slice A n c]] w (Ret w (.int .i64 (checkV ⟨k, fa, fp, ta, tp, d⟩))) := by
  subst hn
  obtain ⟨wq, hwq⟩ : ∃ y, y = w.alloc (.cells #[.int .i64 k, .int .i64 fa, .int .i64 fp, .int .i64 ta, .int .i64 tp, .slice A d.length c] 27) := ⟨_, rfl⟩
  have hq : Below w.heap.size w wq := by subst hwq; exact (Below.refl _ _).alloc (Nat.le_refl _) _
  have hzq : wq.heap.size = w.heap.size + 1 := by subst hwq; exact alloc_size _ _
  have bx : PkAt wq w.heap.size k fa fp ta tp (.slice A d.length c) := by subst hwq; exact PkAt.new _ _ _ _ _ _ _ _
  have BX := Lib.hid bx
  have CC := Lib.hid (fun W (h : Below wq.heap.size wq W) => (bx.below h (by omega)).cells)
  have SL := Lib.hid (fun W (h : Below wq.heap.size wq W) => hs.below (hq.trans (h.mono hq.size)))
  have HZ := Lib.hid hzq
  have WQ := Lib.hid hwq
  have hk : Below wq.heap.size wq wq := Below.refl _ _
  clear hwq hs bx hzq
  obtain ⟨r, hr⟩ : ∃ r, okPk ⟨k, fa, fp, ta, tp, d⟩ = r := ⟨_, rfl⟩
  cases r
  · rw [checkV_neg hr]
    have HR := Lib.hid hr
    clear hr
    go_enter Try.func22, Try.ntmps22
    go_wp2_with fail
    rw [← WQ.out]
    refine (spec_validPacket _ _ _ _ _ _ _ _ _ _ rfl hl (SL.out _ hk)).mono ?_
    rintro e w2 ⟨rfl, hb2⟩
    rw [HR.out]
    go_wp2
    go_ret
    exact ⟨rfl, hq.trans (hb2.mono hq.size)⟩
  · rw [checkV_ok hr]
    obtain ⟨L0, hL0⟩ : ∃ L0, wordsP ⟨k, fa, fp, ta, tp, d⟩ 0 = L0 := ⟨_, rfl⟩
    obtain ⟨m, hm⟩ : ∃ m, L0.length = m := ⟨_, rfl⟩
    have hd12 : d.length ≤ 12 := (okPk_iff.1 hr).2.2.2.1
    have hm18 : m ≤ 18 := by rw [← hm, ← hL0, wordsP_len]; show 6 + d.length ≤ 18; omega
    have hin : ∀ y ∈ L0, 0 ≤ y ∧ y ≤ 65535 := by rw [← hL0]; exact wordsP_in hr (by omega) (by omega)
    obtain ⟨T, hT⟩ : ∃ T, tot L0 = T := ⟨_, rfl⟩
    have hTr : 0 ≤ T ∧ T ≤ 65535 := by rw [← hT]; exact tot_range hin
    obtain ⟨hT0, hT1⟩ := hTr
    rw [show chk ⟨k, fa, fp, ta, tp, d⟩ = 65535 - T from by unfold chk; rw [hL0, hT]]
    have HR := Lib.hid hr
    have HL0 := Lib.hid hL0
    have HM := Lib.hid hm
    have HIN := Lib.hid hin
    have HT := Lib.hid hT
    clear hr hL0 hm hin hT
    go_enter Try.func22, Try.ntmps22
    go_wp2_with fail
    rw [← WQ.out]
    refine (spec_validPacket _ _ _ _ _ _ _ _ _ _ rfl hl (SL.out _ hk)).mono ?_
    rintro e w2 ⟨rfl, hb2⟩
    rw [HR.out]
    obtain ⟨x0, x1, x2, x3, x4, x5⟩ := CC.out w2 hb2
    go_wp2_with fail
    refine (spec_words _ _ _ _ _ _ _ _ _ _ rfl hl (SL.out _ hb2) 0 L0 m HL0.out HM.out).mono ?_
    rintro e w3 ⟨A3, c3, rfl, ho3, hb3⟩
    have hk3 := bstep hb2 hb3 hb2.size
    have O3 := Lib.hid ho3
    clear x0 x1 x2 x3 x4 x5 ho3
    go_wp2_with (first | (go_at_call 49; refine (spec_sumOf _ _ _ L0 _ HM.out.symm (by rw [HM.out]; omega) HIN.out O3.out.sl).mono ?_; rintro e w' ⟨rfl, rfl⟩; rw [HT.out]))
    go_ret
    exact ⟨rfl, hq.trans (hk3.mono hq.size)⟩
theorem impl_SumOf (A : Option Addr) (c n : Nat) (l : List Int) (w : World) (hn : n = l.length) (h20 : l.length ≤ 20) (hall : l.all isW = true) (hs : Sl encI 1 w A c l) :
    Calls Try.prog 63 #[.slice A n c] w (Same w (.int .i64 (tot l))) := by
  subst hn
  have HS := Lib.hid hs
  have HA := Lib.hid hall
  clear hs hall
  go_enter Try.func63, Try.ntmps63
  go_wp2_with (first | (go_at_call 54; refine (impl_areWords _ _ _ _ (by omega) HS.out).mono ?_; rintro e w' ⟨rfl, rfl⟩; rw [HA.out]) | (go_at_call 47; refine (impl_total _ _ _ _ _ rfl (by omega) (all_words HA.out) HS.out).mono ?_; rintro e w' ⟨rfl, rfl⟩))
  go_ret
  exact ⟨rfl, rfl⟩
theorem impl_IsRight (A : Option Addr) (c n : Nat) (l : List Int) (w : World) (hn : n = l.length) (h20 : l.length ≤ 20) (hall : l.all isW = true) (ht : tot l = 65535) (hs : Sl encI 1 w A c l) :
    Calls Try.prog 40 #[.slice A n c] w (Same w (.bool true)) := by
  subst hn
  have HS := Lib.hid hs
  have HA := Lib.hid hall
  have HT := Lib.hid ht
  clear hs hall ht
  go_enter Try.func40, Try.ntmps40
  go_wp2_with (first | (go_at_call 63; refine (impl_SumOf _ _ _ l _ rfl h20 HA.out HS.out).mono ?_; rintro e w' ⟨rfl, rfl⟩; rw [HT.out]))
  go_ret
  exact ⟨rfl, rfl⟩
theorem three_at (w : World) (x y z : Int) : Ow encI 1 3 w.heap.size (w.alloc (.cells #[.int .i64 x, .int .i64 y, .int .i64 z] 3)) (some ⟨w.heap.size, 0, none⟩) 3 [x, y, z] :=
  Ow.lit (enc := encI) (k := 1) (e := 3) (B := w.heap.size) (cs := #[.int .i64 x, .int .i64 y, .int .i64 z]) (l := [x, y, z]) w (Nat.le_refl _) rfl (fun _ => rfl) (by show 3 ≤ maxLen; unfold maxLen; omega)
set_option maxHeartbeats 1000000 in
theorem impl_UpdateCheck (c o n : Int) (w : World) :
    Calls Try.prog 31 #[.int .i64 c, .int .i64 o, .int .i64 n] w (Ret w (.int .i64 (updV c o n))) := by
  have S0 := Lib.hid (three_at w c o n).sl
  cases h : (isW c && (isW o && isW n))
  · have e : updV c o n = -1 := by unfold updV; rw [h]; rfl
    rw [e]
    have H := Lib.hid (show [c, o, n].all isW = false by simpa using h)
    clear h e
    go_enter Try.func31, Try.ntmps31
    go_wp2_with (first | (go_at_call 54; refine (impl_areWords _ _ [c, o, n] _ (by simp) S0.out).mono ?_; rintro e w' ⟨rfl, rfl⟩; rw [H.out]))
    go_ret
    exact ⟨rfl, (Below.refl _ _).alloc (Nat.le_refl _) _⟩
  · have h' := h
    simp only [Bool.and_eq_true, isW_iff] at h'
    obtain ⟨⟨c0, c1⟩, ⟨o0, o1⟩, n0, n1⟩ := h'
    have hin : ∀ x ∈ [65535 - c, 65535 - o, n], 0 ≤ x ∧ x ≤ 65535 := by
      intro x hx
      simp only [List.mem_cons, List.not_mem_nil, or_false] at hx
      rcases hx with rfl | rfl | rfl <;> omega
    obtain ⟨T, hT⟩ : ∃ T, tot [65535 - c, 65535 - o, n] = T := ⟨_, rfl⟩
    have hTr := tot_range hin
    rw [hT] at hTr
    obtain ⟨T0, T1⟩ := hTr
    have e : updV c o n = 65535 - T := by unfold updV; rw [h, if_pos rfl, hT]
    rw [e]
    have H := Lib.hid (show [c, o, n].all isW = true by simpa using h)
    obtain ⟨wa, hwa⟩ : ∃ y, y = w.alloc (.cells #[.int .i64 c, .int .i64 o, .int .i64 n] 3) := ⟨_, rfl⟩
    have hba : Below w.heap.size w wa := by subst hwa; exact (Below.refl _ _).alloc (Nat.le_refl _) _
    have S1 := Lib.hid (three_at wa (65535 - c) (65535 - o) n).sl
    have HIN := Lib.hid hin
    have HT := Lib.hid hT
    have WA := Lib.hid hwa
    clear h e hin hT hwa
    go_enter Try.func31, Try.ntmps31
    go_wp2_with fail
    refine (impl_areWords _ _ [c, o, n] _ (by simp) S0.out).mono ?_
    rintro e w' ⟨rfl, rfl⟩
    rw [H.out, ← WA.out]
    go_wp2_with fail
    refine (impl_total _ _ _ [65535 - c, 65535 - o, n] _ rfl (by simp) HIN.out S1.out).mono ?_
    rintro e w' ⟨rfl, rfl⟩
    rw [HT.out]
    go_wp2
    go_ret
    exact ⟨rfl, hba.alloc hba.size _⟩
end Go.Proofs.Ytnkdhpbbiilekaa
