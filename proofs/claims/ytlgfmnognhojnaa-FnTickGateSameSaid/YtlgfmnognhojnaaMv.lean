/- Valid tables: the program's test and the reference's, walked. -/
import Derived.Test.YtlgfmnognhojnaaMt
namespace Go.Proofs.Ytlgfmnognhojnaa
open Go.RowKit
theorem okM_of {a q p t : Int} {r1 r2 r3 : Bool} (h1 : (isW a && isW q) = r1) (h2 : inR p 1000 1007 = r2) (h3 : inR t 0 10000 = r3) : okM ⟨a, q, p, t⟩ = (r1 && (r2 && r3)) := by
  unfold okM; rw [h1, h2, h3]
set_option maxHeartbeats 4000000 in
theorem impl_ValidTable (A : Option Addr) (c n : Nat) (l : List Mp) (w : World) (hn : n = l.length) (hl : l.length ≤ 2000000) (hs : Sl encM 4 w A c l) :
    Calls Try.prog 20 #[.slice A n c] w (Ret w (.bool (vM l))) := by
  subst hn
  go_enter Try.func20, Try.ntmps20
  go_wp2
  go_loopw [7] (fun i wr => ∃ k : Nat, k ≤ l.length ∧ i = .int .i64 k ∧ Below w.heap.size w wr ∧ goodM (l.take k)) (fun i _ => l.length - (intOf i).toNat)
  case atStart => exact ⟨0, Nat.zero_le _, rfl, Below.refl _ _, by simpa using goodM_nil⟩
  case round =>
    obtain ⟨k, hk, rfl, hb, hg⟩ := hrel
    have HG := Lib.hid hg
    clear hg
    by_cases hlt : k < l.length
    · have hlc := hs.1
      have hst := hs.take k
      have hstl : (l.take k).length = k := by simp; omega
      have HST := Lib.hid hst
      have HSL := Lib.hid hstl
      have hl2 : (l.take k).length ≤ 2000000 := by omega
      clear hst hstl
      obtain ⟨b, o, rfl, hbs, hc⟩ := hs.base hlt
      obtain ⟨a, q, p, t, hx⟩ := mt_at hlt
      obtain ⟨d0, d1, d2, d3⟩ := hc.mt hb hbs hx
      have X := Lib.hid hx
      clear hs hc hx
      obtain ⟨wq, hwq⟩ : ∃ x, x = wr.alloc (.cells #[.int .i64 a, .int .i64 q, .int .i64 p, .int .i64 t] 64) := ⟨_, rfl⟩
      have hq : Below w.heap.size w wq := by subst hwq; exact hb.alloc hb.size _
      have hwz : w.heap.size ≤ wq.heap.size := hq.size
      have z0 : wr.heap.size < wq.heap.size := by subst hwq; simp
      have c0 : ∀ y : BW wq.heap.size wq, y.w.cell? ⟨wr.heap.size, 0, none⟩ = some (.int .i64 a) := bwCell z0 (by subst hwq; exact cell_of_row _ _ _ _ _ _ (heap_alloc_new _ _))
      have c1 : ∀ y : BW wq.heap.size wq, y.w.cell? ⟨wr.heap.size, 1, none⟩ = some (.int .i64 q) := bwCell z0 (by subst hwq; exact cell_of_row _ _ _ _ _ _ (heap_alloc_new _ _))
      have c2 : ∀ y : BW wq.heap.size wq, y.w.cell? ⟨wr.heap.size, 2, none⟩ = some (.int .i64 p) := bwCell z0 (by subst hwq; exact cell_of_row _ _ _ _ _ _ (heap_alloc_new _ _))
      have c3 : ∀ y : BW wq.heap.size wq, y.w.cell? ⟨wr.heap.size, 3, none⟩ = some (.int .i64 t) := bwCell z0 (by subst hwq; exact cell_of_row _ _ _ _ _ _ (heap_alloc_new _ _))
      have WQ := Lib.hid hwq
      clear hwq
      have C1 := Lib.hid (impl_End_valid a q)
      cases h1 : (isW a && isW q)
      · have H1 := Lib.hid h1
        clear h1
        go_wp2_with fail
        rw [← WQ.out]
        refine wp_region_bw wq.heap.size wq (Below.refl _ _) (by kernel_rfl) (by kernel_rfl) ?_
        repeat (go_big_quiet_step (first | (go_at_call 56; exact bwCall (Nat.le_refl _) (H1.out ▸ C1.out _))))
        refine wpQuiet_nil ?_
        rintro _ ⟨⟨w3, h3⟩, rfl⟩
        go_wp2
        go_ret
        exact ⟨by rw [vM_bad X.out (okM_of H1.out rfl rfl)]; rfl, hq.trans (h3.mono hwz)⟩
      have H1 := Lib.hid h1
      clear h1
      cases h2 : inR p 1000 1007
      · have H2 := Lib.hid h2
        clear h2
        go_wp2_with fail
        rw [← WQ.out]
        refine wp_region_bw wq.heap.size wq (Below.refl _ _) (by kernel_rfl) (by kernel_rfl) ?_
        repeat (go_big_quiet_step (first | (go_at_call 56; exact bwCall (Nat.le_refl _) (H1.out ▸ C1.out _)) | (go_at_call 57; exact bwSame (H2.out ▸ impl_isOutside _ _))))
        refine wpQuiet_nil ?_
        rintro _ ⟨⟨w3, h3⟩, rfl⟩
        go_wp2
        go_ret
        exact ⟨by rw [vM_bad X.out (okM_of H1.out H2.out rfl)]; rfl, hq.trans (h3.mono hwz)⟩
      have H2 := Lib.hid h2
      clear h2
      cases h3 : inR t 0 10000
      · have H3 := Lib.hid h3
        clear h3
        go_wp2_with fail
        rw [← WQ.out]
        refine wp_region_bw wq.heap.size wq (Below.refl _ _) (by kernel_rfl) (by kernel_rfl) ?_
        repeat (go_big_quiet_step (first | (go_at_call 56; exact bwCall (Nat.le_refl _) (H1.out ▸ C1.out _)) | (go_at_call 57; exact bwSame (H2.out ▸ impl_isOutside _ _)) | (go_at_call 58; exact bwSame (H3.out ▸ impl_isTime _ _))))
        refine wpQuiet_nil ?_
        rintro _ ⟨⟨w3, h3⟩, rfl⟩
        go_wp2
        go_ret
        exact ⟨by rw [vM_bad X.out (okM_of H1.out H2.out H3.out)]; rfl, hq.trans (h3.mono hwz)⟩
      have H3 := Lib.hid h3
      have OK := Lib.hid (show okM ⟨a, q, p, t⟩ = true from okM_of H1.out H2.out H3.out)
      clear h3
      obtain ⟨e, he⟩ : ∃ e, byE (l.take k) a q = e := ⟨_, rfl⟩
      obtain ⟨f, hf⟩ : ∃ f, byP (l.take k) p = f := ⟨_, rfl⟩
      have C4 := Lib.hid (fun W h => he ▸ impl_byEnd (some ⟨b, o, none⟩) c k (l.take k) a q W HSL.out.symm hl2 h)
      have C5 := Lib.hid (fun W h => hf ▸ impl_byPort (some ⟨b, o, none⟩) c k (l.take k) p W HSL.out.symm hl2 h)
      by_cases h4 : 0 ≤ e
      · obtain ⟨m, y, hm1, hm2, hm3, _⟩ := idx_pos (p := sameE a q) (l := l.take k) (by unfold byE at he; omega)
        have D4 : decide (0 ≤ e) = true := decide_eq_true h4
        have VB := Lib.hid (show vM l = false from by
          have hmk : m < k := by have := lt_of_get hm2; rw [HSL.out] at this; exact this
          rw [List.getElem?_take, if_pos hmk] at hm2
          exact vM_dupE X.out hmk hm2 hm3)
        clear hm1 hm2 hm3 he hf
        go_wp2_with fail
        rw [← WQ.out]
        refine wp_region_bw wq.heap.size wq (Below.refl _ _) (by kernel_rfl) (by kernel_rfl) ?_
        repeat (go_big_quiet_step (first | (go_at_call 56; exact bwCall (Nat.le_refl _) (H1.out ▸ C1.out _)) | (go_at_call 57; exact bwSame (H2.out ▸ impl_isOutside _ _)) | (go_at_call 58; exact bwSame (H3.out ▸ impl_isTime _ _)) | (go_at_call 59; exact bwCall (Nat.le_refl _) (C4.out _ (bwSl HST.out hq hwz)))))
        refine wpQuiet_nil ?_
        rintro _ ⟨⟨w3, h3⟩, rfl⟩
        go_wp2
        go_ret
        exact ⟨by rw [VB.out]; rfl, hq.trans (h3.mono hwz)⟩
      have D4 : decide (0 ≤ e) = false := decide_eq_false h4
      have N4 := Lib.hid (idx_neg (p := sameE a q) (l := l.take k) (by unfold byE at he; omega)).2
      by_cases h5 : 0 ≤ f
      · obtain ⟨m, y, hm1, hm2, hm3, _⟩ := idx_pos (p := sameP p) (l := l.take k) (by unfold byP at hf; omega)
        have D5 : decide (0 ≤ f) = true := decide_eq_true h5
        have VB := Lib.hid (show vM l = false from by
          have hmk : m < k := by have := lt_of_get hm2; rw [HSL.out] at this; exact this
          rw [List.getElem?_take, if_pos hmk] at hm2
          exact vM_dupP X.out hmk hm2 hm3)
        clear hm1 hm2 hm3 he hf
        go_wp2_with fail
        rw [← WQ.out]
        refine wp_region_bw wq.heap.size wq (Below.refl _ _) (by kernel_rfl) (by kernel_rfl) ?_
        repeat (go_big_quiet_step (first | (go_at_call 56; exact bwCall (Nat.le_refl _) (H1.out ▸ C1.out _)) | (go_at_call 57; exact bwSame (H2.out ▸ impl_isOutside _ _)) | (go_at_call 58; exact bwSame (H3.out ▸ impl_isTime _ _)) | (go_at_call 59; exact bwCall (Nat.le_refl _) (C4.out _ (bwSl HST.out hq hwz))) | (go_at_call 47; exact bwCall (Nat.le_refl _) (C5.out _ (bwSl HST.out hq hwz)))))
        refine wpQuiet_nil ?_
        rintro _ ⟨⟨w3, h3⟩, rfl⟩
        go_wp2
        go_ret
        exact ⟨by rw [VB.out]; rfl, hq.trans (h3.mono hwz)⟩
      have D5 : decide (0 ≤ f) = false := decide_eq_false h5
      have N5 := Lib.hid (idx_neg (p := sameP p) (l := l.take k) (by unfold byP at hf; omega)).2
      clear he hf
      go_wp2_with fail
      rw [← WQ.out]
      refine wp_region_bw wq.heap.size wq (Below.refl _ _) (by kernel_rfl) (by kernel_rfl) ?_
      repeat (go_big_quiet_step (first | (go_at_call 56; exact bwCall (Nat.le_refl _) (H1.out ▸ C1.out _)) | (go_at_call 57; exact bwSame (H2.out ▸ impl_isOutside _ _)) | (go_at_call 58; exact bwSame (H3.out ▸ impl_isTime _ _)) | (go_at_call 59; exact bwCall (Nat.le_refl _) (C4.out _ (bwSl HST.out hq hwz))) | (go_at_call 47; exact bwCall (Nat.le_refl _) (C5.out _ (bwSl HST.out hq hwz)))))
      refine wpQuiet_nil ?_
      rintro _ ⟨⟨w3, h3⟩, rfl⟩
      go_wp2
      go_roundw
      case rel => exact ⟨k + 1, by omega, by go_num, hq.trans (h3.mono hwz), goodM_step X.out HG.out OK.out N4.out N5.out⟩
      case measure => simp [intOf]; omega
    · go_wp2
      go_ret
      have hkl : k = l.length := by omega
      exact ⟨by rw [vM_end (by rw [← hkl]; exact HG.out)]; rfl, hb⟩
theorem mt_cells (w : World) (a q p t : Int) {W : World} (hb : Below (w.alloc (.cells #[.int .i64 a, .int .i64 q, .int .i64 p, .int .i64 t] 64)).heap.size (w.alloc (.cells #[.int .i64 a, .int .i64 q, .int .i64 p, .int .i64 t] 64)) W) :
    W.cell? ⟨w.heap.size, 0, none⟩ = some (.int .i64 a) ∧ W.cell? ⟨w.heap.size, 1, none⟩ = some (.int .i64 q) ∧ W.cell? ⟨w.heap.size, 2, none⟩ = some (.int .i64 p) ∧ W.cell? ⟨w.heap.size, 3, none⟩ = some (.int .i64 t) ∧ w.heap.size < W.heap.size := by
  have hz := hb.size
  rw [alloc_size] at hz
  exact ⟨bcell hb (by simp) (cell_of_row _ _ _ _ _ _ (heap_alloc_new w _)), bcell hb (by simp) (cell_of_row _ _ _ _ _ _ (heap_alloc_new w _)), bcell hb (by simp) (cell_of_row _ _ _ _ _ _ (heap_alloc_new w _)), bcell hb (by simp) (cell_of_row _ _ _ _ _ _ (heap_alloc_new w _)), hz⟩
set_option maxHeartbeats 4000000 in
theorem spec_validTable (A : Option Addr) (c n : Nat) (l : List Mp) (w : World) (hn : n = l.length) (hl : l.length ≤ 2000000) (hs : Sl encM 4 w A c l) :
    Calls Try.prog 74 #[.slice A n c] w (Ret w (.bool (vM l))) := by
  subst hn
  go_enter Try.func74, Try.ntmps74
  go_wp2
  go_loopw [3] (fun i wr => ∃ k : Nat, k ≤ l.length ∧ i = .int .i64 k ∧ Below w.heap.size w wr ∧ goodM (l.take k)) (fun i _ => l.length - (intOf i).toNat)
  case atStart => exact ⟨0, Nat.zero_le _, rfl, Below.refl _ _, by simpa using goodM_nil⟩
  case round =>
    obtain ⟨k, hk, rfl, hb, hg⟩ := hrel
    have HG := Lib.hid hg
    clear hg
    by_cases hlt : k < l.length
    · obtain ⟨b, o, rfl, hbs, hc⟩ := hs.base hlt
      obtain ⟨a, q, p, t, hx⟩ := mt_at hlt
      obtain ⟨d0, d1, d2, d3⟩ := hc.mt hb hbs hx
      have X := Lib.hid hx
      obtain ⟨wq, hwq⟩ : ∃ x, x = wr.alloc (.cells #[.int .i64 a, .int .i64 q, .int .i64 p, .int .i64 t] 64) := ⟨_, rfl⟩
      have hq : Below w.heap.size w wq := by subst hwq; exact hb.alloc hb.size _
      have MC := Lib.hid (fun W (h : Below wq.heap.size wq W) => mt_cells wr a q p t (W := W) (by subst hwq; exact h))
      obtain ⟨c0, c1, c2, c3, cz⟩ := MC.out wq (Below.refl _ _)
      have WQ := Lib.hid hwq
      clear hs hx hwq
      cases h1 : (isW a && isW q)
      · have H1 := Lib.hid h1
        clear h1
        go_wp2_with fail
        rw [← WQ.out]
        refine (spec_validEnd _ _ _).mono ?_
        rintro e w2 ⟨rfl, hb2⟩
        rw [H1.out]
        go_wp2
        go_ret
        exact ⟨by rw [vM_bad X.out (okM_of H1.out rfl rfl)]; rfl, bstep hq hb2 hq.size⟩
      have H1 := Lib.hid h1
      clear h1
      go_wp2_with fail
      rw [← WQ.out]
      refine (spec_validEnd _ _ _).mono ?_
      rintro e w2 ⟨rfl, hb2⟩
      rw [H1.out]
      have hq2 := bstep hq hb2 hq.size
      have MC2 := Lib.hid (fun W (h : Below w2.heap.size w2 W) => MC.out W (hb2.trans (h.mono hb2.size)))
      clear c0 c1 c2 c3 cz
      obtain ⟨c0, c1, c2, c3, cz⟩ := MC2.out w2 (Below.refl _ _)
      cases h2 : inR p 1000 1007
      · have H2 := Lib.hid h2
        clear h2
        go_wp2_with (first | (go_at_call 31; refine (spec_inRange _ _ _ _).mono ?_; rintro e w' ⟨rfl, rfl⟩; rw [H2.out]))
        go_ret
        exact ⟨by rw [vM_bad X.out (okM_of H1.out H2.out rfl)]; rfl, hq2⟩
      have H2 := Lib.hid h2
      clear h2
      cases h3 : inR t 0 10000
      · have H3 := Lib.hid h3
        clear h3
        go_wp2_with (first | (go_at_call 31; first | ((with_reducible refine (spec_inRange p 1000 1007 _).mono ?_); rintro e w' ⟨rfl, rfl⟩; rw [H2.out]) | ((with_reducible refine (spec_inRange t 0 10000 _).mono ?_); rintro e w' ⟨rfl, rfl⟩; rw [H3.out])))
        go_ret
        exact ⟨by rw [vM_bad X.out (okM_of H1.out H2.out H3.out)]; rfl, hq2⟩
      have H3 := Lib.hid h3
      have OK := Lib.hid (show okM ⟨a, q, p, t⟩ = true from okM_of H1.out H2.out H3.out)
      clear h3
      go_wp2_with (first | (go_at_call 31; first | ((with_reducible refine (spec_inRange p 1000 1007 _).mono ?_); rintro e w' ⟨rfl, rfl⟩; rw [H2.out]) | ((with_reducible refine (spec_inRange t 0 10000 _).mono ?_); rintro e w' ⟨rfl, rfl⟩; rw [H3.out])))
      clear hb2 c0 c1 c2 c3 cz d0 d1 d2 d3 hb hq
      obtain ⟨w3, rfl⟩ : ∃ x, x = w2 := ⟨_, rfl⟩
      go_loopw [5] (fun i wi => ∃ m : Nat, m ≤ k ∧ i = .int .i64 m ∧ Below w3.heap.size w3 wi ∧ (∀ y ∈ l.take m, sameE a q y = false) ∧ ∀ y ∈ l.take m, sameP p y = false) (fun i _ => k - (intOf i).toNat)
      case atStart => exact ⟨0, Nat.zero_le _, rfl, Below.refl _ _, by simp, by simp⟩
      case round =>
        obtain ⟨m, hm, rfl, hbi, hnE, hnP⟩ := hrel
        have NE := Lib.hid hnE
        have NP := Lib.hid hnP
        clear hnE hnP
        obtain ⟨c0, c1, c2, c3, cz⟩ := MC2.out _ hbi
        have hbw := hq2.trans (hbi.mono hq2.size)
        by_cases hmk : m < k
        · have hml : m < l.length := by omega
          obtain ⟨a', q', p', t', hy⟩ := mt_at hml
          obtain ⟨d0, d1, d2, d3⟩ := hc.mt hbw hbs hy
          have Y := Lib.hid hy
          clear hy hc
          cases he : ((a' == a) && (q' == q))
          · have HE := Lib.hid (show sameE a q ⟨a', q', p', t'⟩ = false from he)
            have E := eqlEnB _ _ _ _ he
            clear he
            cases hp : (p' == p)
            all_goals
              have HP := Lib.hid (show sameP p ⟨a', q', p', t'⟩ = _ from hp)
              go_wp2
              go_quiet (fail)
              go_wp2
            · go_roundw
              case rel => exact ⟨m + 1, by omega, by go_num, bdrewN hbi _, none_step Y.out HE.out NE.out, none_step Y.out HP.out NP.out⟩
              case measure => simp [intOf]; omega
            · go_ret
              exact ⟨by rw [vM_dupP X.out hmk Y.out HP.out]; rfl, bdrewN hbw _⟩
          · have HE := Lib.hid (show sameE a q ⟨a', q', p', t'⟩ = true from he)
            have E := eqlEnB _ _ _ _ he
            clear he
            go_wp2
            go_quiet (fail)
            go_wp2
            go_ret
            exact ⟨by rw [vM_dupE X.out hmk Y.out HE.out]; rfl, bdrewN hbw _⟩
        · have hmk' : m = k := by omega
          have NE2 := Lib.hid (show ∀ y ∈ l.take k, sameE a q y = false by rw [← hmk']; exact NE.out)
          have NP2 := Lib.hid (show ∀ y ∈ l.take k, sameP p y = false by rw [← hmk']; exact NP.out)
          clear hmk'
          go_wp2
          go_roundw
          case rel => exact ⟨k + 1, by omega, by go_num, hbw, goodM_step X.out HG.out OK.out NE2.out NP2.out⟩
          case measure => simp [intOf]; omega
    · go_wp2
      go_ret
      have hkl : k = l.length := by omega
      exact ⟨by rw [vM_end (by rw [← hkl]; exact HG.out)]; rfl, hb⟩
end Go.Proofs.Ytlgfmnognhojnaa
