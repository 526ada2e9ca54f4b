/- Valid contacts: the program's test and the reference's, walked. -/
import Derived.Test.YtlgfmnognhojnaaCt
namespace Go.Proofs.Ytlgfmnognhojnaa
open Go.RowKit
set_option maxHeartbeats 2000000 in
theorem impl_ValidContacts (A : Option Addr) (c : Nat) (l : List Ct) (w : World) (hl : l.length ≤ 2000000) (hs : Sl encC 3 w A c l) :
    Calls Try.prog 21 #[.slice A l.length c] w (Ret w (.bool (vC l))) := by
  go_enter Try.func21, Try.ntmps21
  go_wp2
  go_loopw [7] (fun i wr => ∃ k : Nat, k ≤ l.length ∧ i = .int .i64 k ∧ Below w.heap.size w wr ∧ goodC (l.take k)) (fun i _ => l.length - (intOf i).toNat)
  case atStart => exact ⟨0, Nat.zero_le _, rfl, Below.refl _ _, by simp [goodC]⟩
  case round =>
    obtain ⟨k, hk, rfl, hb, hg⟩ := hrel
    have HG := Lib.hid hg
    clear hg
    by_cases hlt : k < l.length
    · have hlc := hs.1
      have hst := hs.take k
      have hstl : (l.take k).length = k := by simp; omega
      have HST := Lib.hid hst
      have HSL := Lib.hid hstl
      clear hst hstl
      obtain ⟨b, o, rfl, hbs, hc⟩ := hs.base hlt
      obtain ⟨p, a, q, hx⟩ := ct_at hlt
      obtain ⟨d0, d1, d2⟩ := hc.ct hb hbs hx
      have X := Lib.hid hx
      clear hs hc hx
      obtain ⟨wq, hwq⟩ : ∃ x, x = wr.alloc (.cells #[.int .i64 p, .int .i64 a, .int .i64 q] 75) := ⟨_, rfl⟩
      have hq : Below w.heap.size w wq := by subst hwq; exact hb.alloc hb.size _
      have HB : Below w.heap.size w wq := hq
      have hwz : w.heap.size ≤ wq.heap.size := hq.size
      have z0 : wr.heap.size < wq.heap.size := by subst hwq; simp
      have c0 : ∀ y : BW wq.heap.size wq, y.w.cell? ⟨wr.heap.size, 0, none⟩ = some (.int .i64 p) := bwCell z0 (by subst hwq; exact cell_of_row _ _ _ _ _ _ (heap_alloc_new _ _))
      have c1 : ∀ y : BW wq.heap.size wq, y.w.cell? ⟨wr.heap.size, 1, none⟩ = some (.int .i64 a) := bwCell z0 (by subst hwq; exact cell_of_row _ _ _ _ _ _ (heap_alloc_new _ _))
      have c2 : ∀ y : BW wq.heap.size wq, y.w.cell? ⟨wr.heap.size, 2, none⟩ = some (.int .i64 q) := bwCell z0 (by subst hwq; exact cell_of_row _ _ _ _ _ _ (heap_alloc_new _ _))
      have WQ := Lib.hid hwq
      clear hwq
      have C1 := Lib.hid (impl_Contact_valid p a q)
      cases h1 : okC ⟨p, a, q⟩
      · have H1 := Lib.hid h1
        clear h1
        go_wp2_with fail
        rw [← WQ.out]
        refine wp_region_bw wq.heap.size wq (Below.refl _ _) (by kernel_rfl) (by kernel_rfl) ?_
        repeat (go_big_quiet_step (first | (go_at_call 60; exact bwCall (Nat.le_refl _) (H1.out ▸ C1.out _))))
        refine wpQuiet_nil ?_
        rintro _ ⟨⟨w3, h3⟩, rfl⟩
        go_wp2
        go_ret
        exact ⟨by rw [vC_bad X.out H1.out]; rfl, hq.trans (h3.mono hwz)⟩
      · have H1 := Lib.hid h1
        clear h1
        have C2 := Lib.hid (fun W h => Contains_ct (some ⟨b, o, none⟩) c k (l.take k) p a q W HSL.out (by omega) h)
        cases h2 : decide ((⟨p, a, q⟩ : Ct) ∈ l.take k)
        all_goals
          have H2 := Lib.hid h2
          clear h2
          go_wp2_with fail
          rw [← WQ.out]
          refine wp_region_bw wq.heap.size wq (Below.refl _ _) (by kernel_rfl) (by kernel_rfl) ?_
          repeat (go_big_quiet_step (first | (go_at_call 60; exact bwCall (Nat.le_refl _) (H1.out ▸ C1.out _)) | (go_at_call 61; exact bwCall (Nat.le_refl _) (H2.out ▸ C2.out _ (bwSl HST.out hq hwz)))))
          refine wpQuiet_nil ?_
          rintro _ ⟨⟨w3, h3⟩, rfl⟩
          go_wp2
        · go_roundw
          case rel => exact ⟨k + 1, by omega, by go_num, hq.trans (h3.mono hwz), goodC_step X.out HG.out H1.out (of_decide_eq_false H2.out)⟩
          case measure => simp [intOf]; omega
        · go_ret
          obtain ⟨m, hm, hm'⟩ := mem_take_of (of_decide_eq_true H2.out)
          exact ⟨by rw [vC_dup X.out hm hm']; rfl, hq.trans (h3.mono hwz)⟩
    · go_wp2
      go_ret
      have hkl : k = l.length := by omega
      exact ⟨by rw [vC_end (by rw [← hkl]; exact HG.out)]; rfl, hb⟩
set_option maxHeartbeats 2000000 in
theorem spec_validContacts (A : Option Addr) (c : Nat) (l : List Ct) (w : World) (hl : l.length ≤ 2000000) (hs : Sl encC 3 w A c l) :
    Calls Try.prog 75 #[.slice A l.length c] w (Ret w (.bool (vC l))) := by
  go_enter Try.func75, Try.ntmps75
  go_wp2
  go_loopw [3] (fun i wr => ∃ k : Nat, k ≤ l.length ∧ i = .int .i64 k ∧ Below w.heap.size w wr ∧ goodC (l.take k)) (fun i _ => l.length - (intOf i).toNat)
  case atStart => exact ⟨0, Nat.zero_le _, rfl, Below.refl _ _, by simp [goodC]⟩
  case round =>
    obtain ⟨k, hk, rfl, hb, hg⟩ := hrel
    have HG := Lib.hid hg
    clear hg
    by_cases hlt : k < l.length
    · obtain ⟨b, o, rfl, hbs, hc⟩ := hs.base hlt
      obtain ⟨p, a, q, hx⟩ := ct_at hlt
      obtain ⟨c0, c1, c2⟩ := hc.ct hb hbs hx
      have X := Lib.hid hx
      clear hs hx
      cases h1 : inR p 1000 1007
      · have H1 := Lib.hid h1
        clear h1
        go_wp2_with (first | (go_at_call 31; refine (spec_inRange _ _ _ _).mono ?_; rintro e w' ⟨rfl, rfl⟩; rw [H1.out]))
        go_ret
        exact ⟨by rw [vC_bad X.out (by simp [okC, H1.out])]; rfl, hb⟩
      cases h2 : (isW a && isW q)
      · have H1 := Lib.hid h1
        have H2 := Lib.hid h2
        clear h1 h2
        go_wp2_with (first | (go_at_call 31; refine (spec_inRange _ _ _ _).mono ?_; rintro e w' ⟨rfl, rfl⟩; rw [H1.out]) | (go_at_call 97; refine (spec_validEnd _ _ _).mono ?_; rintro e w2 ⟨rfl, hb2⟩; rw [H2.out]))
        go_ret
        exact ⟨by rw [vC_bad X.out (by simp only [okC, H1.out, H2.out]; rfl)]; rfl, bstep hb hb2 hb.size⟩
      have H1 := Lib.hid h1
      have H2 := Lib.hid h2
      clear h1 h2
      go_wp2_with (first | (go_at_call 31; refine (spec_inRange _ _ _ _).mono ?_; rintro e w' ⟨rfl, rfl⟩; rw [H1.out]) | (go_at_call 97; refine (spec_validEnd _ _ _).mono ?_; rintro e w2 ⟨rfl, hb2⟩; rw [H2.out]))
      have hb3 := bstep hb hb2 hb.size
      clear hb hb2 c0 c1 c2
      obtain ⟨w3, rfl⟩ : ∃ x, x = w2 := ⟨_, rfl⟩
      go_loopw [4] (fun i wr => ∃ m : Nat, m ≤ k ∧ i = .int .i64 m ∧ Below w.heap.size w wr ∧ ∀ y ∈ l.take m, decide (y = (⟨p, a, q⟩ : Ct)) = false) (fun i _ => k - (intOf i).toNat)
      case atStart => exact ⟨0, Nat.zero_le _, rfl, hb3, by simp⟩
      case round =>
        obtain ⟨m, hm, rfl, hb, hn⟩ := hrel
        have HN := Lib.hid hn
        clear hb3 hn
        obtain ⟨c0, c1, c2⟩ := hc.ct hb hbs X.out
        by_cases hmk : m < k
        · have hml : m < l.length := by omega
          obtain ⟨p', a', q', hy⟩ := ct_at hml
          obtain ⟨d0, d1, d2⟩ := hc.ct hb hbs hy
          have Y := Lib.hid hy
          clear hy hc
          cases he : decide ((⟨p', a', q'⟩ : Ct) = ⟨p, a, q⟩)
          all_goals
            have HE := Lib.hid he
            have E := eqCt _ _ _ _ _ _ he
            clear he
            go_wp2
            go_quiet (fail)
            go_wp2
          · go_roundw
            case rel => exact ⟨m + 1, by omega, by go_num, bdrewN hb _, none_step Y.out HE.out HN.out⟩
            case measure => simp [intOf]; omega
          · go_ret
            have hyx := of_decide_eq_true HE.out
            exact ⟨by rw [vC_dup X.out hmk (by rw [← hyx]; exact Y.out)]; rfl, bdrewN hb _⟩
        · have hmk' : m = k := by omega
          have HK := Lib.hid hmk'
          clear hmk'
          go_wp2
          go_roundw
          case rel =>
            refine ⟨k + 1, by omega, by go_num, hb, goodC_step X.out HG.out (by simp only [okC, H1.out, H2.out]; rfl) ?_⟩
            intro hmem
            have := HN.out _ (by rw [HK.out]; exact hmem)
            simp at this
          case measure => simp [intOf]; omega
    · go_wp2
      go_ret
      have hkl : k = l.length := by omega
      exact ⟨by rw [vC_end (by rw [← hkl]; exact HG.out)]; rfl, hb⟩
end Go.Proofs.Ytlgfmnognhojnaa
