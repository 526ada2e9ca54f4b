/- The reference's NoteContact, walked. -/
import Derived.Test.YtafmalklgecomaaCp
namespace Go.Proofs.Ytafmalklgecomaa
open Go.RowKit
theorem ret_slice {A : Option Addr} {n m c : Nat} (h : n = m) : Ending.returned (.slice A n c) = .returned (.slice A m c) := by rw [h]
set_option maxHeartbeats 4000000 in
theorem spec_note (A : Option Addr) (c : Nat) (l : List Ct) (p0 a0 q0 : Int) (w : World) (hl : l.length ≤ 10) (hs : Sl encC 3 w A c l) :
    Calls Try.prog 55 #[.slice A l.length c, .agg #[.int .i64 p0, .int .i64 a0, .int .i64 q0]] w (fun e w' => ∃ A' c', e = .returned (.slice A' (noteC l ⟨p0, a0, q0⟩).length c') ∧ Ow encC 3 29 w.heap.size w' A' c' (noteC l ⟨p0, a0, q0⟩) ∧ Below w.heap.size w w') := by
  obtain ⟨wq, hwq⟩ : ∃ x, x = w.alloc (.cells #[.int .i64 p0, .int .i64 a0, .int .i64 q0] 29) := ⟨_, rfl⟩
  have hq : Below w.heap.size w wq := by subst hwq; exact (Below.refl _ _).alloc (Nat.le_refl _) _
  have hwz : wq.heap.size = w.heap.size + 1 := by subst hwq; exact alloc_size _ _
  have hzz : w.heap.size < wq.heap.size := by omega
  have c0 : ∀ W, Below wq.heap.size wq W → W.cell? ⟨w.heap.size, 0, none⟩ = some (.int .i64 p0) := fun W h => bcell h hzz (by subst hwq; exact cell_of_row _ _ _ _ _ _ (heap_alloc_new _ _))
  have c1 : ∀ W, Below wq.heap.size wq W → W.cell? ⟨w.heap.size, 1, none⟩ = some (.int .i64 a0) := fun W h => bcell h hzz (by subst hwq; exact cell_of_row _ _ _ _ _ _ (heap_alloc_new _ _))
  have c2 : ∀ W, Below wq.heap.size wq W → W.cell? ⟨w.heap.size, 2, none⟩ = some (.int .i64 q0) := fun W h => bcell h hzz (by subst hwq; exact cell_of_row _ _ _ _ _ _ (heap_alloc_new _ _))
  have hwa : Below wq.heap.size wq (wq.alloc (.cells #[] 29)) := (Below.refl _ _).alloc (Nat.le_refl _) _
  have hwo : Ow encC 3 29 wq.heap.size (wq.alloc (.cells #[] 29)) (some ⟨wq.heap.size, 0, none⟩) 0 ([] : List Ct) := Ow.empty wq (Nat.le_refl _)
  have WQ := Lib.hid hwq
  have HS := Lib.hid (fun W (h : Below wq.heap.size wq W) => hs.below (hq.trans (h.mono hq.size)))
  have C0 := Lib.hid c0
  have C1 := Lib.hid c1
  have C2 := Lib.hid c2
  have HWO := Lib.hid hwo
  have HZ := Lib.hid hwz
  clear hwq hwz hs c0 c1 c2 hwo
  go_enter Try.func55, Try.ntmps55
  go_wp2
  rw [← WQ.out]
  go_loopw [5, 6] (fun out i wr => ∃ (n : Nat) (A' : Option Addr) (c' : Nat), n ≤ l.length ∧ i = .int .i64 n ∧ out = .slice A' (keep (fun y => decide (y = (⟨p0, a0, q0⟩ : Ct))) (l.take n)).length c' ∧ Ow encC 3 29 wq.heap.size wr A' c' (keep (fun y => decide (y = (⟨p0, a0, q0⟩ : Ct))) (l.take n)) ∧ Below wq.heap.size wq wr) (fun _ i _ => l.length - (intOf i).toNat)
  case atStart => exact ⟨0, _, _, Nat.zero_le _, rfl, rfl, by have h := HWO.out; have e := HZ.out; rw [e] at h ⊢; exact h, hwa⟩
  case round =>
    obtain ⟨n, A1, c1, hn, rfl, rfl, hown, hb⟩ := hrel
    have HO := Lib.hid hown
    clear hwa hown
    have x0 := C0.out _ hb
    have x1 := C1.out _ hb
    have x2 := C2.out _ hb
    have hz : w.heap.size < wr.heap.size := Nat.lt_of_lt_of_le hzz hb.size
    by_cases hlt : n < l.length
    · obtain ⟨b, o, rfl, hbs, hc⟩ := (HS.out wq (Below.refl _ _)).base hlt
      obtain ⟨p, a, q, hx⟩ := ct_at hlt
      obtain ⟨d0, d1, d2⟩ := hc.ct hb hbs hx
      have hF := keep_snoc (f := fun y : Ct => decide (y = (⟨p0, a0, q0⟩ : Ct))) hx
      have hFl := keep_len (fun y : Ct => decide (y = (⟨p0, a0, q0⟩ : Ct))) (l.take n)
      rw [List.length_take, Nat.min_eq_left hn] at hFl
      have KF := Lib.hid hF
      clear hc hx hF
      cases he : decide ((⟨p, a, q⟩ : Ct) = ⟨p0, a0, q0⟩)
      · have HE := Lib.hid he
        have E := neqCt _ _ _ _ _ _ he
        clear he
        have hwb : Below wr.heap.size wr (wr.alloc (.cells #[.int .i64 p, .int .i64 a, .int .i64 q] 29)) := (Below.refl _ _).alloc (Nat.le_refl _) _
        go_wp2
        go_quiet (fail)
        go_wp2_with (with_reducible refine wpList_app elC rfl (.tmp 20) (.tmp 25) rfl wq.heap.size _ _ _ (keep (fun y => decide (y = (⟨p0, a0, q0⟩ : Ct))) (l.take n)) rfl rfl ((HO.out.drewN _).alloc _) _ _ _ [⟨p, a, q⟩] rfl rfl (blC _ p a q).sl ?c1 (by decide) (Nat.le_trans hb.size (by simp)) ?_)
        case c1 => simp; omega
        intro A7 c7 w7 hown7 hg7 _
        have hb7 : Below wq.heap.size wq w7 := below_app ((bdrewN hb _).alloc hb.size _) hg7 (Nat.le_trans hb.size hwb.size) (fun g hg => (HO.out.blk g hg).1)
        go_wp2
        go_roundw
        case rel =>
          have hF := KF.out
          rw [HE.out] at hF
          simp only [Bool.false_eq_true, if_false] at hF
          exact ⟨n + 1, A7, c7, by omega, by go_num, by rw [hF, List.length_append]; rfl, by rw [hF]; exact hown7, hb7⟩
        case measure => simp [intOf]; omega
      · have HE := Lib.hid he
        have E := neqCt _ _ _ _ _ _ he
        clear he
        go_wp2
        go_quiet (fail)
        go_wp2
        go_roundw
        case rel =>
          have hF := KF.out
          rw [HE.out, if_pos rfl, List.append_nil] at hF
          exact ⟨n + 1, A1, c1, by omega, by go_num, by rw [hF], by rw [hF]; exact HO.out.drewN _, bdrewN hb _⟩
        case measure => simp [intOf]; omega
    · have hnl : n = l.length := by omega
      have h := HO.out
      rw [hnl, List.take_length] at h ⊢
      have HO2 := Lib.hid h
      have hF := keep_len (fun y : Ct => decide (y = (⟨p0, a0, q0⟩ : Ct))) l
      clear h HO hnl
      have e8 := (note_eq l ⟨p0, a0, q0⟩ hl).2
      have hF10 := (note_eq l ⟨p0, a0, q0⟩ hl).1
      have E8 := Lib.hid e8
      clear e8
      generalize keep (fun y => decide (y = (⟨p0, a0, q0⟩ : Ct))) l = F at *
      go_wp2_with (with_reducible refine wpList_app elC rfl (.tmp 27) (.tmp 29) rfl wq.heap.size _ _ _ F rfl rfl (HO2.out.alloc _) _ _ _ [⟨p0, a0, q0⟩] rfl rfl (blC _ p0 a0 q0).sl ?c1 (by decide) (Nat.le_trans hb.size (by simp)) ?_)
      case c1 => simp; omega
      intro A7 c7 w7 hown7 hg7 _
      have hb7 : Below wq.heap.size wq w7 := below_app (hb.alloc hb.size _) hg7 (Nat.le_trans hb.size (by simp)) (fun g hg => (HO2.out.blk g hg).1)
      obtain ⟨g7, rfl, hgB, hlc7, hcm7, _⟩ := hown7.resolve_left (by rintro ⟨_, _, h⟩; simp at h)
      have HO := Lib.hid hown7
      have hl7 : F.length + 1 ≤ c7 := by simpa using hlc7
      have hm7 : c7 ≤ 9223372036854775807 := by unfold maxLen at hcm7; omega
      clear hown7 hlc7
      by_cases h10 : F.length + 1 ≤ 10
      · go_wp2_with (with_reducible refine wpList_app elC rfl (.tmp 31) (.tmp 37) rfl w7.heap.size _ _ _ [] rfl ?c0 (Ow.empty w7 (Nat.le_refl _)) _ _ _ (F ++ [⟨p0, a0, q0⟩]) rfl ?c1 (HO.out.alloc _).sl ?c2 (by decide) (by simp) ?_)
        case c0 => rfl
        case c1 => simp
        case c2 => simp; omega
        intro A8 c8 w8 hown8 hg8 _
        have hb8 : Below w7.heap.size w7 w8 := below_app ((Below.refl _ _).alloc (Nat.le_refl _) _) hg8 (by simp) (fun g h => (by simp [blk] at h; omega))
        go_wp2
        go_ret
        have e8 : noteC l ⟨p0, a0, q0⟩ = F ++ [⟨p0, a0, q0⟩] := by rw [E8.out, List.length_append, List.length_singleton, show F.length + 1 - 10 = 0 from by omega]; rfl
        rw [e8]
        have hz7 : w.heap.size ≤ w7.heap.size := Nat.le_trans hq.size hb7.size
        exact ⟨A8, c8, ret_slice (by simp), hown8.base hz7, hq.trans ((bstep hb7 hb8 hb7.size).mono hq.size)⟩
      · have hF9 : 10 ≤ F.length := by omega
        have h1c : 1 < c7 := by omega
        have hs2 : Sl encC 3 (w7.alloc (.cells #[] 29)) (some ⟨g7, (F.length - 9) * 3, none⟩) (c7 - (F.length - 9)) ((F ++ [(⟨p0, a0, q0⟩ : Ct)]).drop (F.length - 9)) := by
          have h := (HO.out.alloc (.cells #[] 29)).sl.drop (F.length - 9) (by simp; omega)
          rw [if_neg (show ¬ c7 = F.length - 9 by omega)] at h
          have hne : ¬ (F.length - 9) * 3 = 0 := by omega
          simpa [Addr.add, hne] using h
        have HS2 := Lib.hid hs2
        clear hs2
        have e8 : noteC l ⟨p0, a0, q0⟩ = (F ++ [(⟨p0, a0, q0⟩ : Ct)]).drop (F.length - 9) := by rw [E8.out, List.length_append, List.length_singleton, show F.length + 1 - 10 = F.length - 9 from by omega]
        have E9 := Lib.hid e8
        clear e8
        go_wp2_with (with_reducible refine wpList_app elC rfl (.tmp 31) (.tmp 37) rfl w7.heap.size _ _ _ [] rfl ?c0 (Ow.empty w7 (Nat.le_refl _)) _ _ _ ((F ++ [(⟨p0, a0, q0⟩ : Ct)]).drop (F.length - 9)) rfl ?c1 HS2.out ?c2 (by decide) (by simp) ?_)
        case c0 => rfl
        case c1 => simp
        case c2 => simp; omega
        intro A8 c8 w8 hown8 hg8 _
        have hb8 : Below w7.heap.size w7 w8 := below_app ((Below.refl _ _).alloc (Nat.le_refl _) _) hg8 (by simp) (fun g h => (by simp [blk] at h; omega))
        go_wp2
        go_ret
        rw [E9.out]
        have hz7 : w.heap.size ≤ w7.heap.size := Nat.le_trans hq.size hb7.size
        exact ⟨A8, c8, ret_slice (by simp), hown8.base hz7, hq.trans ((bstep hb7 hb8 hb7.size).mono hq.size)⟩
theorem vC_single (p a q : Int) : vC [⟨p, a, q⟩] = okC ⟨p, a, q⟩ := by
  rw [Bool.eq_iff_iff]
  unfold vC
  rw [decide_eq_true_iff]
  simp
set_option maxHeartbeats 2000000 in
theorem spec_NoteContact (A : Option Addr) (c : Nat) (l : List Ct) (p a q : Int) (w : World) (hl : l.length ≤ 2000000) (hs : Sl encC 3 w A c l) :
    Calls Try.prog 29 #[.slice A l.length c, .agg #[.int .i64 p, .int .i64 a, .int .i64 q]] w (fun e w' => Below w.heap.size w w' ∧
      ((vC l && okC ⟨p, a, q⟩) = false ∧ e = .returned (.tuple #[.slice none 0 0, .bool false]) ∨
       (vC l && okC ⟨p, a, q⟩) = true ∧ ∃ A' c', e = .returned (.tuple #[.slice A' (noteC l ⟨p, a, q⟩).length c', .bool true]) ∧ Ow encC 3 29 w.heap.size w' A' c' (noteC l ⟨p, a, q⟩))) := by
  obtain ⟨wq, hwq⟩ : ∃ x, x = w.alloc (.cells #[.int .i64 p, .int .i64 a, .int .i64 q] 29) := ⟨_, rfl⟩
  have hq : Below w.heap.size w wq := by subst hwq; exact (Below.refl _ _).alloc (Nat.le_refl _) _
  have hwz : wq.heap.size = w.heap.size + 1 := by subst hwq; exact alloc_size _ _
  have hzz : w.heap.size < wq.heap.size := by omega
  have c0 : ∀ W, Below wq.heap.size wq W → W.cell? ⟨w.heap.size, 0, none⟩ = some (.int .i64 p) := fun W h => bcell h hzz (by subst hwq; exact cell_of_row _ _ _ _ _ _ (heap_alloc_new _ _))
  have c1 : ∀ W, Below wq.heap.size wq W → W.cell? ⟨w.heap.size, 1, none⟩ = some (.int .i64 a) := fun W h => bcell h hzz (by subst hwq; exact cell_of_row _ _ _ _ _ _ (heap_alloc_new _ _))
  have c2 : ∀ W, Below wq.heap.size wq W → W.cell? ⟨w.heap.size, 2, none⟩ = some (.int .i64 q) := fun W h => bcell h hzz (by subst hwq; exact cell_of_row _ _ _ _ _ _ (heap_alloc_new _ _))
  have WQ := Lib.hid hwq
  have HS := Lib.hid (fun W (h : Below wq.heap.size wq W) => hs.below (hq.trans (h.mono hq.size)))
  have C0 := Lib.hid c0
  have C1 := Lib.hid c1
  have C2 := Lib.hid c2
  have V1 := Lib.hid (vC_single p a q)
  clear hwq hwz hs c0 c1 c2
  cases h1 : vC l
  · have H1 := Lib.hid h1
    clear h1
    go_enter Try.func29, Try.ntmps29
    go_wp2_with (first | (go_at_call 41; rw [← WQ.out]; refine (spec_validContacts _ _ _ _ hl (HS.out _ (Below.refl _ _))).mono ?_; rintro e w2 ⟨rfl, hb2⟩; rw [H1.out]))
    go_ret2
    exact ⟨bstep hq hb2 hq.size, .inl ⟨rfl, rfl⟩⟩
  have hl10 : l.length ≤ 10 := by unfold vC at h1; exact (of_decide_eq_true h1).1
  cases h2 : okC ⟨p, a, q⟩
  all_goals
    have H1 := Lib.hid h1
    have H2 := Lib.hid h2
    clear h1 h2
    go_enter Try.func29, Try.ntmps29
    go_wp2_with fail
    rw [← WQ.out]
    refine (spec_validContacts _ _ _ _ hl (HS.out _ (Below.refl _ _))).mono ?_
    rintro e w2 ⟨rfl, hb2⟩
    rw [H1.out]
    have d0 := C0.out _ hb2
    have d1 := C1.out _ hb2
    have d2 := C2.out _ hb2
    have hz2 : w.heap.size < w2.heap.size := Nat.lt_of_lt_of_le hzz hb2.size
    have B1 := Lib.hid (blC w2 p a q)
    go_wp2_with fail
    refine (spec_validContacts _ _ [⟨p, a, q⟩] _ (by simp) B1.out.sl).mono ?_
    rintro e w3 ⟨rfl, hb3⟩
    rw [V1.out, H2.out]
    have hk3 : Below wq.heap.size wq w3 := hb2.trans ((((Below.refl w2.heap.size w2).alloc (Nat.le_refl _) _).trans (hb3.mono (by simp))).mono hb2.size)
    have e0 := C0.out _ hk3
    have e1 := C1.out _ hk3
    have e2 := C2.out _ hk3
    have hz3 : w.heap.size < w3.heap.size := Nat.lt_of_lt_of_le hzz hk3.size
    clear d0 d1 d2
  · go_wp2
    go_ret2
    exact ⟨hq.trans (hk3.mono hq.size), .inl ⟨rfl, rfl⟩⟩
  · go_wp2_with fail
    refine (spec_note _ _ _ _ _ _ _ hl10 (HS.out _ hk3)).mono ?_
    rintro e w4 ⟨A4, c4, rfl, hown4, hb4⟩
    go_wp2
    go_ret2
    have hk4 := bstep hk3 hb4 hk3.size
    exact ⟨hq.trans (hk4.mono hq.size), .inr ⟨rfl, A4, c4, rfl, hown4.base (Nat.le_trans hq.size hk3.size)⟩⟩
end Go.Proofs.Ytafmalklgecomaa
