/- Timers: what is asked of the arguments, what is expired; ExpireTable, walked. -/
import Derived.Test.YtpfmlenodgjebaaTd
import Derived.Test.YtpfmlenodgjebaaTw
import Derived.Test.YtpfmlenodgjebaaMq
namespace Go.Proofs.Ytpfmlenodgjebaa
open Go.RowKit
theorem impl_timed (A : Option Addr) (c n : Nat) (l : List Mp) (now hold : Int) (w : World) (hn : n = l.length) (hl : l.length ≤ 2000000) (hs : Sl encM 4 w A c l) :
    Calls Try.prog 76 #[.slice A n c, .int .i64 now, .int .i64 hold] w (Ret w (.bool (tim l now hold))) := by
  subst hn
  have HS := Lib.hid hs
  clear hs
  unfold tim
  cases h1 : vM l <;> cases h2 : inR now 0 10000
  all_goals
    have H1 := Lib.hid h1
    have H2 := Lib.hid h2
    clear h1 h2
    go_enter Try.func76, Try.ntmps76
    go_wp2_with (first | (go_at_call 31; refine (impl_ValidTable _ _ _ _ _ rfl hl HS.out).mono ?_; rintro e w2 ⟨rfl, hb2⟩; rw [H1.out]) | (go_at_call 65; refine (impl_isTime _ _).mono ?_; rintro e w' ⟨rfl, rfl⟩; rw [H2.out]) | (go_at_call 88; refine (impl_in _ _ _ _).mono ?_; rintro e w' ⟨rfl, rfl⟩))
    go_ret
    exact ⟨by simp, hb2⟩
theorem spec_validTimer (now hold : Int) (w : World) :
    Calls Try.prog 79 #[.int .i64 now, .int .i64 hold] w (Same w (.bool (inR now 0 10000 && inR hold 1 500))) := by
  cases h2 : inR now 0 10000
  all_goals
    have H2 := Lib.hid h2
    clear h2
    go_enter Try.func79, Try.ntmps79
    go_wp2_with (first | (go_at_call 61; refine (spec_inRange _ _ _ _).mono ?_; rintro e w' ⟨rfl, rfl⟩; try rw [H2.out]))
    go_ret
    exact ⟨by simp, rfl⟩
/-- What the program's test says for any numbers. -/
def wexq (now hold : Int) (x : Mp) : Bool := decide (hold ≤ wrap64 (now - x.l))
theorem wexq_eq {now hold : Int} {x : Mp} (h0 : 0 ≤ now) (h1 : now ≤ 10000) (t0 : 0 ≤ x.l) (t1 : x.l ≤ 10000) : wexq now hold x = exq now hold x := by
  unfold wexq exq
  have : wrap64 (now - x.l) = now - x.l := by unfold wrap64; omega
  rw [this]
theorem impl_expired (a q p t now hold : Int) (w : World) :
    Calls Try.prog 81 #[.agg #[.int .i64 a, .int .i64 q, .int .i64 p, .int .i64 t], .int .i64 now, .int .i64 hold] w (Ret w (.bool (wexq now hold ⟨a, q, p, t⟩))) := by
  go_enter Try.func81, Try.ntmps81
  go_wp2
  go_ret
  exact ⟨rfl, (Below.refl _ _).alloc (Nat.le_refl _) _⟩
theorem spec_expired (a q p t now hold : Int) (w : World) (h0 : 0 ≤ now) (h1 : now ≤ 10000) (t0 : 0 ≤ t) (t1 : t ≤ 10000) :
    Calls Try.prog 80 #[.agg #[.int .i64 a, .int .i64 q, .int .i64 p, .int .i64 t], .int .i64 now, .int .i64 hold] w (Ret w (.bool (exq now hold ⟨a, q, p, t⟩))) := by
  go_enter Try.func80, Try.ntmps80
  go_wp2
  go_ret
  exact ⟨rfl, (Below.refl _ _).alloc (Nat.le_refl _) _⟩
theorem impl_ExpireTable_1 (a q p t now hold : Int) (bn bh : Nat) (W : World) (h1 : W.cell? ⟨bn, 0, none⟩ = some (.int .i64 now)) (h2 : W.cell? ⟨bh, 0, none⟩ = some (.int .i64 hold)) :
    Calls Try.prog 86 #[.agg #[.int .i64 a, .int .i64 q, .int .i64 p, .int .i64 t], .pointer (some ⟨bn, 0, none⟩), .pointer (some ⟨bh, 0, none⟩)] W (Ret W (.bool (wexq now hold ⟨a, q, p, t⟩))) := by
  have l1 := World.block_lt_of_cell? _ _ h1
  have l2 := World.block_lt_of_cell? _ _ h2
  simp only [] at l1 l2
  have hb : Below W.heap.size W (W.alloc (.cells #[.int .i64 a, .int .i64 q, .int .i64 p, .int .i64 t] 37)) := (Below.refl _ _).alloc (Nat.le_refl _) _
  have HB := Lib.hid hb
  clear hb
  go_enter Try.func86, Try.ntmps86
  go_wp2_with fail
  refine (impl_expired _ _ _ _ _ _ _).mono ?_
  rintro e w2 ⟨rfl, hb2⟩
  go_wp2
  go_ret
  exact ⟨rfl, bstep HB.out hb2 HB.out.size⟩
theorem keep_wexq {l : List Mp} {now hold : Int} (h : tim l now hold = true) : keep (wexq now hold) l = expV l now hold := by
  obtain ⟨hv, hn, _⟩ := tim_iff.1 h
  unfold expV keep
  rw [if_pos h]
  refine List.filter_congr fun x hx => ?_
  have := last_in hv hx
  rw [wexq_eq hn.1 hn.2 this.1 this.2]
set_option maxHeartbeats 2000000 in
theorem impl_ExpireTable (A : Option Addr) (c n : Nat) (l : List Mp) (now hold : Int) (w : World) (hn : n = l.length) (hl : l.length ≤ 2000000) (hs : Sl encM 4 w A c l) :
    Calls Try.prog 50 #[.slice A n c, .int .i64 now, .int .i64 hold] w (fun e w' => ∃ A', e = .returned (.slice A' (expV l now hold).length (expV l now hold).length) ∧ Out encM 4 w.heap.size w' A' (expV l now hold).length (expV l now hold) ∧ Below w.heap.size w w') := by
  subst hn
  obtain ⟨wq, hwq⟩ : ∃ x, x = (w.alloc (.cells #[.int .i64 now] 3)).alloc (.cells #[.int .i64 hold] 3) := ⟨_, rfl⟩
  have hq : Below w.heap.size w wq := by subst hwq; exact ((Below.refl _ _).alloc (Nat.le_refl _) _).alloc (by simp) _
  have hwz : wq.heap.size = w.heap.size + 1 + 1 := by subst hwq; simp
  have hzz : w.heap.size < wq.heap.size := by omega
  have hzz1 : w.heap.size + 1 < wq.heap.size := by omega
  have b0 : ∀ W, Below wq.heap.size wq W → W.cell? ⟨w.heap.size, 0, none⟩ = some (.int .i64 now) := fun W h => bcell h hzz (by
    subst hwq
    exact bcell ((Below.refl _ _).alloc (Nat.le_refl _) _) (by simp) (cell_of_row _ _ _ _ _ _ (heap_alloc_new _ _)))
  have b1 : ∀ W, Below wq.heap.size wq W → W.cell? ⟨w.heap.size + 1, 0, none⟩ = some (.int .i64 hold) := fun W h => bcell h hzz1 (by
    subst hwq
    have := heap_alloc_new (w.alloc (.cells #[.int .i64 now] 3)) (.cells #[.int .i64 hold] 3)
    rw [alloc_size] at this
    exact cell_of_row _ _ _ _ _ _ this)
  have hmf : ∀ (fn : Fn) (first cap : Array Value) (w : World), (Instr.makeFunc fn first cap).run Try.prog w = .ok (.func fn first cap) w := fun _ _ _ _ => rfl
  have WQ := Lib.hid hwq
  have SL := Lib.hid (fun W (h : Below wq.heap.size wq W) => hs.below (hq.trans (h.mono hq.size)))
  have CL := Lib.hid (fun W (h : Below wq.heap.size wq W) (a q p t : Int) => impl_ExpireTable_1 a q p t now hold w.heap.size (w.heap.size + 1) W (b0 W h) (b1 W h))
  have d0 := b0 wq (Below.refl _ _)
  have d1 := b1 wq (Below.refl _ _)
  have hk : Below wq.heap.size wq wq := Below.refl _ _
  cases ht : tim l now hold
  · have hr : expV l now hold = [] := by unfold expV; rw [ht]; rfl
    rw [hr]
    have HT := Lib.hid ht
    clear hwq hwz hs b0 b1 ht hr
    go_enter Try.func50, Try.ntmps50
    go_wp2_with fail
    rw [← WQ.out]
    go_wp2_with (first | (go_at_call 76; refine (impl_timed _ _ _ _ _ _ _ rfl hl (SL.out _ hk)).mono ?_; rintro e w2 ⟨rfl, hb2⟩; rw [HT.out]))
    go_ret
    exact ⟨none, rfl, ⟨Sl.nil, Fr.nil⟩, hq.trans (hb2.mono hq.size)⟩
  · have KW := Lib.hid (keep_wexq ht)
    have HT := Lib.hid ht
    clear hwq hwz hs b0 b1 ht
    go_enter Try.func50, Try.ntmps50
    go_wp2_with fail
    rw [← WQ.out]
    go_wp2_with (first | (go_at_call 76; refine (impl_timed _ _ _ _ _ _ _ rfl hl (SL.out _ hk)).mono ?_; rintro e w2 ⟨rfl, hb2⟩; rw [HT.out]) | (go_at_call 85; refine (Clone_mt _ _ _ _ _ rfl hl (SL.out _ hb2)).mono ?_; rintro e w5 ⟨A1, c1, rfl, hown1, hb5⟩) | (go_at_call 84; refine (DeleteFunc_mt _ _ w2.heap.size _ 86 #[.pointer (some ⟨w.heap.size, 0, none⟩), .pointer (some ⟨w.heap.size + 1, 0, none⟩)] (wexq now hold) _ hl hown1 hb5.size (fun _ _ => by kernel_rfl) (fun a q p t W hW => CL.out W (hb2.trans ((below_app hb5 hW hb5.size (fun g hg => (hown1.blk g hg).1)).mono hb2.size)) a q p t)).mono ?_; rintro e w6 ⟨rfl, how6, hg6⟩; have hk6 : Below w2.heap.size w2 w6 := below_app hb5 hg6 hb5.size (fun g hg => (hown1.blk g hg).1); have hm6 := how6.capm; have hl6 := how6.le) | (go_at_call 67; refine (Clip_mt _ _ _ _ hl6 hm6).mono ?_; rintro e w' ⟨rfl, rfl⟩))
    go_ret
    rw [KW.out] at how6 ⊢
    have ho : Out encM 4 w2.heap.size w6 A1 _ _ := ⟨how6.sl.cap, how6.fr⟩
    exact ⟨A1, rfl, ho.mono (Nat.le_trans hq.size hb2.size), hq.trans ((hb2.trans (hk6.mono hb2.size)).mono hq.size)⟩
set_option maxHeartbeats 2000000 in
theorem spec_expire (A : Option Addr) (c n : Nat) (l : List Mp) (now hold : Int) (w : World) (hn : n = l.length) (hl : l.length ≤ 2000000) (h0 : 0 ≤ now) (h1 : now ≤ 10000) (hL : ∀ x ∈ l, 0 ≤ x.l ∧ x.l ≤ 10000) (hs : Sl encM 4 w A c l) :
    Calls Try.prog 83 #[.slice A n c, .int .i64 now, .int .i64 hold] w (fun e w' => ∃ A' c', e = .returned (.slice A' (keep (exq now hold) l).length c') ∧ Ow encM 4 37 w.heap.size w' A' c' (keep (exq now hold) l) ∧ Below w.heap.size w w') := by
  subst hn
  have HS := Lib.hid hs
  have HLL := Lib.hid hL
  have hwa : Below w.heap.size w (w.alloc (.cells #[] 37)) := (Below.refl _ _).alloc (Nat.le_refl _) _
  have hwo : Ow encM 4 37 w.heap.size (w.alloc (.cells #[] 37)) (some ⟨w.heap.size, 0, none⟩) 0 ([] : List Mp) := Ow.empty w (Nat.le_refl _)
  have HWO := Lib.hid hwo
  clear hs hwo hL
  go_enter Try.func83, Try.ntmps83
  go_wp2
  go_loopw [7, 8] (fun out i wr => ∃ (n : Nat) (A' : Option Addr) (c' : Nat), n ≤ l.length ∧ i = .int .i64 n ∧ out = .slice A' (keep (exq now hold) (l.take n)).length c' ∧ Ow encM 4 37 w.heap.size wr A' c' (keep (exq now hold) (l.take n)) ∧ Below w.heap.size w wr) (fun _ i _ => l.length - (intOf i).toNat)
  case atStart => exact ⟨0, _, _, Nat.zero_le _, rfl, rfl, HWO.out, hwa⟩
  case round =>
    obtain ⟨n, A1, c1, hn, rfl, rfl, hown, hb⟩ := hrel
    have HO := Lib.hid hown
    clear hwa hown
    by_cases hlt : n < l.length
    · obtain ⟨b, o, rfl, hbs, hc⟩ := HS.out.base hlt
      obtain ⟨a, q, p, t, hx⟩ := mt_at hlt
      obtain ⟨t0, t1⟩ := HLL.out _ (List.mem_of_getElem? hx)
      simp only at t0 t1
      obtain ⟨d0, d1, d2, d3⟩ := hc.mt hb hbs hx
      have hF := keep_snoc (f := exq now hold) hx
      have hFl : (keep (exq now hold) (l.take n)).length ≤ (l.take n).length := List.length_filter_le _ _
      rw [List.length_take, Nat.min_eq_left hn] at hFl
      have KF := Lib.hid hF
      have X := Lib.hid hx
      have HC := Lib.hid hc
      clear hc hx hF
      cases hv : exq now hold ⟨a, q, p, t⟩
      · have HV := Lib.hid hv
        clear hv
        go_wp2_with (first | (go_at_call 80; refine (spec_expired _ _ _ _ _ _ _ h0 h1 t0 t1).mono ?_; rintro e w2 ⟨rfl, hb2⟩; rw [HV.out]; have hb3 := bstep hb hb2 hb.size; obtain ⟨e0, e1, e2, e3⟩ := HC.out.mt hb3 hbs X.out; have hwb : Below w2.heap.size w2 (w2.alloc (.cells #[.int .i64 a, .int .i64 q, .int .i64 p, .int .i64 t] 37)) := (Below.refl _ _).alloc (Nat.le_refl _) _) | (with_reducible refine wpList_app elM rfl (.tmp 24) (.tmp 29) rfl w.heap.size _ _ _ (keep (exq now hold) (l.take n)) rfl rfl ((HO.out.below hb2).alloc _) _ _ _ [⟨a, q, p, t⟩] rfl rfl (blM w2 a q p t).sl ?c1 (by decide) (Nat.le_trans hb3.size hwb.size) ?_))
        case c1 => first | omega | (simp; omega)
        intro A7 c7 w7 hown7 hg7 _
        have hb7 : Below w.heap.size w w7 := below_app (hb3.alloc hb3.size _) hg7 (Nat.le_trans hb3.size hwb.size) (fun g hg => (HO.out.blk g hg).1)
        go_wp2
        go_roundw
        case rel =>
          have hF := KF.out
          rw [HV.out] at hF
          simp only [Bool.false_eq_true, if_false] at hF
          exact ⟨n + 1, A7, c7, by omega, by go_num, by rw [hF, List.length_append]; rfl, by rw [hF]; exact hown7, hb7⟩
        case measure => simp [intOf]; omega
      · have HV := Lib.hid hv
        clear hv
        go_wp2_with (first | (go_at_call 80; refine (spec_expired _ _ _ _ _ _ _ h0 h1 t0 t1).mono ?_; rintro e w2 ⟨rfl, hb2⟩; rw [HV.out]))
        go_roundw
        case rel =>
          have hF := KF.out
          rw [HV.out, if_pos rfl, List.append_nil] at hF
          exact ⟨n + 1, A1, c1, by omega, by go_num, by rw [hF], by rw [hF]; exact HO.out.below hb2, bstep hb hb2 hb.size⟩
        case measure => simp [intOf]; omega
    · have hnl : n = l.length := by omega
      have HN := Lib.hid hnl
      clear hnl
      go_wp2
      go_ret
      have h := HO.out
      rw [HN.out, List.take_length] at h
      exact ⟨A1, c1, by rw [HN.out, List.take_length]; rfl, h, hb⟩
theorem spec_ExpireTable (A : Option Addr) (c n : Nat) (l : List Mp) (now hold : Int) (w : World) (hn : n = l.length) (hl : l.length ≤ 2000000) (hs : Sl encM 4 w A c l) :
    Calls Try.prog 49 #[.slice A n c, .int .i64 now, .int .i64 hold] w (fun e w' => ∃ A' c', e = .returned (.slice A' (expV l now hold).length c') ∧ Ow encM 4 37 w.heap.size w' A' c' (expV l now hold) ∧ Below w.heap.size w w') := by
  subst hn
  have HS := Lib.hid hs
  clear hs
  cases h1 : vM l
  · have hr : expV l now hold = [] := by unfold expV tim; rw [h1]; rfl
    rw [hr]
    have H1 := Lib.hid h1
    clear h1 hr
    go_enter Try.func49, Try.ntmps49
    go_wp2_with (first | (go_at_call 60; refine (spec_validTable _ _ _ _ _ rfl hl HS.out).mono ?_; rintro e w2 ⟨rfl, hb2⟩; rw [H1.out]))
    go_ret
    exact ⟨none, 0, rfl, Ow.nil, hb2⟩
  cases h2 : (inR now 0 10000 && inR hold 1 500)
  · have hr : expV l now hold = [] := by unfold expV tim; rw [h1, h2]; rfl
    rw [hr]
    have H1 := Lib.hid h1
    have H2 := Lib.hid h2
    clear h1 h2 hr
    go_enter Try.func49, Try.ntmps49
    go_wp2_with (first | (go_at_call 60; refine (spec_validTable _ _ _ _ _ rfl hl HS.out).mono ?_; rintro e w2 ⟨rfl, hb2⟩; rw [H1.out]) | (go_at_call 79; refine (spec_validTimer _ _ _).mono ?_; rintro e w' ⟨rfl, rfl⟩; rw [H2.out]))
    go_ret
    exact ⟨none, 0, rfl, Ow.nil, hb2⟩
  · have ht : tim l now hold = true := by unfold tim; rw [h1, h2]; rfl
    have hr : expV l now hold = keep (exq now hold) l := by unfold expV; rw [ht]; rfl
    rw [hr]
    obtain ⟨hv, ⟨hn0, hn1⟩, _⟩ := tim_iff.1 ht
    have HL := Lib.hid (fun x hx => last_in hv (x := x) hx)
    have H1 := Lib.hid h1
    have H2 := Lib.hid h2
    clear h1 h2 hr hv ht
    go_enter Try.func49, Try.ntmps49
    go_wp2_with (first | (go_at_call 60; refine (spec_validTable _ _ _ _ _ rfl hl HS.out).mono ?_; rintro e w2 ⟨rfl, hb2⟩; rw [H1.out]) | (go_at_call 79; refine (spec_validTimer _ _ _).mono ?_; rintro e w' ⟨rfl, rfl⟩; rw [H2.out]) | (go_at_call 83; refine (spec_expire _ _ _ _ _ _ _ rfl hl hn0 hn1 HL.out (HS.out.below hb2)).mono ?_; rintro e w3 ⟨A3, c3, rfl, how3, hb3⟩))
    go_ret
    exact ⟨A3, c3, rfl, how3.base hb2.size, bstep hb2 hb3 hb2.size⟩
end Go.Proofs.Ytpfmlenodgjebaa
