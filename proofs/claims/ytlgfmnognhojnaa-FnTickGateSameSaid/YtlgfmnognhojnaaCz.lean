/- NoteContact, DropContacts: the program's and the reference's, walked. -/
import Derived.Test.YtlgfmnognhojnaaCn
namespace Go.Proofs.Ytlgfmnognhojnaa
open Go.RowKit
/-- A contact is noted behind all others; of more than ten the first one goes. -/
def noteC (l : List Ct) (x : Ct) : List Ct := let r := keep (fun y => decide (y = x)) l ++ [x]; r.drop (r.length - 10)
def dropC (l : List Ct) (port : Int) : List Ct := keep (fun y => y.p == port) l
theorem note_eq (l : List Ct) (x : Ct) (hl : l.length ≤ 10 := by assumption) : (keep (fun y => decide (y = x)) l).length ≤ 10 ∧ noteC l x = (keep (fun y => decide (y = x)) l ++ [x]).drop ((keep (fun y => decide (y = x)) l ++ [x]).length - 10) :=
  ⟨Nat.le_trans (List.length_filter_le _ _) hl, rfl⟩
theorem keep_len {α : Type} (f : α → Bool) (l : List α) : (keep f l).length ≤ l.length := List.length_filter_le _ _
theorem blC (w : World) (p a q : Int) : Bl encC 3 75 (w.alloc (.cells #[.int .i64 p, .int .i64 a, .int .i64 q] 75)) w.heap.size 3 [⟨p, a, q⟩] := Bl.one (enc := encC) (k := 3) (fun _ => rfl) w _ rfl
end Go.Proofs.Ytlgfmnognhojnaa

/- DropContacts and the reference's NoteContact, walked. -/
namespace Go.Proofs.Ytlgfmnognhojnaa
open Go.RowKit
def dropV (l : List Ct) (port : Int) : List Ct := if vC l then dropC l port else []
theorem impl_without_1 (p a q port : Int) (bc : Nat) (W : World) (h1 : W.cell? ⟨bc, 0, none⟩ = some (.int .i64 port)) :
    Calls Try.prog 70 #[.agg #[.int .i64 p, .int .i64 a, .int .i64 q], .pointer (some ⟨bc, 0, none⟩)] W (Ret W (.bool (p == port))) := by
  have l1 := World.block_lt_of_cell? _ _ h1
  simp only [] at l1
  cases he : (p == port)
  all_goals
    have E := Lib.hid he
    go_enter Try.func70, Try.ntmps70
    go_wp2
    go_ret
    exact ⟨by simp [E.out], (Below.refl _ _).alloc (Nat.le_refl _) _⟩
set_option maxHeartbeats 2000000 in
theorem impl_without (A : Option Addr) (c : Nat) (l : List Ct) (port : Int) (w : World) (hl : l.length ≤ 2000000) (hs : Sl encC 3 w A c l) :
    Calls Try.prog 29 #[.slice A l.length c, .int .i64 port] w (fun e w' => ∃ A', e = .returned (.slice A' (dropC l port).length (dropC l port).length) ∧ Out encC 3 w.heap.size w' A' (dropC l port).length (dropC l port) ∧ Below w.heap.size w w') := by
  obtain ⟨wq, hwq⟩ : ∃ x, x = w.alloc (.cells #[.int .i64 port] 3) := ⟨_, rfl⟩
  have hq : Below w.heap.size w wq := by subst hwq; exact (Below.refl _ _).alloc (Nat.le_refl _) _
  have hwz : wq.heap.size = w.heap.size + 1 := by subst hwq; exact alloc_size _ _
  have hzz : w.heap.size < wq.heap.size := by omega
  have c0 : ∀ W, Below wq.heap.size wq W → W.cell? ⟨w.heap.size, 0, none⟩ = some (.int .i64 port) := fun W h => bcell h hzz (by subst hwq; exact cell_of_row _ _ _ _ _ _ (heap_alloc_new _ _))
  have hmf : ∀ (fn : Fn) (first cap : Array Value) (w : World), (Instr.makeFunc fn first cap).run Try.prog w = .ok (.func fn first cap) w := fun _ _ _ _ => rfl
  have WQ := Lib.hid hwq
  have HS := Lib.hid hs
  have CL := Lib.hid (fun W (h : Below wq.heap.size wq W) (p' a' q' : Int) => impl_without_1 p' a' q' port w.heap.size W (c0 W h))
  clear hwq hwz hs c0
  go_enter Try.func29, Try.ntmps29
  go_wp2_with (first | (go_at_call 69; rw [← WQ.out]; refine (Clone_ct _ _ _ _ _ rfl hl (HS.out.below hq)).mono ?_; rintro e w5 ⟨A1, c1, rfl, hown1, hb5⟩) | (go_at_call 68; refine (DeleteFunc_ct _ _ wq.heap.size _ 70 #[.pointer (some ⟨w.heap.size, 0, none⟩)] (fun y => y.p == port) _ hl hown1 hb5.size (fun _ _ => by kernel_rfl) (fun p' a' q' W hW => CL.out W (below_app hb5 hW hb5.size (fun g hg => (hown1.blk g hg).1)) p' a' q')).mono ?_; rintro e w6 ⟨rfl, how6, hg6⟩; have hk6 : Below wq.heap.size wq w6 := below_app hb5 hg6 hb5.size (fun g hg => (hown1.blk g hg).1); have hm6 := how6.capm; have hl6 := how6.le) | (go_at_call 67; refine (Clip_ct _ _ _ _ hl6 hm6).mono ?_; rintro e w' ⟨rfl, rfl⟩))
  go_ret
  have ho : Out encC 3 wq.heap.size w6 A1 _ _ := ⟨how6.sl.cap, how6.fr⟩
  exact ⟨A1, rfl, ho.mono hq.size, hq.trans (hk6.mono hq.size)⟩
set_option maxHeartbeats 2000000 in
theorem spec_DropContacts (A : Option Addr) (c : Nat) (l : List Ct) (port : Int) (w : World) (hl : l.length ≤ 2000000) (hs : Sl encC 3 w A c l) :
    Calls Try.prog 80 #[.slice A l.length c, .int .i64 port] w (fun e w' => ∃ A' c', e = .returned (.slice A' (dropV l port).length c') ∧ Ow encC 3 75 w.heap.size w' A' c' (dropV l port) ∧ Below w.heap.size w w') := by
  have HS := Lib.hid hs
  have hwa : Below w.heap.size w (w.alloc (.cells #[] 75)) := (Below.refl _ _).alloc (Nat.le_refl _) _
  have hwo : Ow encC 3 75 w.heap.size (w.alloc (.cells #[] 75)) (some ⟨w.heap.size, 0, none⟩) 0 ([] : List Ct) := Ow.empty w (Nat.le_refl _)
  have HWO := Lib.hid hwo
  clear hs hwo
  cases h1 : vC l
  · have hr : dropV l port = [] := by rw [dropV, h1]; rfl
    rw [hr]
    have H1 := Lib.hid h1
    clear h1 hr
    go_enter Try.func80, Try.ntmps80
    go_wp2_with (first | (go_at_call 75; refine (spec_validContacts _ _ _ _ hl (HS.out.below hwa)).mono ?_; rintro e w2 ⟨rfl, hb2⟩; rw [H1.out]))
    go_ret
    exact ⟨none, 0, rfl, Ow.nil, bstep hwa hb2 hwa.size⟩
  · have hr : dropV l port = keep (fun y => y.p == port) l := by rw [dropV, h1]; rfl
    rw [hr]
    have H1 := Lib.hid h1
    clear h1 hr
    go_enter Try.func80, Try.ntmps80
    go_wp2_with (first | (go_at_call 75; refine (spec_validContacts _ _ _ _ hl (HS.out.below hwa)).mono ?_; rintro e w2 ⟨rfl, hb2⟩; rw [H1.out]))
    go_loopw [5, 6] (fun out i wr => ∃ (n : Nat) (A' : Option Addr) (c' : Nat), n ≤ l.length ∧ i = .int .i64 n ∧ out = .slice A' (keep (fun y => y.p == port) (l.take n)).length c' ∧ Ow encC 3 75 w.heap.size wr A' c' (keep (fun y => y.p == port) (l.take n)) ∧ Below w.heap.size w wr) (fun _ i _ => l.length - (intOf i).toNat)
    case atStart => exact ⟨0, _, _, Nat.zero_le _, rfl, rfl, HWO.out.below hb2, bstep hwa hb2 hwa.size⟩
    case round =>
      obtain ⟨n, A1, c1, hn, rfl, rfl, hown, hb⟩ := hrel
      have HO := Lib.hid hown
      clear hb2 hwa hown
      by_cases hlt : n < l.length
      · obtain ⟨b, o, rfl, hbs, hc⟩ := HS.out.base hlt
        obtain ⟨p, a, q, hx⟩ := ct_at hlt
        obtain ⟨d0, d1, d2⟩ := hc.ct hb hbs hx
        have hF := keep_snoc (f := fun y : Ct => y.p == port) hx
        have hFl := keep_len (fun y : Ct => y.p == port) (l.take n)
        rw [List.length_take, Nat.min_eq_left hn] at hFl
        have KF := Lib.hid hF
        clear hc hx hF
        cases hv : (p == port)
        · have HV := Lib.hid hv
          have hv' : (p != port) = true := by rw [bne, hv]; rfl
          have hwb : Below wr.heap.size wr (wr.alloc (.cells #[.int .i64 p, .int .i64 a, .int .i64 q] 75)) := (Below.refl _ _).alloc (Nat.le_refl _) _
          go_wp2_with (with_reducible refine wpList_app elC rfl (.tmp 24) (.tmp 29) rfl w.heap.size _ _ _ (keep (fun y => y.p == port) (l.take n)) rfl rfl (HO.out.alloc _) _ _ _ [⟨p, a, q⟩] rfl rfl (blC wr p a q).sl ?c1 (by decide) (Nat.le_trans hb.size hwb.size) ?_)
          case c1 => first | omega | (simp; omega)
          intro A7 c7 w7 hown7 hg7 _
          have hb7 : Below w.heap.size w w7 := below_app (hb.alloc hb.size _) hg7 (Nat.le_trans hb.size hwb.size) (fun g hg => (HO.out.blk g hg).1)
          go_wp2
          go_roundw
          case rel =>
            have hF := KF.out
            rw [HV.out] at hF
            simp only [Bool.false_eq_true, if_false] at hF
            exact ⟨n + 1, A7, c7, by omega, by go_num, by rw [hF, List.length_append]; rfl, by rw [hF]; exact hown7, hb7⟩
          case measure => simp [intOf]; omega
        · have HV := Lib.hid hv
          have hv' : (p != port) = false := by rw [bne, hv]; rfl
          go_wp2
          go_roundw
          case rel =>
            have hF := KF.out
            rw [HV.out, if_pos rfl, List.append_nil] at hF
            exact ⟨n + 1, A1, c1, by omega, by go_num, by rw [hF], by rw [hF]; exact HO.out, hb⟩
          case measure => simp [intOf]; omega
      · have hnl : n = l.length := by omega
        have HN := Lib.hid hnl
        clear hnl
        go_wp2
        go_ret
        have h := HO.out
        rw [HN.out, List.take_length] at h
        exact ⟨A1, c1, by rw [HN.out, List.take_length]; rfl, h, hb⟩
end Go.Proofs.Ytlgfmnognhojnaa

/- The reference's NoteContact, walked. -/
namespace Go.Proofs.Ytlgfmnognhojnaa
open Go.RowKit
theorem ret_slice {A : Option Addr} {n m c : Nat} (h : n = m) : Ending.returned (.slice A n c) = .returned (.slice A m c) := by rw [h]
set_option maxHeartbeats 4000000 in
theorem spec_note (A : Option Addr) (c : Nat) (l : List Ct) (p0 a0 q0 : Int) (w : World) (hl : l.length ≤ 10) (hs : Sl encC 3 w A c l) :
    Calls Try.prog 105 #[.slice A l.length c, .agg #[.int .i64 p0, .int .i64 a0, .int .i64 q0]] w (fun e w' => ∃ A' c', e = .returned (.slice A' (noteC l ⟨p0, a0, q0⟩).length c') ∧ Ow encC 3 75 w.heap.size w' A' c' (noteC l ⟨p0, a0, q0⟩) ∧ Below w.heap.size w w') := by
  obtain ⟨wq, hwq⟩ : ∃ x, x = w.alloc (.cells #[.int .i64 p0, .int .i64 a0, .int .i64 q0] 75) := ⟨_, rfl⟩
  have hq : Below w.heap.size w wq := by subst hwq; exact (Below.refl _ _).alloc (Nat.le_refl _) _
  have hwz : wq.heap.size = w.heap.size + 1 := by subst hwq; exact alloc_size _ _
  have hzz : w.heap.size < wq.heap.size := by omega
  have c0 : ∀ W, Below wq.heap.size wq W → W.cell? ⟨w.heap.size, 0, none⟩ = some (.int .i64 p0) := fun W h => bcell h hzz (by subst hwq; exact cell_of_row _ _ _ _ _ _ (heap_alloc_new _ _))
  have c1 : ∀ W, Below wq.heap.size wq W → W.cell? ⟨w.heap.size, 1, none⟩ = some (.int .i64 a0) := fun W h => bcell h hzz (by subst hwq; exact cell_of_row _ _ _ _ _ _ (heap_alloc_new _ _))
  have c2 : ∀ W, Below wq.heap.size wq W → W.cell? ⟨w.heap.size, 2, none⟩ = some (.int .i64 q0) := fun W h => bcell h hzz (by subst hwq; exact cell_of_row _ _ _ _ _ _ (heap_alloc_new _ _))
  have hwa : Below wq.heap.size wq (wq.alloc (.cells #[] 75)) := (Below.refl _ _).alloc (Nat.le_refl _) _
  have hwo : Ow encC 3 75 wq.heap.size (wq.alloc (.cells #[] 75)) (some ⟨wq.heap.size, 0, none⟩) 0 ([] : List Ct) := Ow.empty wq (Nat.le_refl _)
  have WQ := Lib.hid hwq
  have HS := Lib.hid (fun W (h : Below wq.heap.size wq W) => hs.below (hq.trans (h.mono hq.size)))
  have C0 := Lib.hid c0
  have C1 := Lib.hid c1
  have C2 := Lib.hid c2
  have HWO := Lib.hid hwo
  have HZ := Lib.hid hwz
  clear hwq hwz hs c0 c1 c2 hwo
  go_enter Try.func105, Try.ntmps105
  go_wp2
  rw [← WQ.out]
  go_loopw [5, 6] (fun out i wr => ∃ (n : Nat) (A' : Option Addr) (c' : Nat), n ≤ l.length ∧ i = .int .i64 n ∧ out = .slice A' (keep (fun y => decide (y = (⟨p0, a0, q0⟩ : Ct))) (l.take n)).length c' ∧ Ow encC 3 75 wq.heap.size wr A' c' (keep (fun y => decide (y = (⟨p0, a0, q0⟩ : Ct))) (l.take n)) ∧ Below wq.heap.size wq wr) (fun _ i _ => l.length - (intOf i).toNat)
  case atStart => exact ⟨0, _, _, Nat.zero_le _, rfl, rfl, by have h := HWO.out; have e := HZ.out; rw [e] at h ⊢; exact h, hwa⟩
  case round =>
    obtain ⟨n, A1, c1, hn, rfl, rfl, hown, hb⟩ := hrel
    have HO := Lib.hid hown
    clear hwa hown
    have x0 := C0.out _ hb
    have x1 := C1.out _ hb
    have x2 := C2.out _ hb
    have hz : w.heap.size < wr.heap.size := Nat.lt_of_lt_of_le hzz hb.size
    by_cases hlt : n < l.length
    · obtain ⟨b, o, rfl, hbs, hc⟩ := (HS.out wq (Below.refl _ _)).base hlt
      obtain ⟨p, a, q, hx⟩ := ct_at hlt
      obtain ⟨d0, d1, d2⟩ := hc.ct hb hbs hx
      have hF := keep_snoc (f := fun y : Ct => decide (y = (⟨p0, a0, q0⟩ : Ct))) hx
      have hFl := keep_len (fun y : Ct => decide (y = (⟨p0, a0, q0⟩ : Ct))) (l.take n)
      rw [List.length_take, Nat.min_eq_left hn] at hFl
      have KF := Lib.hid hF
      clear hc hx hF
      cases he : decide ((⟨p, a, q⟩ : Ct) = ⟨p0, a0, q0⟩)
      · have HE := Lib.hid he
        have E := neqCt _ _ _ _ _ _ he
        clear he
        have hwb : Below wr.heap.size wr (wr.alloc (.cells #[.int .i64 p, .int .i64 a, .int .i64 q] 75)) := (Below.refl _ _).alloc (Nat.le_refl _) _
        go_wp2
        go_quiet (fail)
        go_wp2_with (with_reducible refine wpList_app elC rfl (.tmp 20) (.tmp 25) rfl wq.heap.size _ _ _ (keep (fun y => decide (y = (⟨p0, a0, q0⟩ : Ct))) (l.take n)) rfl rfl ((HO.out.drewN _).alloc _) _ _ _ [⟨p, a, q⟩] rfl rfl (blC _ p a q).sl ?c1 (by decide) (Nat.le_trans hb.size (by simp)) ?_)
        case c1 => simp; omega
        intro A7 c7 w7 hown7 hg7 _
        have hb7 : Below wq.heap.size wq w7 := below_app ((bdrewN hb _).alloc hb.size _) hg7 (Nat.le_trans hb.size hwb.size) (fun g hg => (HO.out.blk g hg).1)
        go_wp2
        go_roundw
        case rel =>
          have hF := KF.out
          rw [HE.out] at hF
          simp only [Bool.false_eq_true, if_false] at hF
          exact ⟨n + 1, A7, c7, by omega, by go_num, by rw [hF, List.length_append]; rfl, by rw [hF]; exact hown7, hb7⟩
        case measure => simp [intOf]; omega
      · have HE := Lib.hid he
        have E := neqCt _ _ _ _ _ _ he
        clear he
        go_wp2
        go_quiet (fail)
        go_wp2
        go_roundw
        case rel =>
          have hF := KF.out
          rw [HE.out, if_pos rfl, List.append_nil] at hF
          exact ⟨n + 1, A1, c1, by omega, by go_num, by rw [hF], by rw [hF]; exact HO.out.drewN _, bdrewN hb _⟩
        case measure => simp [intOf]; omega
    · have hnl : n = l.length := by omega
      have h := HO.out
      rw [hnl, List.take_length] at h ⊢
      have HO2 := Lib.hid h
      have hF := keep_len (fun y : Ct => decide (y = (⟨p0, a0, q0⟩ : Ct))) l
      clear h HO hnl
      have e8 := (note_eq l ⟨p0, a0, q0⟩ hl).2
      have hF10 := (note_eq l ⟨p0, a0, q0⟩ hl).1
      have E8 := Lib.hid e8
      clear e8
      generalize keep (fun y => decide (y = (⟨p0, a0, q0⟩ : Ct))) l = F at *
      go_wp2_with (with_reducible refine wpList_app elC rfl (.tmp 27) (.tmp 29) rfl wq.heap.size _ _ _ F rfl rfl (HO2.out.alloc _) _ _ _ [⟨p0, a0, q0⟩] rfl rfl (blC _ p0 a0 q0).sl ?c1 (by decide) (Nat.le_trans hb.size (by simp)) ?_)
      case c1 => simp; omega
      intro A7 c7 w7 hown7 hg7 _
      have hb7 : Below wq.heap.size wq w7 := below_app (hb.alloc hb.size _) hg7 (Nat.le_trans hb.size (by simp)) (fun g hg => (HO2.out.blk g hg).1)
      obtain ⟨g7, rfl, hgB, hlc7, hcm7, _⟩ := hown7.resolve_left (by rintro ⟨_, _, h⟩; simp at h)
      have HO := Lib.hid hown7
      have hl7 : F.length + 1 ≤ c7 := by simpa using hlc7
      have hm7 : c7 ≤ 9223372036854775807 := by unfold maxLen at hcm7; omega
      clear hown7 hlc7
      by_cases h10 : F.length + 1 ≤ 10
      · go_wp2_with (with_reducible refine wpList_app elC rfl (.tmp 31) (.tmp 37) rfl w7.heap.size _ _ _ [] rfl ?c0 (Ow.empty w7 (Nat.le_refl _)) _ _ _ (F ++ [⟨p0, a0, q0⟩]) rfl ?c1 (HO.out.alloc _).sl ?c2 (by decide) (by simp) ?_)
        case c0 => rfl
        case c1 => simp
        case c2 => simp; omega
        intro A8 c8 w8 hown8 hg8 _
        have hb8 : Below w7.heap.size w7 w8 := below_app ((Below.refl _ _).alloc (Nat.le_refl _) _) hg8 (by simp) (fun g h => (by simp [blk] at h; omega))
        go_wp2
        go_ret
        have e8 : noteC l ⟨p0, a0, q0⟩ = F ++ [⟨p0, a0, q0⟩] := by rw [E8.out, List.length_append, List.length_singleton, show F.length + 1 - 10 = 0 from by omega]; rfl
        rw [e8]
        have hz7 : w.heap.size ≤ w7.heap.size := Nat.le_trans hq.size hb7.size
        exact ⟨A8, c8, ret_slice (by simp), hown8.base hz7, hq.trans ((bstep hb7 hb8 hb7.size).mono hq.size)⟩
      · have hF9 : 10 ≤ F.length := by omega
        have h1c : 1 < c7 := by omega
        have hs2 : Sl encC 3 (w7.alloc (.cells #[] 75)) (some ⟨g7, (F.length - 9) * 3, none⟩) (c7 - (F.length - 9)) ((F ++ [(⟨p0, a0, q0⟩ : Ct)]).drop (F.length - 9)) := by
          have h := (HO.out.alloc (.cells #[] 75)).sl.drop (F.length - 9) (by simp; omega)
          rw [if_neg (show ¬ c7 = F.length - 9 by omega)] at h
          have hne : ¬ (F.length - 9) * 3 = 0 := by omega
          simpa [Addr.add, hne] using h
        have HS2 := Lib.hid hs2
        clear hs2
        have e8 : noteC l ⟨p0, a0, q0⟩ = (F ++ [(⟨p0, a0, q0⟩ : Ct)]).drop (F.length - 9) := by rw [E8.out, List.length_append, List.length_singleton, show F.length + 1 - 10 = F.length - 9 from by omega]
        have E9 := Lib.hid e8
        clear e8
        go_wp2_with (with_reducible refine wpList_app elC rfl (.tmp 31) (.tmp 37) rfl w7.heap.size _ _ _ [] rfl ?c0 (Ow.empty w7 (Nat.le_refl _)) _ _ _ ((F ++ [(⟨p0, a0, q0⟩ : Ct)]).drop (F.length - 9)) rfl ?c1 HS2.out ?c2 (by decide) (by simp) ?_)
        case c0 => rfl
        case c1 => simp
        case c2 => simp; omega
        intro A8 c8 w8 hown8 hg8 _
        have hb8 : Below w7.heap.size w7 w8 := below_app ((Below.refl _ _).alloc (Nat.le_refl _) _) hg8 (by simp) (fun g h => (by simp [blk] at h; omega))
        go_wp2
        go_ret
        rw [E9.out]
        have hz7 : w.heap.size ≤ w7.heap.size := Nat.le_trans hq.size hb7.size
        exact ⟨A8, c8, ret_slice (by simp), hown8.base hz7, hq.trans ((bstep hb7 hb8 hb7.size).mono hq.size)⟩
end Go.Proofs.Ytlgfmnognhojnaa

/- Plain laws of contacts: what the statements say of the functions that the walks show. -/
namespace Go.Proofs.Ytlgfmnognhojnaa
open Go.RowKit
theorem vC_iff (l : List Ct) : vC l = true ↔ l.length ≤ 10 ∧ l.Nodup ∧ ∀ x ∈ l, okC x = true := by
  unfold vC; exact decide_eq_true_iff
theorem vC_sub {l l' : List Ct} (h : vC l = true) (hs : l'.Sublist l) : vC l' = true := by
  rw [vC_iff] at h ⊢
  exact ⟨Nat.le_trans hs.length_le h.1, hs.nodup h.2.1, fun x hx => h.2.2 x (hs.subset hx)⟩
theorem cut_sublist {α : Type} (l : List α) (k : Nat) : (l.take k ++ l.drop (k + 1)).Sublist l := by
  have h : (l.take k ++ l.drop (k + 1)).Sublist (l.take k ++ l.drop k) := by
    refine List.Sublist.append (List.Sublist.refl _) ?_
    rw [show k + 1 = k + 1 from rfl, ← List.drop_drop]
    exact List.drop_sublist 1 _
  rwa [List.take_append_drop] at h
theorem vC_cut {l : List Ct} (h : vC l = true) (k : Nat) : vC (l.take k ++ l.drop (k + 1)) = true := vC_sub h (cut_sublist l k)
theorem vC_again {l : List Ct} {x : Ct} (h : l[0]? = some x) : vC (l ++ [x]) = false := by
  have h0 := lt_of_get h
  refine vC_dup (k := l.length) (m := 0) (x := x) ?_ h0 ?_
  · rw [List.getElem?_append_right (Nat.le_refl _), Nat.sub_self]; rfl
  · rw [List.getElem?_append_left h0]; exact h
theorem lets_mem {kind port fa fq : Int} {l : List Ct} {x : Ct} (h : x ∈ l) (hp : letP kind port fa fq x = true) : lets kind l port fa fq = true := by
  unfold lets
  rw [List.any_eq_true.2 ⟨x, h, hp⟩, Bool.or_true]
theorem letsIn_none (l : List Ct) (port fa fq : Int) (h : vC l = true) : letsIn 0 l port fa fq = true := by
  unfold letsIn lets; rw [h]; rfl
theorem letsIn_weak (l : List Ct) (port fa fq : Int) (h : letsIn 2 l port fa fq = true) : letsIn 1 l port fa fq = true := by
  unfold letsIn at h ⊢
  simp only [Bool.and_eq_true] at h ⊢
  refine ⟨rfl, h.2.1, ?_⟩
  have h2 := h.2.2
  unfold lets at h2
  simp only [show ((2 : Int) == 0) = false from rfl, Bool.false_or, List.any_eq_true] at h2
  obtain ⟨x, hx, hp⟩ := h2
  refine lets_mem hx ?_
  unfold letP at hp ⊢
  simp only [Bool.and_eq_true] at hp ⊢
  exact ⟨hp.1, hp.2.1, rfl⟩
theorem letsIn_own {l : List Ct} {x : Ct} (h : vC l = true) (hx : x ∈ l) : letsIn 2 l x.p x.a x.q = true := by
  unfold letsIn
  rw [h, lets_mem hx (by simp [letP])]
  rfl
theorem letsIn_addr {l : List Ct} {x : Ct} (h : vC l = true) (hx : x ∈ l) (q : Int) : letsIn 1 l x.p x.a q = true := by
  unfold letsIn
  rw [h, lets_mem hx (by simp [letP])]
  rfl
theorem letsIn_empty (kind port fa fq : Int) : letsIn kind [] port fa fq = (kind == 0) := by
  unfold letsIn lets
  have : vC [] = true := rfl
  rw [this]
  cases h : (kind == 0)
  · simp
  · have : kind = 0 := by simpa using h
    subst this; rfl
/-! ### noting -/
theorem keep_sublist {α : Type} (f : α → Bool) (l : List α) : (keep f l).Sublist l := List.filter_sublist
theorem mem_keep {α : Type} {f : α → Bool} {l : List α} {x : α} : x ∈ keep f l ↔ x ∈ l ∧ f x = false := by
  unfold keep; rw [List.mem_filter]; simp
theorem keep_full {α : Type} {f : α → Bool} {l : List α} (h : (keep f l).length = l.length) : keep f l = l := (keep_sublist f l).eq_of_length h
def offC (l : List Ct) (x : Ct) : List Ct := keep (fun y => decide (y = x)) l
theorem noteC_def (l : List Ct) (x : Ct) : noteC l x = (offC l x ++ [x]).drop ((offC l x ++ [x]).length - 10) := rfl
theorem offC_nodup {l : List Ct} {x : Ct} (h : vC l = true) : (offC l x ++ [x]).Nodup := by
  have := (vC_iff l).1 h
  rw [List.nodup_append]
  refine ⟨(keep_sublist _ l).nodup this.2.1, by simp, ?_⟩
  intro a ha b hb
  simp at hb
  subst hb
  have := (mem_keep.1 ha).2
  simpa using this
theorem noteC_good {l : List Ct} {x : Ct} (h : vC l = true) (hx : okC x = true) : vC (noteC l x) = true := by
  have h' := (vC_iff l).1 h
  rw [noteC_def, vC_iff]
  refine ⟨by rw [List.length_drop]; omega, (List.drop_sublist _ _).nodup (offC_nodup h), ?_⟩
  intro y hy
  rcases List.mem_append.1 (List.mem_of_mem_drop hy) with hy | hy
  · exact h'.2.2 y (mem_keep.1 hy).1
  · simp at hy; subst hy; exact hx
theorem noteC_len {l : List Ct} {x : Ct} : (noteC l x).length ≤ 10 ∧ 1 ≤ (noteC l x).length ∧ (noteC l x).length ≤ l.length + 1 := by
  have := keep_len (fun y => decide (y = x)) l
  have e : (offC l x).length = (keep (fun y => decide (y = x)) l).length := rfl
  rw [noteC_def, List.length_drop, List.length_append, List.length_singleton]
  omega
theorem noteC_last (l : List Ct) (x : Ct) : (noteC l x)[(noteC l x).length - 1]? = some x := by
  have h1 := noteC_len (l := l) (x := x)
  rw [noteC_def] at h1 ⊢
  rw [List.length_drop, List.length_append, List.length_singleton] at h1 ⊢
  rw [List.getElem?_drop, List.getElem?_append_right (by omega)]
  rw [show (offC l x).length + 1 - 10 + ((offC l x).length + 1 - ((offC l x).length + 1 - 10) - 1) - (offC l x).length = 0 from by omega]
  rfl
theorem noteC_mem (l : List Ct) (x : Ct) : x ∈ noteC l x := List.mem_of_getElem? (noteC_last l x)
theorem noteC_stay {l : List Ct} {x y : Ct} {i : Nat} (h : vC l = true) (hy : l[i]? = some y) (hi : 0 < i ∨ l.length < 10) : y ∈ noteC l x := by
  by_cases e : y = x
  · subst e; exact noteC_mem l y
  have hl := ((vC_iff l).1 h).1
  have hk : y ∈ offC l x := mem_keep.2 ⟨List.mem_of_getElem? hy, by simpa using e⟩
  have hle := keep_len (fun y => decide (y = x)) l
  have e1 : (offC l x).length = (keep (fun y => decide (y = x)) l).length := rfl
  rw [noteC_def, List.length_append, List.length_singleton]
  by_cases h9 : (offC l x).length + 1 - 10 = 0
  · rw [h9, List.drop_zero]
    exact List.mem_append_left _ hk
  · have hfull : offC l x = l := keep_full (by omega)
    rw [hfull] at h9 ⊢
    rw [show l.length + 1 - 10 = 1 from by omega]
    rcases hi with hi | hi
    · refine List.mem_of_getElem? (i := i - 1) ?_
      rw [List.getElem?_drop, show 1 + (i - 1) = i from by omega, List.getElem?_append_left (lt_of_get hy)]
      exact hy
    · omega
theorem noteC_twice {l : List Ct} {x : Ct} (h : vC l = true) : noteC (noteC l x) x = noteC l x := by
  have hn := offC_nodup (x := x) h
  have hle := keep_len (fun y => decide (y = x)) l
  have hl := ((vC_iff l).1 h).1
  have e1 : (offC l x).length = (keep (fun y => decide (y = x)) l).length := rfl
  have e2 : offC (noteC l x) x ++ [x] = noteC l x := by
    obtain ⟨d, hd, hdl⟩ : ∃ d, noteC l x = (offC l x).drop d ++ [x] ∧ d ≤ (offC l x).length := by
      refine ⟨(offC l x ++ [x]).length - 10, ?_, ?_⟩
      · rw [noteC_def, List.drop_append_of_le_length]
        rw [List.length_append, List.length_singleton]; omega
      · rw [List.length_append, List.length_singleton]; omega
    rw [hd]
    unfold offC keep
    rw [List.filter_append, List.filter_eq_self.2]
    · simp
    · intro y hy
      have := (mem_keep.1 (List.mem_of_mem_drop hy)).2
      simpa using this
  have hlen := noteC_len (l := l) (x := x)
  rw [noteC_def (noteC l x), e2, show (noteC l x).length - 10 = 0 from by omega, List.drop_zero]
/-! ### dropping -/
theorem dropC_sub (l : List Ct) (p : Int) : (dropC l p).Sublist l := keep_sublist _ _
theorem dropV_good {l : List Ct} {p : Int} (h : vC l = true) : dropV l p = dropC l p ∧ vC (dropC l p) = true := ⟨by rw [dropV, h]; rfl, vC_sub h (dropC_sub l p)⟩
theorem dropC_comm (l : List Ct) (p p' : Int) : dropC (dropC l p) p' = dropC (dropC l p') p := by
  unfold dropC keep
  rw [List.filter_filter, List.filter_filter]
  congr 1
  funext y
  rw [Bool.and_comm]
theorem dropC_twice (l : List Ct) (p : Int) : dropC (dropC l p) p = dropC l p := by
  unfold dropC keep
  rw [List.filter_filter]
  congr 1
  funext y
  rw [Bool.and_self]
theorem dropV_closed (l : List Ct) (port a q : Int) : letsIn 1 (dropV l port) port a q = false := by
  unfold dropV
  cases h : vC l
  · rfl
  unfold letsIn lets
  have : (dropC l port).any (letP 1 port a q) = false := by
    rw [List.any_eq_false]
    intro y hy
    have := (mem_keep.1 hy).2
    unfold letP
    rw [this]
    simp
  simp only [if_true]
  rw [this]
  simp
end Go.Proofs.Ytlgfmnognhojnaa
