/- DropContacts and the reference's NoteContact, walked. -/
import Derived.Test.YtafmalklgecomaaCo
namespace Go.Proofs.Ytafmalklgecomaa
open Go.RowKit
def dropV (l : List Ct) (port : Int) : List Ct := if vC l then dropC l port else []
theorem impl_without_1 (p a q port : Int) (bc : Nat) (W : World) (h1 : W.cell? ⟨bc, 0, none⟩ = some (.int .i64 port)) :
    Calls Try.prog 64 #[.agg #[.int .i64 p, .int .i64 a, .int .i64 q], .pointer (some ⟨bc, 0, none⟩)] W (Ret W (.bool (p == port))) := by
  have l1 := World.block_lt_of_cell? _ _ h1
  simp only [] at l1
  cases he : (p == port)
  all_goals
    have E := Lib.hid he
    go_enter Try.func64, Try.ntmps64
    go_wp2
    go_ret
    exact ⟨by simp [E.out], (Below.refl _ _).alloc (Nat.le_refl _) _⟩
set_option maxHeartbeats 2000000 in
theorem impl_without (A : Option Addr) (c : Nat) (l : List Ct) (port : Int) (w : World) (hl : l.length ≤ 2000000) (hs : Sl encC 3 w A c l) :
    Calls Try.prog 56 #[.slice A l.length c, .int .i64 port] w (fun e w' => ∃ A', e = .returned (.slice A' (dropC l port).length (dropC l port).length) ∧ Out encC 3 w.heap.size w' A' (dropC l port).length (dropC l port) ∧ Below w.heap.size w w') := by
  obtain ⟨wq, hwq⟩ : ∃ x, x = w.alloc (.cells #[.int .i64 port] 3) := ⟨_, rfl⟩
  have hq : Below w.heap.size w wq := by subst hwq; exact (Below.refl _ _).alloc (Nat.le_refl _) _
  have hwz : wq.heap.size = w.heap.size + 1 := by subst hwq; exact alloc_size _ _
  have hzz : w.heap.size < wq.heap.size := by omega
  have c0 : ∀ W, Below wq.heap.size wq W → W.cell? ⟨w.heap.size, 0, none⟩ = some (.int .i64 port) := fun W h => bcell h hzz (by subst hwq; exact cell_of_row _ _ _ _ _ _ (heap_alloc_new _ _))
  have hmf : ∀ (fn : Fn) (first cap : Array Value) (w : World), (Instr.makeFunc fn first cap).run Try.prog w = .ok (.func fn first cap) w := fun _ _ _ _ => rfl
  have WQ := Lib.hid hwq
  have HS := Lib.hid hs
  have CL := Lib.hid (fun W (h : Below wq.heap.size wq W) (p' a' q' : Int) => impl_without_1 p' a' q' port w.heap.size W (c0 W h))
  clear hwq hwz hs c0
  go_enter Try.func56, Try.ntmps56
  go_wp2_with (first | (go_at_call 52; rw [← WQ.out]; refine (Clone_ct _ _ _ _ _ rfl hl (HS.out.below hq)).mono ?_; rintro e w5 ⟨A1, c1, rfl, hown1, hb5⟩) | (go_at_call 51; refine (DeleteFunc_ct _ _ wq.heap.size _ 64 #[.pointer (some ⟨w.heap.size, 0, none⟩)] (fun y => y.p == port) _ hl hown1 hb5.size (fun _ _ => by kernel_rfl) (fun p' a' q' W hW => CL.out W (below_app hb5 hW hb5.size (fun g hg => (hown1.blk g hg).1)) p' a' q')).mono ?_; rintro e w6 ⟨rfl, how6, hg6⟩; have hk6 : Below wq.heap.size wq w6 := below_app hb5 hg6 hb5.size (fun g hg => (hown1.blk g hg).1); have hm6 := how6.capm; have hl6 := how6.le) | (go_at_call 63; refine (Clip_ct _ _ _ _ hl6 hm6).mono ?_; rintro e w' ⟨rfl, rfl⟩))
  go_ret
  have ho : Out encC 3 wq.heap.size w6 A1 _ _ := ⟨how6.sl.cap, how6.fr⟩
  exact ⟨A1, rfl, ho.mono hq.size, hq.trans (hk6.mono hq.size)⟩
theorem impl_DropContacts (A : Option Addr) (c : Nat) (l : List Ct) (port : Int) (w : World) (hl : l.length ≤ 2000000) (hs : Sl encC 3 w A c l) :
    Calls Try.prog 32 #[.slice A l.length c, .int .i64 port] w (fun e w' => ∃ A', e = .returned (.slice A' (dropV l port).length (dropV l port).length) ∧ Out encC 3 w.heap.size w' A' (dropV l port).length (dropV l port) ∧ Below w.heap.size w w') := by
  have HS := Lib.hid hs
  clear hs
  unfold dropV
  cases h1 : vC l
  · have H1 := Lib.hid h1
    clear h1
    go_enter Try.func32, Try.ntmps32
    go_wp2_with (first | (go_at_call 18; refine (impl_ValidContacts _ _ _ _ hl HS.out).mono ?_; rintro e w2 ⟨rfl, hb2⟩; rw [H1.out]))
    go_ret
    exact ⟨none, rfl, ⟨Sl.nil, Fr.nil⟩, hb2⟩
  · have H1 := Lib.hid h1
    clear h1
    go_enter Try.func32, Try.ntmps32
    go_wp2_with (first | (go_at_call 18; refine (impl_ValidContacts _ _ _ _ hl HS.out).mono ?_; rintro e w2 ⟨rfl, hb2⟩; rw [H1.out]) | (go_at_call 56; refine (impl_without _ _ _ _ _ hl (HS.out.below hb2)).mono ?_; rintro e w3 ⟨A3, rfl, how3, hb3⟩))
    go_ret
    exact ⟨A3, rfl, how3.mono hb2.size, bstep hb2 hb3 hb2.size⟩
set_option maxHeartbeats 2000000 in
theorem spec_DropContacts (A : Option Addr) (c : Nat) (l : List Ct) (port : Int) (w : World) (hl : l.length ≤ 2000000) (hs : Sl encC 3 w A c l) :
    Calls Try.prog 33 #[.slice A l.length c, .int .i64 port] w (fun e w' => ∃ A' c', e = .returned (.slice A' (dropV l port).length c') ∧ Ow encC 3 29 w.heap.size w' A' c' (dropV l port) ∧ Below w.heap.size w w') := by
  have HS := Lib.hid hs
  have hwa : Below w.heap.size w (w.alloc (.cells #[] 29)) := (Below.refl _ _).alloc (Nat.le_refl _) _
  have hwo : Ow encC 3 29 w.heap.size (w.alloc (.cells #[] 29)) (some ⟨w.heap.size, 0, none⟩) 0 ([] : List Ct) := Ow.empty w (Nat.le_refl _)
  have HWO := Lib.hid hwo
  clear hs hwo
  cases h1 : vC l
  · have hr : dropV l port = [] := by rw [dropV, h1]; rfl
    rw [hr]
    have H1 := Lib.hid h1
    clear h1 hr
    go_enter Try.func33, Try.ntmps33
    go_wp2_with (first | (go_at_call 41; refine (spec_validContacts _ _ _ _ hl (HS.out.below hwa)).mono ?_; rintro e w2 ⟨rfl, hb2⟩; rw [H1.out]))
    go_ret
    exact ⟨none, 0, rfl, Ow.nil, bstep hwa hb2 hwa.size⟩
  · have hr : dropV l port = keep (fun y => y.p == port) l := by rw [dropV, h1]; rfl
    rw [hr]
    have H1 := Lib.hid h1
    clear h1 hr
    go_enter Try.func33, Try.ntmps33
    go_wp2_with (first | (go_at_call 41; refine (spec_validContacts _ _ _ _ hl (HS.out.below hwa)).mono ?_; rintro e w2 ⟨rfl, hb2⟩; rw [H1.out]))
    go_loopw [5, 6] (fun out i wr => ∃ (n : Nat) (A' : Option Addr) (c' : Nat), n ≤ l.length ∧ i = .int .i64 n ∧ out = .slice A' (keep (fun y => y.p == port) (l.take n)).length c' ∧ Ow encC 3 29 w.heap.size wr A' c' (keep (fun y => y.p == port) (l.take n)) ∧ Below w.heap.size w wr) (fun _ i _ => l.length - (intOf i).toNat)
    case atStart => exact ⟨0, _, _, Nat.zero_le _, rfl, rfl, HWO.out.below hb2, bstep hwa hb2 hwa.size⟩
    case round =>
      obtain ⟨n, A1, c1, hn, rfl, rfl, hown, hb⟩ := hrel
      have HO := Lib.hid hown
      clear hb2 hwa hown
      by_cases hlt : n < l.length
      · obtain ⟨b, o, rfl, hbs, hc⟩ := HS.out.base hlt
        obtain ⟨p, a, q, hx⟩ := ct_at hlt
        obtain ⟨d0, d1, d2⟩ := hc.ct hb hbs hx
        have hF := keep_snoc (f := fun y : Ct => y.p == port) hx
        have hFl := keep_len (fun y : Ct => y.p == port) (l.take n)
        rw [List.length_take, Nat.min_eq_left hn] at hFl
        have KF := Lib.hid hF
        clear hc hx hF
        cases hv : (p == port)
        · have HV := Lib.hid hv
          have hv' : (p != port) = true := by rw [bne, hv]; rfl
          have hwb : Below wr.heap.size wr (wr.alloc (.cells #[.int .i64 p, .int .i64 a, .int .i64 q] 29)) := (Below.refl _ _).alloc (Nat.le_refl _) _
          go_wp2_with (with_reducible refine wpList_app elC rfl (.tmp 24) (.tmp 29) rfl w.heap.size _ _ _ (keep (fun y => y.p == port) (l.take n)) rfl rfl (HO.out.alloc _) _ _ _ [⟨p, a, q⟩] rfl rfl (blC wr p a q).sl ?c1 (by decide) (Nat.le_trans hb.size hwb.size) ?_)
          case c1 => first | omega | (simp; omega)
          intro A7 c7 w7 hown7 hg7 _
          have hb7 : Below w.heap.size w w7 := below_app (hb.alloc hb.size _) hg7 (Nat.le_trans hb.size hwb.size) (fun g hg => (HO.out.blk g hg).1)
          go_wp2
          go_roundw
          case rel =>
            have hF := KF.out
            rw [HV.out] at hF
            simp only [Bool.false_eq_true, if_false] at hF
            exact ⟨n + 1, A7, c7, by omega, by go_num, by rw [hF, List.length_append]; rfl, by rw [hF]; exact hown7, hb7⟩
          case measure => simp [intOf]; omega
        · have HV := Lib.hid hv
          have hv' : (p != port) = false := by rw [bne, hv]; rfl
          go_wp2
          go_roundw
          case rel =>
            have hF := KF.out
            rw [HV.out, if_pos rfl, List.append_nil] at hF
            exact ⟨n + 1, A1, c1, by omega, by go_num, by rw [hF], by rw [hF]; exact HO.out, hb⟩
          case measure => simp [intOf]; omega
      · have hnl : n = l.length := by omega
        have HN := Lib.hid hnl
        clear hnl
        go_wp2
        go_ret
        have h := HO.out
        rw [HN.out, List.take_length] at h
        exact ⟨A1, c1, by rw [HN.out, List.take_length]; rfl, h, hb⟩
end Go.Proofs.Ytafmalklgecomaa
