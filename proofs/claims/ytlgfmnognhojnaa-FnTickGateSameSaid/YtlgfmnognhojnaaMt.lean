/- The functions on tables, walked: places, valid tables. -/
import Derived.Test.YtlgfmnognhojnaaMd
namespace Go.Proofs.Ytlgfmnognhojnaa
open Go.RowKit
theorem eqlEnB (a q a' q' : Int) {r : Bool} (h : ((a == a') && (q == q')) = r) (w : World) : (binOp .eql 62 (.agg #[.int .i64 a, .int .i64 q]) (.agg #[.int .i64 a', .int .i64 q'])).run Try.prog w = .ok (.bool r) w := by
  rw [← h]; exact eqlEn a q a' q' w
set_option maxHeartbeats 1000000 in
theorem IndexFunc_mt (A : Option Addr) (c : Nat) (l : List Mp) (g : FuncId) (cb : Array Value) (f : Mp → Bool) (w : World) (hl : l.length ≤ 2000000) (hs : Sl encM 4 w A c l)
    (eg : ∀ args W, (callFunc g args).run Try.prog W = .ok (.enter g args) W) (hp : ∀ a q p t W, Below w.heap.size w W → Calls Try.prog g (#[.agg #[.int .i64 a, .int .i64 q, .int .i64 p, .int .i64 t]] ++ cb) W (Ret W (.bool (f ⟨a, q, p, t⟩)))) :
    Calls Try.prog 82 #[.slice A l.length c, .func (.func g) #[] cb] w (Ret w (.int .i64 (idx f l))) := by
  have HP := Lib.hid hp
  clear hp
  go_enter Try.func82, Try.ntmps82
  go_wp2
  go_loopw [8] (fun i wr => ∃ k : Nat, k ≤ l.length ∧ i = .int .i64 k ∧ Below w.heap.size w wr ∧ ∀ y ∈ l.take k, f y = false) (fun i _ => l.length - (intOf i).toNat)
  case atStart => exact ⟨0, Nat.zero_le _, rfl, Below.refl _ _, by simp⟩
  case round =>
    obtain ⟨k, hk, rfl, hb, hn⟩ := hrel
    have HN := Lib.hid hn
    clear hn
    by_cases hlt : k < l.length
    · obtain ⟨b, o, rfl, hbs, hc⟩ := hs.base hlt
      obtain ⟨a, q, p, t, hx⟩ := mt_at hlt
      obtain ⟨d0, d1, d2, d3⟩ := hc.mt hb hbs hx
      have X := Lib.hid hx
      clear hs hc hx
      have C := Lib.hid (HP.out a q p t wr hb)
      cases he : f ⟨a, q, p, t⟩
      all_goals
        have HE := Lib.hid he
        clear he
        go_wp2_with fail
        refine (HE.out ▸ C.out).mono ?_
        rintro e w2 ⟨rfl, hb2⟩
        go_wp2
      · go_roundw
        case rel => exact ⟨k + 1, by omega, by go_num, bstep hb hb2 hb.size, none_step X.out HE.out HN.out⟩
        case measure => simp [intOf]; omega
      · go_ret
        exact ⟨by rw [idx_at X.out HE.out HN.out]; rfl, bstep hb hb2 hb.size⟩
    · go_wp2
      go_ret
      have := HN.out
      rw [List.take_of_length_le (by omega)] at this
      exact ⟨by rw [idx_not this]; rfl, hb⟩
theorem impl_byPort_1 (a q p t port : Int) (bc : Nat) (W : World) (h1 : W.cell? ⟨bc, 0, none⟩ = some (.int .i64 port)) :
    Calls Try.prog 85 #[.agg #[.int .i64 a, .int .i64 q, .int .i64 p, .int .i64 t], .pointer (some ⟨bc, 0, none⟩)] W (Ret W (.bool (sameP port ⟨a, q, p, t⟩))) := by
  have l1 := World.block_lt_of_cell? _ _ h1
  simp only [] at l1
  cases he : (p == port)
  all_goals
    have E := Lib.hid he
    go_enter Try.func85, Try.ntmps85
    go_wp2
    go_ret
    exact ⟨by simp [sameP, E.out], (Below.refl _ _).alloc (Nat.le_refl _) _⟩
theorem impl_byEnd_1 (a q p t fa fq : Int) (bc : Nat) (W : World) (h1 : W.cell? ⟨bc, 0, none⟩ = some (.int .i64 fa)) (h2 : W.cell? ⟨bc, 1, none⟩ = some (.int .i64 fq)) :
    Calls Try.prog 91 #[.agg #[.int .i64 a, .int .i64 q, .int .i64 p, .int .i64 t], .pointer (some ⟨bc, 0, none⟩)] W (Ret W (.bool (sameE fa fq ⟨a, q, p, t⟩))) := by
  have l1 := World.block_lt_of_cell? _ _ h1
  simp only [] at l1
  cases he : ((a == fa) && (q == fq))
  all_goals
    have E := eqlEnB _ _ _ _ he
    have HE := Lib.hid he
    clear he
    go_enter Try.func91, Try.ntmps91
    go_wp2
    go_ret
    exact ⟨by simp only [sameE, HE.out]; rfl, (Below.refl _ _).alloc (Nat.le_refl _) _⟩
theorem impl_byPort (A : Option Addr) (c n : Nat) (l : List Mp) (port : Int) (w : World) (hn : n = l.length) (hl : l.length ≤ 2000000) (hs : Sl encM 4 w A c l) :
    Calls Try.prog 47 #[.slice A n c, .int .i64 port] w (Ret w (.int .i64 (byP l port))) := by
  subst hn
  obtain ⟨wq, hwq⟩ : ∃ x, x = w.alloc (.cells #[.int .i64 port] 3) := ⟨_, rfl⟩
  have hq : Below w.heap.size w wq := by subst hwq; exact (Below.refl _ _).alloc (Nat.le_refl _) _
  have hzz : w.heap.size < wq.heap.size := by subst hwq; simp
  have c0 : ∀ W, Below wq.heap.size wq W → W.cell? ⟨w.heap.size, 0, none⟩ = some (.int .i64 port) := fun W h => bcell h hzz (by subst hwq; exact cell_of_row _ _ _ _ _ _ (heap_alloc_new _ _))
  have hmf : ∀ (fn : Fn) (first cap : Array Value) (w : World), (Instr.makeFunc fn first cap).run Try.prog w = .ok (.func fn first cap) w := fun _ _ _ _ => rfl
  have WQ := Lib.hid hwq
  have HS := Lib.hid hs
  have CL := Lib.hid (fun W (h : Below wq.heap.size wq W) (a q p t : Int) => impl_byPort_1 a q p t port w.heap.size W (c0 W h))
  clear hwq hs c0
  go_enter Try.func47, Try.ntmps47
  go_wp2_with fail
  rw [← WQ.out]
  refine (IndexFunc_mt _ _ _ 85 #[.pointer (some ⟨w.heap.size, 0, none⟩)] (sameP port) _ hl (HS.out.below hq) (fun _ _ => by kernel_rfl) (fun a q p t W hW => CL.out W hW a q p t)).mono ?_
  rintro e w2 ⟨rfl, hb2⟩
  go_wp2
  go_ret
  exact ⟨rfl, bstep hq hb2 hq.size⟩
theorem impl_byEnd (A : Option Addr) (c n : Nat) (l : List Mp) (fa fq : Int) (w : World) (hn : n = l.length) (hl : l.length ≤ 2000000) (hs : Sl encM 4 w A c l) :
    Calls Try.prog 59 #[.slice A n c, .agg #[.int .i64 fa, .int .i64 fq]] w (Ret w (.int .i64 (byE l fa fq))) := by
  subst hn
  obtain ⟨wq, hwq⟩ : ∃ x, x = w.alloc (.cells #[.int .i64 fa, .int .i64 fq] 62) := ⟨_, rfl⟩
  have hq : Below w.heap.size w wq := by subst hwq; exact (Below.refl _ _).alloc (Nat.le_refl _) _
  have c0 : ∀ W, Below wq.heap.size wq W → W.cell? ⟨w.heap.size, 0, none⟩ = some (.int .i64 fa) ∧ W.cell? ⟨w.heap.size, 1, none⟩ = some (.int .i64 fq) ∧ w.heap.size < W.heap.size := fun W h => end_cells w fa fq (W := W) (by subst hwq; exact h)
  have hmf : ∀ (fn : Fn) (first cap : Array Value) (w : World), (Instr.makeFunc fn first cap).run Try.prog w = .ok (.func fn first cap) w := fun _ _ _ _ => rfl
  have WQ := Lib.hid hwq
  have HS := Lib.hid hs
  have CL := Lib.hid (fun W (h : Below wq.heap.size wq W) (a q p t : Int) => impl_byEnd_1 a q p t fa fq w.heap.size W (c0 W h).1 (c0 W h).2.1)
  clear hwq hs c0
  go_enter Try.func59, Try.ntmps59
  go_wp2_with fail
  rw [← WQ.out]
  refine (IndexFunc_mt _ _ _ 91 #[.pointer (some ⟨w.heap.size, 0, none⟩)] (sameE fa fq) _ hl (HS.out.below hq) (fun _ _ => by kernel_rfl) (fun a q p t W hW => CL.out W hW a q p t)).mono ?_
  rintro e w2 ⟨rfl, hb2⟩
  go_wp2
  go_ret
  exact ⟨rfl, bstep hq hb2 hq.size⟩
set_option maxHeartbeats 1000000 in
theorem spec_byPort (A : Option Addr) (c n : Nat) (l : List Mp) (port : Int) (w : World) (hn : n = l.length) (hl : l.length ≤ 2000000) (hs : Sl encM 4 w A c l) :
    Calls Try.prog 77 #[.slice A n c, .int .i64 port] w (Same w (.int .i64 (byP l port))) := by
  subst hn
  go_enter Try.func77, Try.ntmps77
  go_wp2
  go_loop [5] (fun i => ∃ k : Nat, k ≤ l.length ∧ i = .int .i64 k ∧ ∀ y ∈ l.take k, sameP port y = false) (fun i => l.length - (intOf i).toNat)
  case atStart => exact ⟨0, Nat.zero_le _, rfl, by simp⟩
  case round =>
    obtain ⟨k, hk, rfl, hn⟩ := hrel
    have HN := Lib.hid hn
    clear hn
    by_cases hlt : k < l.length
    · obtain ⟨b, o, rfl, hbs, hc⟩ := hs.base hlt
      obtain ⟨a, q, p, t, hx⟩ := mt_at hlt
      obtain ⟨d0, d1, d2, d3⟩ := hc.mt (Below.refl w.heap.size w) hbs hx
      have X := Lib.hid hx
      clear hs hc hx
      cases he : (p == port)
      all_goals
        have HE := Lib.hid (show sameP port ⟨a, q, p, t⟩ = _ from he)
        go_wp2
      · go_round
        case rel => exact ⟨k + 1, by omega, by go_num, none_step X.out HE.out HN.out⟩
        case measure => simp [intOf]; omega
      · go_ret
        exact ⟨by unfold byP; rw [idx_at X.out HE.out HN.out]; rfl, rfl⟩
    · go_wp2
      go_ret
      have := HN.out
      rw [List.take_of_length_le (by omega)] at this
      exact ⟨by unfold byP; rw [idx_not this]; rfl, rfl⟩
set_option maxHeartbeats 1000000 in
theorem spec_byInside (A : Option Addr) (c n : Nat) (l : List Mp) (fa fq : Int) (w : World) (hn : n = l.length) (hl : l.length ≤ 2000000) (hs : Sl encM 4 w A c l) :
    Calls Try.prog 108 #[.slice A n c, .agg #[.int .i64 fa, .int .i64 fq]] w (Ret w (.int .i64 (byE l fa fq))) := by
  subst hn
  go_enter Try.func108, Try.ntmps108
  go_wp2
  go_loopw [5] (fun i wr => ∃ k : Nat, k ≤ l.length ∧ i = .int .i64 k ∧ Below (w.heap.size + 1) (w.alloc (.cells #[.int .i64 fa, .int .i64 fq] 62)) wr ∧ ∀ y ∈ l.take k, sameE fa fq y = false) (fun i _ => l.length - (intOf i).toNat)
  case atStart => exact ⟨0, Nat.zero_le _, rfl, Below.refl _ _, by simp⟩
  case round =>
    obtain ⟨k, hk, rfl, hb, hn⟩ := hrel
    have HN := Lib.hid hn
    clear hn
    have hb0 : Below w.heap.size w wr := ((Below.refl _ _).alloc (Nat.le_refl _) _).trans (hb.mono (by omega))
    obtain ⟨b0, b1, bz⟩ := end_cells w fa fq (W := wr) (by rw [alloc_size]; exact hb)
    by_cases hlt : k < l.length
    · obtain ⟨b, o, rfl, hbs, hc⟩ := hs.base hlt
      obtain ⟨a, q, p, t, hx⟩ := mt_at hlt
      obtain ⟨d0, d1, d2, d3⟩ := hc.mt hb0 hbs hx
      have X := Lib.hid hx
      clear hs hc hx
      cases he : ((a == fa) && (q == fq))
      all_goals
        have HE := Lib.hid (show sameE fa fq ⟨a, q, p, t⟩ = _ from he)
        have E := eqlEnB _ _ _ _ he
        clear he
        go_wp2
        go_quiet (fail)
        go_wp2
      · go_roundw
        case rel => exact ⟨k + 1, by omega, by go_num, bdrewN hb _, none_step X.out HE.out HN.out⟩
        case measure => simp [intOf]; omega
      · go_ret
        exact ⟨by unfold byE; rw [idx_at X.out HE.out HN.out]; rfl, bdrewN hb0 _⟩
    · go_wp2
      go_ret
      have := HN.out
      rw [List.take_of_length_le (by omega)] at this
      exact ⟨by unfold byE; rw [idx_not this]; rfl, hb0⟩
end Go.Proofs.Ytlgfmnognhojnaa
