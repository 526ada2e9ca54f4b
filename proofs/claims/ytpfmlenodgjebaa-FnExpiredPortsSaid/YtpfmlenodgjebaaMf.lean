/- Ports and ends of tables, free ports: the program's functions and the reference's, walked. -/
import Derived.Test.YtpfmlenodgjebaaMv
namespace Go.Proofs.Ytpfmlenodgjebaa
open Go.RowKit

def outP (l : List Mp) (a q : Int) : Int := if vM l then (match l.find? (sameE a q) with | some x => x.p | none => -1) else -1
def zeroMp : Mp := ⟨0, 0, 0, 0⟩
def insO (l : List Mp) (p : Int) : Bool := vM l && used l p
def insE (l : List Mp) (p : Int) : Mp := if insO l p then (l.find? (sameP p)).getD zeroMp else zeroMp
theorem find_idx {α : Type} {p : α → Bool} {l : List α} {k : Nat} {x : α} (h : l[k]? = some x) (hp : p x = true) (hn : ∀ y ∈ l.take k, p y = false) : l.find? p = some x := find_at h hp hn
theorem outP_bad {l : List Mp} {a q : Int} (h : vM l = false) : outP l a q = -1 := by unfold outP; rw [h]; rfl
theorem outP_none {l : List Mp} {a q : Int} (h : byE l a q < 0) : outP l a q = -1 := by
  unfold outP
  rw [find_none (idx_neg h).2]
  split <;> rfl
theorem outP_some {l : List Mp} {a q : Int} {k : Nat} {x : Mp} (hv : vM l = true) (h : l[k]? = some x) (hp : sameE a q x = true) (hn : ∀ y ∈ l.take k, sameE a q y = false) : outP l a q = x.p := by
  unfold outP
  rw [hv, find_at h hp hn]
  rfl
theorem insO_bad {l : List Mp} {p : Int} (h : vM l = false) : insO l p = false := by unfold insO; rw [h]; rfl
theorem insO_none {l : List Mp} {p : Int} (h : byP l p < 0) : insO l p = false := by
  unfold insO
  rw [show used l p = false from by rw [← byP_used]; exact decide_eq_false (by omega)]
  simp
theorem insE_no {l : List Mp} {p : Int} (h : insO l p = false) : insE l p = zeroMp := by unfold insE; rw [h]; rfl
theorem ins_some {l : List Mp} {p : Int} {k : Nat} {x : Mp} (hv : vM l = true) (h : l[k]? = some x) (hp : sameP p x = true) (hn : ∀ y ∈ l.take k, sameP p y = false) : insO l p = true ∧ insE l p = x := by
  have : insO l p = true := by
    unfold insO used
    rw [hv, List.any_eq_true.2 ⟨x, List.mem_of_getElem? h, hp⟩]
    rfl
  refine ⟨this, ?_⟩
  unfold insE
  rw [this, find_at h hp hn]
  rfl
theorem first_lo (p : Int → Bool) (k : Nat) : first ((ports.take k).find? p) = -1 ∨ 1000 ≤ first ((ports.take k).find? p) := by
  cases h : (ports.take k).find? p with
  | none => exact .inl rfl
  | some n => exact .inr (mem_ports.1 (List.mem_of_mem_take (List.mem_of_find?_eq_some h))).1
theorem first_skip {p : Int → Bool} {k : Nat} (h : k < 8) (hp : p (1000 + (k : Int)) = false) : first ((ports.take (k + 1)).find? p) = first ((ports.take k).find? p) := by
  rw [first_snoc h, hp]
  rcases first_lo p k with e | e
  · rw [e]; rfl
  · rw [if_pos (show 0 ≤ first ((ports.take k).find? p) by omega)]
theorem first_hold {p : Int → Bool} {k : Nat} (h : k < 8) (h0 : 0 ≤ first ((ports.take k).find? p)) : first ((ports.take (k + 1)).find? p) = first ((ports.take k).find? p) := by
  rw [first_snoc h, if_pos h0]
theorem first_new {p : Int → Bool} {k : Nat} (h : k < 8) (h0 : first ((ports.take k).find? p) < 0) (hp : p (1000 + (k : Int)) = true) : first ((ports.take (k + 1)).find? p) = 1000 + (k : Int) := by
  rw [first_snoc h, if_neg (by omega), hp]
  rfl
theorem freeP_want {l : List Mp} {want : Int} (h1 : inR want 1000 1007 = true) (h2 : used l want = false) : freeP l want = want := by unfold freeP; rw [h1, h2]; rfl
theorem freeP_par {l : List Mp} {want n : Int} (h : (inR want 1000 1007 && !used l want) = false) (hn : ports.find? (fun n => par want n && !used l n) = some n) : freeP l want = n := by unfold freeP; rw [h, hn]; rfl
theorem freeP_any {l : List Mp} {want : Int} (h : (inR want 1000 1007 && !used l want) = false) (hn : ports.find? (fun n => par want n && !used l n) = none) : freeP l want = first (ports.find? fun n => !used l n) := by unfold freeP; rw [h, hn]; rfl
set_option maxHeartbeats 2000000 in
theorem impl_OutsidePort (A : Option Addr) (c n : Nat) (l : List Mp) (fa fq : Int) (w : World) (hn : n = l.length) (hl : l.length ≤ 2000000) (hs : Sl encM 4 w A c l) :
    Calls Try.prog 26 #[.slice A n c, .agg #[.int .i64 fa, .int .i64 fq]] w (Ret w (.int .i64 (outP l fa fq))) := by
  subst hn
  obtain ⟨wq, hwq⟩ : ∃ x, x = w.alloc (.cells #[.int .i64 fa, .int .i64 fq] 28) := ⟨_, rfl⟩
  have hq : Below w.heap.size w wq := by subst hwq; exact (Below.refl _ _).alloc (Nat.le_refl _) _
  have c0 : ∀ W, Below wq.heap.size wq W → W.cell? ⟨w.heap.size, 0, none⟩ = some (.int .i64 fa) ∧ W.cell? ⟨w.heap.size, 1, none⟩ = some (.int .i64 fq) ∧ w.heap.size < W.heap.size := fun W h => end_cells w fa fq (W := W) (by subst hwq; exact h)
  have SL := Lib.hid (fun W (h : Below wq.heap.size wq W) => hs.below (hq.trans (h.mono hq.size)))
  have WQ := Lib.hid hwq
  obtain ⟨x0, x1, xz⟩ := c0 wq (Below.refl _ _)
  obtain ⟨e, he⟩ : ∃ e, byE l fa fq = e := ⟨_, rfl⟩
  have HE := Lib.hid he
  have hk : Below wq.heap.size wq wq := Below.refl _ _
  clear hwq c0
  have hlc := hs.1
  cases hv : vM l
  · rw [outP_bad hv]
    have HV := Lib.hid hv
    clear hv hs he
    go_enter Try.func26, Try.ntmps26
    go_wp2_with fail
    rw [← WQ.out]
    refine (impl_byEnd _ _ _ _ _ _ _ rfl hl (SL.out _ hk)).mono ?_
    rintro e w2 ⟨rfl, hb2⟩
    rw [HE.out]
    go_wp2_with fail
    refine (impl_ValidTable _ _ _ _ _ rfl hl (SL.out _ hb2)).mono ?_
    rintro e w3 ⟨rfl, hb3⟩
    rw [HV.out]
    go_wp2
    go_ret
    exact ⟨rfl, hq.trans ((bstep hb2 hb3 hb2.size).mono hq.size)⟩
  by_cases h0 : 0 ≤ e
  · obtain ⟨k, x, hkx, hx, hp, hnn⟩ := idx_pos (p := sameE fa fq) (l := l) (by unfold byE at he; omega)
    rw [outP_some hv hx hp hnn]
    have hek : e = (k : Int) := by unfold byE at he; omega
    subst hek
    obtain ⟨a, q, p, t⟩ := x
    obtain ⟨b, o, rfl, hbs, hc⟩ := hs.base (lt_of_get hx)
    have hkl := lt_of_get hx
    have D := Lib.hid (fun W (h : Below w.heap.size w W) => hc.mt h hbs hx)
    have HV := Lib.hid hv
    clear hv hs he hkx hx hp hnn hc
    go_enter Try.func26, Try.ntmps26
    go_wp2_with fail
    rw [← WQ.out]
    refine (impl_byEnd _ _ _ _ _ _ _ rfl hl (SL.out _ hk)).mono ?_
    rintro e w2 ⟨rfl, hb2⟩
    rw [HE.out]
    go_wp2_with fail
    refine (impl_ValidTable _ _ _ _ _ rfl hl (SL.out _ hb2)).mono ?_
    rintro e w3 ⟨rfl, hb3⟩
    rw [HV.out]
    have hk3 := hq.trans ((bstep hb2 hb3 hb2.size).mono hq.size)
    obtain ⟨d0, d1, d2, d3⟩ := D.out w3 hk3
    go_wp2
    go_ret
    exact ⟨rfl, hk3⟩
  · rw [outP_none (by omega)]
    have HV := Lib.hid hv
    clear hv hs he
    go_enter Try.func26, Try.ntmps26
    go_wp2_with fail
    rw [← WQ.out]
    refine (impl_byEnd _ _ _ _ _ _ _ rfl hl (SL.out _ hk)).mono ?_
    rintro e w2 ⟨rfl, hb2⟩
    rw [HE.out]
    go_wp2_with fail
    refine (impl_ValidTable _ _ _ _ _ rfl hl (SL.out _ hb2)).mono ?_
    rintro e w3 ⟨rfl, hb3⟩
    rw [HV.out]
    go_wp2
    go_ret
    exact ⟨rfl, hq.trans ((bstep hb2 hb3 hb2.size).mono hq.size)⟩
set_option maxHeartbeats 2000000 in
theorem impl_InsideEnd (A : Option Addr) (c n : Nat) (l : List Mp) (port : Int) (w : World) (hn : n = l.length) (hl : l.length ≤ 2000000) (hs : Sl encM 4 w A c l) :
    Calls Try.prog 54 #[.slice A n c, .int .i64 port] w (Ret w (.tuple #[.agg #[.int .i64 (insE l port).a, .int .i64 (insE l port).q], .bool (insO l port)])) := by
  subst hn
  obtain ⟨wq, hwq⟩ : ∃ x, x = w.alloc (.cells #[.int .i64 0, .int .i64 0] 28) := ⟨_, rfl⟩
  have hq : Below w.heap.size w wq := by subst hwq; exact (Below.refl _ _).alloc (Nat.le_refl _) _
  have BL := Lib.hid (show Bl encI1 1 28 wq w.heap.size 2 [0, 0] by subst hwq; exact Bl.lit2 w 0 0 _)
  have hzq : w.heap.size < wq.heap.size := by subst hwq; simp
  have SL := Lib.hid (fun W (h : Below wq.heap.size wq W) => hs.below (hq.trans (h.mono hq.size)))
  have WQ := Lib.hid hwq
  obtain ⟨e, he⟩ : ∃ e, byP l port = e := ⟨_, rfl⟩
  have HE := Lib.hid he
  have hk : Below wq.heap.size wq wq := Below.refl _ _
  clear hwq
  have hlc := hs.1
  have bad : insO l port = false → (vM l = false ∨ e < 0) → Calls Try.prog 54 #[.slice A l.length c, .int .i64 port] w (Ret w (.tuple #[.agg #[.int .i64 (insE l port).a, .int .i64 (insE l port).q], .bool (insO l port)])) := by
    intro hno hor
    rw [insE_no hno, hno]
    clear hs he hno
    have hor2 : vM l = false ∨ (vM l = true ∧ e < 0) := by rcases hor with h | h <;> cases hv : vM l <;> simp_all
    clear hor
    rcases hor2 with hv | ⟨hv, h0⟩
    all_goals
      have HV := Lib.hid hv
      clear hv
      go_enter Try.func54, Try.ntmps54
      go_wp2_with fail
      rw [← WQ.out]
      refine (impl_byPort _ _ _ _ _ _ rfl hl (SL.out _ hk)).mono ?_
      rintro e w2 ⟨rfl, hb2⟩
      rw [HE.out]
      go_wp2_with fail
      refine (impl_ValidTable _ _ _ _ _ rfl hl (SL.out _ hb2)).mono ?_
      rintro e w3 ⟨rfl, hb3⟩
      rw [HV.out]
      have hk3 := bstep hb2 hb3 hb2.size
      obtain ⟨⟨x0, x1⟩, f0, f1⟩ := (BL.out.below hk3 hzq).two
      have hk4 := hq.trans (hk3.mono hq.size)
      have hz3 : w.heap.size < w3.heap.size := Nat.lt_of_lt_of_le hzq hk3.size
      go_wp2
      refine bodyPost_ret (v := .tuple #[.agg #[.int .i64 0, .int .i64 0], .bool false]) (by simp [results, Try.results54, go_sem, x0, x1]) rfl ⟨rfl, ?_⟩
      exact (hk4.setCell (Nat.le_refl _) _).setCell (Nat.le_refl _) _
  cases hv : vM l
  · exact bad (insO_bad hv) (.inl hv)
  by_cases h0 : 0 ≤ e
  · obtain ⟨k, x, hkx, hx, hp, hnn⟩ := idx_pos (p := sameP port) (l := l) (by unfold byP at he; omega)
    obtain ⟨r1, r2⟩ := ins_some hv hx hp hnn
    rw [r1, r2]
    have hek : e = (k : Int) := by unfold byP at he; omega
    subst hek
    obtain ⟨a, q, p, t⟩ := x
    obtain ⟨b, o, rfl, hbs, hc⟩ := hs.base (lt_of_get hx)
    have hkl := lt_of_get hx
    have D := Lib.hid (fun W (h : Below w.heap.size w W) => hc.mt h hbs hx)
    have HV := Lib.hid hv
    clear hv hs he hkx hx hp hnn hc bad r1 r2
    go_enter Try.func54, Try.ntmps54
    go_wp2_with fail
    rw [← WQ.out]
    refine (impl_byPort _ _ _ _ _ _ rfl hl (SL.out _ hk)).mono ?_
    rintro e w2 ⟨rfl, hb2⟩
    rw [HE.out]
    go_wp2_with fail
    refine (impl_ValidTable _ _ _ _ _ rfl hl (SL.out _ hb2)).mono ?_
    rintro e w3 ⟨rfl, hb3⟩
    rw [HV.out]
    have hk3 := bstep hb2 hb3 hb2.size
    obtain ⟨⟨x0, x1⟩, f0, f1⟩ := (BL.out.below hk3 hzq).two
    have hk4 := hq.trans (hk3.mono hq.size)
    have hz3 : w.heap.size < w3.heap.size := Nat.lt_of_lt_of_le hzq hk3.size
    obtain ⟨d0, d1, d2, d3⟩ := D.out w3 hk4
    have ne : b ≠ w.heap.size := Nat.ne_of_lt hbs
    go_wp2
    refine bodyPost_ret (v := .tuple #[.agg #[.int .i64 a, .int .i64 q], .bool true]) (by simp [results, Try.results54, go_sem, x0, x1]) rfl ⟨rfl, ?_⟩
    exact (hk4.setCell (Nat.le_refl _) _).setCell (Nat.le_refl _) _
  · exact bad (insO_none (by omega)) (.inr (by omega))
end Go.Proofs.Ytpfmlenodgjebaa
