/- Free ports: the program's functions and the reference's, walked. -/
import Derived.Test.YtpfmlenodgjebaaMf
namespace Go.Proofs.Ytpfmlenodgjebaa
open Go.RowKit
def freeV (l : List Mp) (want : Int) : Int := if vM l && isW want then freeP l want else -1
theorem impl_freePort_1 (A : Option Addr) (c n : Nat) (l : List Mp) (port : Int) (bc : Nat) (W : World) {r : Bool} (hr : (!used l port) = r) (hn : n = l.length) (hl : l.length ≤ 2000000) (h1 : W.cell? ⟨bc, 0, none⟩ = some (.slice A n c)) (hs : Sl encM 4 W A c l) :
    Calls Try.prog 89 #[.int .i64 port, .pointer (some ⟨bc, 0, none⟩)] W (Ret W (.bool r)) := by
  subst hn
  have D := byP_free l port
  rw [hr] at D
  obtain ⟨e, he⟩ : ∃ e, byP l port = e := ⟨_, rfl⟩
  rw [he] at D
  have HE := Lib.hid he
  have HS := Lib.hid hs
  clear he hs hr
  have D2 : (r = true → e < 0) ∧ (r = false → ¬ e < 0) := by
    constructor
    · intro h; subst h; simpa using D
    · intro h; subst h; simpa using D
  clear D
  cases r
  all_goals
    first | have D3 := D2.1 rfl | have D3 := D2.2 rfl
    clear D2
    go_enter Try.func89, Try.ntmps89
    go_wp2_with fail
    refine (impl_byPort _ _ _ _ _ _ rfl hl HS.out).mono ?_
    rintro e w2 ⟨rfl, hb2⟩
    rw [HE.out]
    go_wp2
    go_ret
    refine ⟨?_, hb2⟩
    first | rfl | (show Ending.returned (.bool (decide (e < 0))) = _; rw [decide_eq_false (by omega)])
set_option maxHeartbeats 4000000 in
theorem impl_freePort (A : Option Addr) (c n : Nat) (l : List Mp) (want : Int) (w : World) (hw0 : 0 ≤ want) (hw1 : want ≤ 65535) (hn : n = l.length) (hl : l.length ≤ 2000000) (hs : Sl encM 4 w A c l) :
    Calls Try.prog 59 #[.slice A n c, .int .i64 want] w (Ret w (.int .i64 (freeP l want))) := by
  subst hn
  obtain ⟨wq, hwq⟩ : ∃ x, x = w.alloc (.cells #[.slice A l.length c] 23) := ⟨_, rfl⟩
  have hq : Below w.heap.size w wq := by subst hwq; exact (Below.refl _ _).alloc (Nat.le_refl _) _
  have hzq : w.heap.size < wq.heap.size := by subst hwq; simp
  have CC := Lib.hid (fun W (h : Below wq.heap.size wq W) => (show W.cell? ⟨w.heap.size, 0, none⟩ = some (.slice A l.length c) from bcell h hzq (by subst hwq; exact cell_of_row _ _ _ _ _ _ (heap_alloc_new _ _))))
  have SL := Lib.hid (fun W (h : Below wq.heap.size wq W) => hs.below (hq.trans (h.mono hq.size)))
  have hmf : ∀ (fn : Fn) (first cap : Array Value) (w : World), (Instr.makeFunc fn first cap).run Try.prog w = .ok (.func fn first cap) w := fun _ _ _ _ => rfl
  have WQ := Lib.hid hwq
  have hk : Below wq.heap.size wq wq := Below.refl _ _
  clear hwq hs
  have FR := Lib.hid (fun (port : Int) (r : Bool) (h : (!used l port) = r) W (hW : Below wq.heap.size wq W) => impl_freePort_1 A c l.length l port w.heap.size W h rfl hl (CC.out W hW) (SL.out W hW))
  cases h1 : inR want 1000 1007
  · have hno : (inR want 1000 1007 && !used l want) = false := by rw [h1]; rfl
    have HNO := Lib.hid hno
    have H1 := Lib.hid h1
    clear h1 hno
    go_enter Try.func59, Try.ntmps59
    go_wp2_with (first | (go_at_call 72; refine (impl_isOutside _ _).mono ?_; rintro e w' ⟨rfl, rfl⟩; rw [H1.out]))
    rw [← WQ.out]
    go_loopw [6, 7] (fun o i wr => ∃ k : Nat, k ≤ 8 ∧ i = .int .i64 (1000 + (k : Int)) ∧ o = .int .i64 (first ((ports.take k).find? fun n => !used l n)) ∧ (∀ y ∈ ports.take k, (par want y && !used l y) = false) ∧ Below wq.heap.size wq wr) (fun _ i _ => (1008 - intOf i).toNat)
    case atStart => exact ⟨0, by omega, rfl, rfl, by simp, hk⟩
    case round =>
      obtain ⟨k, hk8, rfl, rfl, hnn, hb⟩ := hrel
      have HNN := Lib.hid hnn
      clear hnn hk
      by_cases hlt : k < 8
      · have hsk := first_skip (p := fun n => !used l n) hlt
        have hho := first_hold (p := fun n => !used l n) hlt
        have hne := first_new (p := fun n => !used l n) hlt
        obtain ⟨o, ho⟩ : ∃ o, first ((ports.take k).find? fun n => !used l n) = o := ⟨_, rfl⟩
        rw [ho] at hsk hho hne ⊢
        cases hu : (!used l (1000 + (k : Int)))
        · have SK := Lib.hid (hsk hu)
          have HU := Lib.hid hu
          have hpf : (par want (1000 + (k : Int)) && !used l (1000 + (k : Int))) = false := by rw [hu]; simp
          have PF := Lib.hid hpf
          clear hsk hho hne ho hu hpf
          go_wp2_with fail
          refine (FR.out _ _ HU.out _ hb).mono ?_
          rintro e w5 ⟨rfl, hb5⟩
          have hb6 := bstep hb hb5 hb.size
          go_wp2
          go_roundw
          case rel => exact ⟨k + 1, by omega, by first | rfl | (congr 1; push_cast; omega), by rw [SK.out], none_step (ports_get hlt) PF.out HNN.out, hb6⟩
          case measure => simp [intOf]; omega
        · have HU := Lib.hid hu
          cases hp : ((1000 + (k : Int)) % 2 == want % 2)
          · have hpf : (par want (1000 + (k : Int)) && !used l (1000 + (k : Int))) = false := by unfold par; rw [hp]; rfl
            have PF := Lib.hid hpf
            by_cases ho0 : 0 ≤ o
            · have SK := Lib.hid (hho ho0)
              have ho1 : ¬ o < 0 := by omega
              clear hsk hho hne ho hu hpf
              go_wp2_with fail
              refine (FR.out _ _ HU.out _ hb).mono ?_
              rintro e w5 ⟨rfl, hb5⟩
              have hb6 := bstep hb hb5 hb.size
              go_wp2
              go_roundw
              case rel => exact ⟨k + 1, by omega, by first | rfl | (congr 1; push_cast; omega), by rw [SK.out], none_step (ports_get hlt) PF.out HNN.out, hb6⟩
              case measure => simp [intOf]; omega
            · have ho1 : o < 0 := by omega
              have SK := Lib.hid (hne ho1 hu)
              clear hsk hho hne ho hu hpf ho0
              go_wp2_with fail
              refine (FR.out _ _ HU.out _ hb).mono ?_
              rintro e w5 ⟨rfl, hb5⟩
              have hb6 := bstep hb hb5 hb.size
              go_wp2
              go_roundw
              case rel => exact ⟨k + 1, by omega, by first | rfl | (congr 1; push_cast; omega), by rw [SK.out], none_step (ports_get hlt) PF.out HNN.out, hb6⟩
              case measure => simp [intOf]; omega
          · have PT := Lib.hid (freeP_par HNO.out (find_at (ports_get hlt) (by show (par want (1000 + (k : Int)) && !used l (1000 + (k : Int))) = true; unfold par; rw [hp, hu]; rfl) HNN.out))
            clear hsk hho hne ho hu
            go_wp2_with fail
            refine (FR.out _ _ HU.out _ hb).mono ?_
            rintro e w5 ⟨rfl, hb5⟩
            have hb6 := bstep hb hb5 hb.size
            go_wp2
            go_ret
            exact ⟨by rw [PT.out]; rfl, hq.trans (hb6.mono hq.size)⟩
      · have hk9 : k = 8 := by omega
        subst hk9
        have PA := Lib.hid (freeP_any HNO.out (find_none (fun y hy => HNN.out y (by simpa [ports] using hy))))
        go_wp2
        go_ret
        exact ⟨by rw [PA.out]; rfl, hq.trans (hb.mono hq.size)⟩
  cases h2 : (!used l want)
  · have hno : (inR want 1000 1007 && !used l want) = false := by rw [h2]; simp
    have HNO := Lib.hid hno
    have H1 := Lib.hid h1
    have H2 := Lib.hid h2
    clear h1 h2 hno
    go_enter Try.func59, Try.ntmps59
    go_wp2_with (first | (go_at_call 72; refine (impl_isOutside _ _).mono ?_; rintro e w' ⟨rfl, rfl⟩; rw [H1.out, ← WQ.out]))
    refine (FR.out _ _ H2.out _ hk).mono ?_
    rintro e w2 ⟨rfl, hb2⟩
    have hk := hb2
    go_wp2
    go_loopw [6, 7] (fun o i wr => ∃ k : Nat, k ≤ 8 ∧ i = .int .i64 (1000 + (k : Int)) ∧ o = .int .i64 (first ((ports.take k).find? fun n => !used l n)) ∧ (∀ y ∈ ports.take k, (par want y && !used l y) = false) ∧ Below wq.heap.size wq wr) (fun _ i _ => (1008 - intOf i).toNat)
    case atStart => exact ⟨0, by omega, rfl, rfl, by simp, hk⟩
    case round =>
      obtain ⟨k, hk8, rfl, rfl, hnn, hb⟩ := hrel
      have HNN := Lib.hid hnn
      clear hnn hk
      by_cases hlt : k < 8
      · have hsk := first_skip (p := fun n => !used l n) hlt
        have hho := first_hold (p := fun n => !used l n) hlt
        have hne := first_new (p := fun n => !used l n) hlt
        obtain ⟨o, ho⟩ : ∃ o, first ((ports.take k).find? fun n => !used l n) = o := ⟨_, rfl⟩
        rw [ho] at hsk hho hne ⊢
        cases hu : (!used l (1000 + (k : Int)))
        · have SK := Lib.hid (hsk hu)
          have HU := Lib.hid hu
          have hpf : (par want (1000 + (k : Int)) && !used l (1000 + (k : Int))) = false := by rw [hu]; simp
          have PF := Lib.hid hpf
          clear hsk hho hne ho hu hpf
          go_wp2_with fail
          refine (FR.out _ _ HU.out _ hb).mono ?_
          rintro e w5 ⟨rfl, hb5⟩
          have hb6 := bstep hb hb5 hb.size
          go_wp2
          go_roundw
          case rel => exact ⟨k + 1, by omega, by first | rfl | (congr 1; push_cast; omega), by rw [SK.out], none_step (ports_get hlt) PF.out HNN.out, hb6⟩
          case measure => simp [intOf]; omega
        · have HU := Lib.hid hu
          cases hp : ((1000 + (k : Int)) % 2 == want % 2)
          · have hpf : (par want (1000 + (k : Int)) && !used l (1000 + (k : Int))) = false := by unfold par; rw [hp]; rfl
            have PF := Lib.hid hpf
            by_cases ho0 : 0 ≤ o
            · have SK := Lib.hid (hho ho0)
              have ho1 : ¬ o < 0 := by omega
              clear hsk hho hne ho hu hpf
              go_wp2_with fail
              refine (FR.out _ _ HU.out _ hb).mono ?_
              rintro e w5 ⟨rfl, hb5⟩
              have hb6 := bstep hb hb5 hb.size
              go_wp2
              go_roundw
              case rel => exact ⟨k + 1, by omega, by first | rfl | (congr 1; push_cast; omega), by rw [SK.out], none_step (ports_get hlt) PF.out HNN.out, hb6⟩
              case measure => simp [intOf]; omega
            · have ho1 : o < 0 := by omega
              have SK := Lib.hid (hne ho1 hu)
              clear hsk hho hne ho hu hpf ho0
              go_wp2_with fail
              refine (FR.out _ _ HU.out _ hb).mono ?_
              rintro e w5 ⟨rfl, hb5⟩
              have hb6 := bstep hb hb5 hb.size
              go_wp2
              go_roundw
              case rel => exact ⟨k + 1, by omega, by first | rfl | (congr 1; push_cast; omega), by rw [SK.out], none_step (ports_get hlt) PF.out HNN.out, hb6⟩
              case measure => simp [intOf]; omega
          · have PT := Lib.hid (freeP_par HNO.out (find_at (ports_get hlt) (by show (par want (1000 + (k : Int)) && !used l (1000 + (k : Int))) = true; unfold par; rw [hp, hu]; rfl) HNN.out))
            clear hsk hho hne ho hu
            go_wp2_with fail
            refine (FR.out _ _ HU.out _ hb).mono ?_
            rintro e w5 ⟨rfl, hb5⟩
            have hb6 := bstep hb hb5 hb.size
            go_wp2
            go_ret
            exact ⟨by rw [PT.out]; rfl, hq.trans (hb6.mono hq.size)⟩
      · have hk9 : k = 8 := by omega
        subst hk9
        have PA := Lib.hid (freeP_any HNO.out (find_none (fun y hy => HNN.out y (by simpa [ports] using hy))))
        go_wp2
        go_ret
        exact ⟨by rw [PA.out]; rfl, hq.trans (hb.mono hq.size)⟩
  · have HF := Lib.hid (freeP_want (l := l) h1 (by simpa using h2))
    have H1 := Lib.hid h1
    have H2 := Lib.hid h2
    clear h1 h2
    go_enter Try.func59, Try.ntmps59
    go_wp2_with (first | (go_at_call 72; refine (impl_isOutside _ _).mono ?_; rintro e w' ⟨rfl, rfl⟩; rw [H1.out, ← WQ.out]))
    refine (FR.out _ _ H2.out _ hk).mono ?_
    rintro e w2 ⟨rfl, hb2⟩
    go_wp2
    go_ret
    exact ⟨by rw [HF.out]; rfl, hq.trans (hb2.mono hq.size)⟩
set_option maxHeartbeats 1000000 in
theorem impl_FreePort (A : Option Addr) (c n : Nat) (l : List Mp) (want : Int) (w : World) (hn : n = l.length) (hl : l.length ≤ 2000000) (hs : Sl encM 4 w A c l) :
    Calls Try.prog 24 #[.slice A n c, .int .i64 want] w (Ret w (.int .i64 (freeV l want))) := by
  subst hn
  have HS := Lib.hid hs
  clear hs
  cases hv : vM l
  · have HV := Lib.hid hv
    clear hv
    go_enter Try.func24, Try.ntmps24
    go_wp2_with (first | (go_at_call 31; refine (impl_ValidTable _ _ _ _ _ rfl hl HS.out).mono ?_; rintro e w2 ⟨rfl, hb2⟩; rw [HV.out]))
    go_ret
    exact ⟨by unfold freeV; rw [HV.out]; rfl, hb2⟩
  cases h1 : isW want
  · have HV := Lib.hid hv
    have H1 := Lib.hid h1
    clear hv h1
    go_enter Try.func24, Try.ntmps24
    go_wp2_with (first | (go_at_call 31; refine (impl_ValidTable _ _ _ _ _ rfl hl HS.out).mono ?_; rintro e w2 ⟨rfl, hb2⟩; rw [HV.out]) | (go_at_call 58; refine (impl_isWord _ _).mono ?_; rintro e w' ⟨rfl, rfl⟩; rw [H1.out]))
    go_ret
    exact ⟨by unfold freeV; rw [HV.out, H1.out]; rfl, hb2⟩
  · have hw := of_decide_eq_true h1
    obtain ⟨hw0, hw1⟩ := hw
    have HV := Lib.hid hv
    have H1 := Lib.hid h1
    clear hv h1
    go_enter Try.func24, Try.ntmps24
    go_wp2_with (first | (go_at_call 31; refine (impl_ValidTable _ _ _ _ _ rfl hl HS.out).mono ?_; rintro e w2 ⟨rfl, hb2⟩; rw [HV.out]) | (go_at_call 58; refine (impl_isWord _ _).mono ?_; rintro e w' ⟨rfl, rfl⟩; rw [H1.out]) | (go_at_call 59; refine (impl_freePort _ _ _ _ _ _ hw0 hw1 rfl hl (HS.out.below hb2)).mono ?_; rintro e w3 ⟨rfl, hb3⟩))
    go_ret
    exact ⟨by unfold freeV; rw [HV.out, H1.out]; rfl, bstep hb2 hb3 hb2.size⟩
set_option maxHeartbeats 4000000 in
theorem spec_freePort (A : Option Addr) (c n : Nat) (l : List Mp) (want : Int) (w : World) (hw0 : 0 ≤ want) (hw1 : want ≤ 65535) (hn : n = l.length) (hl : l.length ≤ 2000000) (hs : Sl encM 4 w A c l) :
    Calls Try.prog 62 #[.slice A n c, .int .i64 want] w (Same w (.int .i64 (freeP l want))) := by
  subst hn
  have HS := Lib.hid hs
  clear hs
  have BP := Lib.hid (fun (port : Int) => spec_byPort A c l.length l port w rfl hl HS.out)
  have main : (inR want 1000 1007 && !used l want) = false → True := fun _ => trivial
  clear main
  cases h1 : inR want 1000 1007
  · have HNO := Lib.hid (show (inR want 1000 1007 && !used l want) = false by rw [h1]; rfl)
    have H1 := Lib.hid h1
    clear h1
    go_enter Try.func62, Try.ntmps62
    go_wp2_with (first | (go_at_call 61; refine (spec_inRange _ _ _ _).mono ?_; rintro e w' ⟨rfl, rfl⟩; rw [H1.out]))
    go_loop [5] (fun i => ∃ k : Nat, k ≤ 8 ∧ i = .int .i64 (1000 + (k : Int)) ∧ (∀ y ∈ ports.take k, (par want y && !used l y) = false)) (fun i => (1008 - intOf i).toNat)
    case atStart => exact ⟨0, by omega, rfl, by simp⟩
    case round =>
      obtain ⟨k, hk8, rfl, hnn⟩ := hrel
      have HNN := Lib.hid hnn
      clear hnn
      by_cases hlt : k < 8
      · obtain ⟨e, he⟩ : ∃ e, byP l (1000 + (k : Int)) = e := ⟨_, rfl⟩
        have HE := Lib.hid he
        have D := byP_free l (1000 + (k : Int))
        rw [he] at D
        cases hp : ((1000 + (k : Int)) % 2 == want % 2)
        · have PF := Lib.hid (show (par want (1000 + (k : Int)) && !used l (1000 + (k : Int))) = false by unfold par; rw [hp]; rfl)
          clear D he
          go_wp2
          go_round
          case rel => exact ⟨k + 1, by omega, by first | rfl | (congr 1; push_cast; omega), none_step (ports_get hlt) PF.out HNN.out⟩
          case measure => simp [intOf]; omega
        · by_cases h0 : e < 0
          · rw [decide_eq_true h0] at D
            have PT := Lib.hid (freeP_par HNO.out (find_at (ports_get hlt) (by show (par want (1000 + (k : Int)) && !used l (1000 + (k : Int))) = true; unfold par; rw [hp, ← D]; rfl) HNN.out))
            clear D he
            go_wp2_with (first | (go_at_call 78; refine (BP.out _).mono ?_; rintro e w' ⟨rfl, rfl⟩; rw [HE.out]))
            go_ret
            exact ⟨by rw [PT.out]; rfl, rfl⟩
          · rw [decide_eq_false h0] at D
            have PF := Lib.hid (show (par want (1000 + (k : Int)) && !used l (1000 + (k : Int))) = false by rw [← D]; simp)
            clear D he
            go_wp2_with (first | (go_at_call 78; refine (BP.out _).mono ?_; rintro e w' ⟨rfl, rfl⟩; rw [HE.out]))
            go_round
            case rel => exact ⟨k + 1, by omega, by first | rfl | (congr 1; push_cast; omega), none_step (ports_get hlt) PF.out HNN.out⟩
            case measure => simp [intOf]; omega
      · have hk9 : k = 8 := by omega
        subst hk9
        have PA := Lib.hid (freeP_any HNO.out (find_none (fun y hy => HNN.out y (by simpa [ports] using hy))))
        clear HNN
        go_wp2
        go_loop [6] (fun i => ∃ k : Nat, k ≤ 8 ∧ i = .int .i64 (1000 + (k : Int)) ∧ (∀ y ∈ ports.take k, (!used l y) = false)) (fun i => (1008 - intOf i).toNat)
        case atStart => exact ⟨0, by omega, rfl, by simp⟩
        case round =>
          obtain ⟨k, hk8, rfl, hnn⟩ := hrel
          have HNN := Lib.hid hnn
          clear hnn
          by_cases hlt : k < 8
          · obtain ⟨e, he⟩ : ∃ e, byP l (1000 + (k : Int)) = e := ⟨_, rfl⟩
            have HE := Lib.hid he
            have D := byP_free l (1000 + (k : Int))
            rw [he] at D
            by_cases h0 : e < 0
            · rw [decide_eq_true h0] at D
              have PT := Lib.hid (show freeP l want = 1000 + (k : Int) by rw [PA.out, find_at (ports_get hlt) D.symm HNN.out]; rfl)
              clear D he
              go_wp2_with (first | (go_at_call 78; refine (BP.out _).mono ?_; rintro e w' ⟨rfl, rfl⟩; rw [HE.out]))
              go_ret
              exact ⟨by rw [PT.out]; rfl, rfl⟩
            · rw [decide_eq_false h0] at D
              have PF := Lib.hid D.symm
              clear D he
              go_wp2_with (first | (go_at_call 78; refine (BP.out _).mono ?_; rintro e w' ⟨rfl, rfl⟩; rw [HE.out]))
              go_round
              case rel => exact ⟨k + 1, by omega, by first | rfl | (congr 1; push_cast; omega), none_step (ports_get hlt) PF.out HNN.out⟩
              case measure => simp [intOf]; omega
          · have hk9 : k = 8 := by omega
            subst hk9
            have PB := Lib.hid (show freeP l want = -1 by rw [PA.out, find_none (fun y hy => HNN.out y (by simpa [ports] using hy))]; rfl)
            go_wp2
            go_ret
            exact ⟨by rw [PB.out]; rfl, rfl⟩
  obtain ⟨e0, he0⟩ : ∃ e, byP l want = e := ⟨_, rfl⟩
  have HE0 := Lib.hid he0
  have D0 := byP_free l want
  rw [he0] at D0
  by_cases h2 : e0 < 0
  · rw [decide_eq_true h2] at D0
    have HF := Lib.hid (freeP_want (l := l) h1 (by simpa using D0.symm))
    have H1 := Lib.hid h1
    clear h1 he0 D0
    go_enter Try.func62, Try.ntmps62
    go_wp2_with (first | (go_at_call 61; refine (spec_inRange _ _ _ _).mono ?_; rintro e w' ⟨rfl, rfl⟩; rw [H1.out]) | (go_at_call 78; refine (BP.out _).mono ?_; rintro e w' ⟨rfl, rfl⟩; rw [HE0.out]))
    go_ret
    exact ⟨by rw [HF.out]; rfl, rfl⟩
  · rw [decide_eq_false h2] at D0
    have HNO := Lib.hid (show (inR want 1000 1007 && !used l want) = false by rw [← D0]; simp)
    have H1 := Lib.hid h1
    clear h1 he0 D0
    go_enter Try.func62, Try.ntmps62
    go_wp2_with (first | (go_at_call 61; refine (spec_inRange _ _ _ _).mono ?_; rintro e w' ⟨rfl, rfl⟩; rw [H1.out]) | (go_at_call 78; refine (BP.out _).mono ?_; rintro e w' ⟨rfl, rfl⟩; rw [HE0.out]))
    go_loop [5] (fun i => ∃ k : Nat, k ≤ 8 ∧ i = .int .i64 (1000 + (k : Int)) ∧ (∀ y ∈ ports.take k, (par want y && !used l y) = false)) (fun i => (1008 - intOf i).toNat)
    case atStart => exact ⟨0, by omega, rfl, by simp⟩
    case round =>
      obtain ⟨k, hk8, rfl, hnn⟩ := hrel
      have HNN := Lib.hid hnn
      clear hnn
      by_cases hlt : k < 8
      · obtain ⟨e, he⟩ : ∃ e, byP l (1000 + (k : Int)) = e := ⟨_, rfl⟩
        have HE := Lib.hid he
        have D := byP_free l (1000 + (k : Int))
        rw [he] at D
        cases hp : ((1000 + (k : Int)) % 2 == want % 2)
        · have PF := Lib.hid (show (par want (1000 + (k : Int)) && !used l (1000 + (k : Int))) = false by unfold par; rw [hp]; rfl)
          clear D he
          go_wp2
          go_round
          case rel => exact ⟨k + 1, by omega, by first | rfl | (congr 1; push_cast; omega), none_step (ports_get hlt) PF.out HNN.out⟩
          case measure => simp [intOf]; omega
        · by_cases h0 : e < 0
          · rw [decide_eq_true h0] at D
            have PT := Lib.hid (freeP_par HNO.out (find_at (ports_get hlt) (by show (par want (1000 + (k : Int)) && !used l (1000 + (k : Int))) = true; unfold par; rw [hp, ← D]; rfl) HNN.out))
            clear D he
            go_wp2_with (first | (go_at_call 78; refine (BP.out _).mono ?_; rintro e w' ⟨rfl, rfl⟩; rw [HE.out]))
            go_ret
            exact ⟨by rw [PT.out]; rfl, rfl⟩
          · rw [decide_eq_false h0] at D
            have PF := Lib.hid (show (par want (1000 + (k : Int)) && !used l (1000 + (k : Int))) = false by rw [← D]; simp)
            clear D he
            go_wp2_with (first | (go_at_call 78; refine (BP.out _).mono ?_; rintro e w' ⟨rfl, rfl⟩; rw [HE.out]))
            go_round
            case rel => exact ⟨k + 1, by omega, by first | rfl | (congr 1; push_cast; omega), none_step (ports_get hlt) PF.out HNN.out⟩
            case measure => simp [intOf]; omega
      · have hk9 : k = 8 := by omega
        subst hk9
        have PA := Lib.hid (freeP_any HNO.out (find_none (fun y hy => HNN.out y (by simpa [ports] using hy))))
        clear HNN
        go_wp2
        go_loop [6] (fun i => ∃ k : Nat, k ≤ 8 ∧ i = .int .i64 (1000 + (k : Int)) ∧ (∀ y ∈ ports.take k, (!used l y) = false)) (fun i => (1008 - intOf i).toNat)
        case atStart => exact ⟨0, by omega, rfl, by simp⟩
        case round =>
          obtain ⟨k, hk8, rfl, hnn⟩ := hrel
          have HNN := Lib.hid hnn
          clear hnn
          by_cases hlt : k < 8
          · obtain ⟨e, he⟩ : ∃ e, byP l (1000 + (k : Int)) = e := ⟨_, rfl⟩
            have HE := Lib.hid he
            have D := byP_free l (1000 + (k : Int))
            rw [he] at D
            by_cases h0 : e < 0
            · rw [decide_eq_true h0] at D
              have PT := Lib.hid (show freeP l want = 1000 + (k : Int) by rw [PA.out, find_at (ports_get hlt) D.symm HNN.out]; rfl)
              clear D he
              go_wp2_with (first | (go_at_call 78; refine (BP.out _).mono ?_; rintro e w' ⟨rfl, rfl⟩; rw [HE.out]))
              go_ret
              exact ⟨by rw [PT.out]; rfl, rfl⟩
            · rw [decide_eq_false h0] at D
              have PF := Lib.hid D.symm
              clear D he
              go_wp2_with (first | (go_at_call 78; refine (BP.out _).mono ?_; rintro e w' ⟨rfl, rfl⟩; rw [HE.out]))
              go_round
              case rel => exact ⟨k + 1, by omega, by first | rfl | (congr 1; push_cast; omega), none_step (ports_get hlt) PF.out HNN.out⟩
              case measure => simp [intOf]; omega
          · have hk9 : k = 8 := by omega
            subst hk9
            have PB := Lib.hid (show freeP l want = -1 by rw [PA.out, find_none (fun y hy => HNN.out y (by simpa [ports] using hy))]; rfl)
            go_wp2
            go_ret
            exact ⟨by rw [PB.out]; rfl, rfl⟩
set_option maxHeartbeats 1000000 in
theorem spec_FreePort (A : Option Addr) (c n : Nat) (l : List Mp) (want : Int) (w : World) (hn : n = l.length) (hl : l.length ≤ 2000000) (hs : Sl encM 4 w A c l) :
    Calls Try.prog 25 #[.slice A n c, .int .i64 want] w (Ret w (.int .i64 (freeV l want))) := by
  subst hn
  have HS := Lib.hid hs
  clear hs
  cases hv : vM l
  · have HV := Lib.hid hv
    clear hv
    go_enter Try.func25, Try.ntmps25
    go_wp2_with (first | (go_at_call 60; refine (spec_validTable _ _ _ _ _ rfl hl HS.out).mono ?_; rintro e w2 ⟨rfl, hb2⟩; rw [HV.out]))
    go_ret
    exact ⟨by unfold freeV; rw [HV.out]; rfl, hb2⟩
  cases h1 : isW want
  · have HV := Lib.hid hv
    have H1 := Lib.hid h1
    clear hv h1
    go_enter Try.func25, Try.ntmps25
    go_wp2_with (first | (go_at_call 60; refine (spec_validTable _ _ _ _ _ rfl hl HS.out).mono ?_; rintro e w2 ⟨rfl, hb2⟩; rw [HV.out]) | (go_at_call 61; refine (spec_inRange _ _ _ _).mono ?_; rintro e w' ⟨rfl, rfl⟩; rw [inR_word, H1.out]))
    go_ret
    exact ⟨by unfold freeV; rw [HV.out, H1.out]; rfl, hb2⟩
  · have hw := of_decide_eq_true h1
    obtain ⟨hw0, hw1⟩ := hw
    have HV := Lib.hid hv
    have H1 := Lib.hid h1
    clear hv h1
    go_enter Try.func25, Try.ntmps25
    go_wp2_with (first | (go_at_call 60; refine (spec_validTable _ _ _ _ _ rfl hl HS.out).mono ?_; rintro e w2 ⟨rfl, hb2⟩; rw [HV.out]) | (go_at_call 61; refine (spec_inRange _ _ _ _).mono ?_; rintro e w' ⟨rfl, rfl⟩; rw [inR_word, H1.out]) | (go_at_call 62; refine (spec_freePort _ _ _ _ _ _ hw0 hw1 rfl hl (HS.out.below hb2)).mono ?_; rintro e w' ⟨rfl, rfl⟩))
    go_ret
    exact ⟨by unfold freeV; rw [HV.out, H1.out]; rfl, hb2⟩
end Go.Proofs.Ytpfmlenodgjebaa
