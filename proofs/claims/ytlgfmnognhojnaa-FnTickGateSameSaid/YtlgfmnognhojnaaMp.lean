/- Free ports: the program's functions and the reference's, walked. -/
import Derived.Test.YtlgfmnognhojnaaMf
namespace Go.Proofs.Ytlgfmnognhojnaa
open Go.RowKit
def freeV (l : List Mp) (want : Int) : Int := if vM l && isW want then freeP l want else -1
set_option maxHeartbeats 4000000 in
theorem spec_freePort (A : Option Addr) (c n : Nat) (l : List Mp) (want : Int) (w : World) (hw0 : 0 ≤ want) (hw1 : want ≤ 65535) (hn : n = l.length) (hl : l.length ≤ 2000000) (hs : Sl encM 4 w A c l) :
    Calls Try.prog 109 #[.slice A n c, .int .i64 want] w (Same w (.int .i64 (freeP l want))) := by
  subst hn
  have HS := Lib.hid hs
  clear hs
  have BP := Lib.hid (fun (port : Int) => spec_byPort A c l.length l port w rfl hl HS.out)
  have main : (inR want 1000 1007 && !used l want) = false → True := fun _ => trivial
  clear main
  cases h1 : inR want 1000 1007
  · have HNO := Lib.hid (show (inR want 1000 1007 && !used l want) = false by rw [h1]; rfl)
    have H1 := Lib.hid h1
    clear h1
    go_enter Try.func109, Try.ntmps109
    go_wp2_with (first | (go_at_call 31; refine (spec_inRange _ _ _ _).mono ?_; rintro e w' ⟨rfl, rfl⟩; rw [H1.out]))
    go_loop [5] (fun i => ∃ k : Nat, k ≤ 8 ∧ i = .int .i64 (1000 + (k : Int)) ∧ (∀ y ∈ ports.take k, (par want y && !used l y) = false)) (fun i => (1008 - intOf i).toNat)
    case atStart => exact ⟨0, by omega, rfl, by simp⟩
    case round =>
      obtain ⟨k, hk8, rfl, hnn⟩ := hrel
      have HNN := Lib.hid hnn
      clear hnn
      by_cases hlt : k < 8
      · obtain ⟨e, he⟩ : ∃ e, byP l (1000 + (k : Int)) = e := ⟨_, rfl⟩
        have HE := Lib.hid he
        have D := byP_free l (1000 + (k : Int))
        rw [he] at D
        cases hp : ((1000 + (k : Int)) % 2 == want % 2)
        · have PF := Lib.hid (show (par want (1000 + (k : Int)) && !used l (1000 + (k : Int))) = false by unfold par; rw [hp]; rfl)
          clear D he
          go_wp2
          go_round
          case rel => exact ⟨k + 1, by omega, by first | rfl | (congr 1; push_cast; omega), none_step (ports_get hlt) PF.out HNN.out⟩
          case measure => simp [intOf]; omega
        · by_cases h0 : e < 0
          · rw [decide_eq_true h0] at D
            have PT := Lib.hid (freeP_par HNO.out (find_at (ports_get hlt) (by show (par want (1000 + (k : Int)) && !used l (1000 + (k : Int))) = true; unfold par; rw [hp, ← D]; rfl) HNN.out))
            clear D he
            go_wp2_with (first | (go_at_call 77; refine (BP.out _).mono ?_; rintro e w' ⟨rfl, rfl⟩; rw [HE.out]))
            go_ret
            exact ⟨by rw [PT.out]; rfl, rfl⟩
          · rw [decide_eq_false h0] at D
            have PF := Lib.hid (show (par want (1000 + (k : Int)) && !used l (1000 + (k : Int))) = false by rw [← D]; simp)
            clear D he
            go_wp2_with (first | (go_at_call 77; refine (BP.out _).mono ?_; rintro e w' ⟨rfl, rfl⟩; rw [HE.out]))
            go_round
            case rel => exact ⟨k + 1, by omega, by first | rfl | (congr 1; push_cast; omega), none_step (ports_get hlt) PF.out HNN.out⟩
            case measure => simp [intOf]; omega
      · have hk9 : k = 8 := by omega
        subst hk9
        have PA := Lib.hid (freeP_any HNO.out (find_none (fun y hy => HNN.out y (by simpa [ports] using hy))))
        clear HNN
        go_wp2
        go_loop [6] (fun i => ∃ k : Nat, k ≤ 8 ∧ i = .int .i64 (1000 + (k : Int)) ∧ (∀ y ∈ ports.take k, (!used l y) = false)) (fun i => (1008 - intOf i).toNat)
        case atStart => exact ⟨0, by omega, rfl, by simp⟩
        case round =>
          obtain ⟨k, hk8, rfl, hnn⟩ := hrel
          have HNN := Lib.hid hnn
          clear hnn
          by_cases hlt : k < 8
          · obtain ⟨e, he⟩ : ∃ e, byP l (1000 + (k : Int)) = e := ⟨_, rfl⟩
            have HE := Lib.hid he
            have D := byP_free l (1000 + (k : Int))
            rw [he] at D
            by_cases h0 : e < 0
            · rw [decide_eq_true h0] at D
              have PT := Lib.hid (show freeP l want = 1000 + (k : Int) by rw [PA.out, find_at (ports_get hlt) D.symm HNN.out]; rfl)
              clear D he
              go_wp2_with (first | (go_at_call 77; refine (BP.out _).mono ?_; rintro e w' ⟨rfl, rfl⟩; rw [HE.out]))
              go_ret
              exact ⟨by rw [PT.out]; rfl, rfl⟩
            · rw [decide_eq_false h0] at D
              have PF := Lib.hid D.symm
              clear D he
              go_wp2_with (first | (go_at_call 77; refine (BP.out _).mono ?_; rintro e w' ⟨rfl, rfl⟩; rw [HE.out]))
              go_round
              case rel => exact ⟨k + 1, by omega, by first | rfl | (congr 1; push_cast; omega), none_step (ports_get hlt) PF.out HNN.out⟩
              case measure => simp [intOf]; omega
          · have hk9 : k = 8 := by omega
            subst hk9
            have PB := Lib.hid (show freeP l want = -1 by rw [PA.out, find_none (fun y hy => HNN.out y (by simpa [ports] using hy))]; rfl)
            go_wp2
            go_ret
            exact ⟨by rw [PB.out]; rfl, rfl⟩
  obtain ⟨e0, he0⟩ : ∃ e, byP l want = e := ⟨_, rfl⟩
  have HE0 := Lib.hid he0
  have D0 := byP_free l want
  rw [he0] at D0
  by_cases h2 : e0 < 0
  · rw [decide_eq_true h2] at D0
    have HF := Lib.hid (freeP_want (l := l) h1 (by simpa using D0.symm))
    have H1 := Lib.hid h1
    clear h1 he0 D0
    go_enter Try.func109, Try.ntmps109
    go_wp2_with (first | (go_at_call 31; refine (spec_inRange _ _ _ _).mono ?_; rintro e w' ⟨rfl, rfl⟩; rw [H1.out]) | (go_at_call 77; refine (BP.out _).mono ?_; rintro e w' ⟨rfl, rfl⟩; rw [HE0.out]))
    go_ret
    exact ⟨by rw [HF.out]; rfl, rfl⟩
  · rw [decide_eq_false h2] at D0
    have HNO := Lib.hid (show (inR want 1000 1007 && !used l want) = false by rw [← D0]; simp)
    have H1 := Lib.hid h1
    clear h1 he0 D0
    go_enter Try.func109, Try.ntmps109
    go_wp2_with (first | (go_at_call 31; refine (spec_inRange _ _ _ _).mono ?_; rintro e w' ⟨rfl, rfl⟩; rw [H1.out]) | (go_at_call 77; refine (BP.out _).mono ?_; rintro e w' ⟨rfl, rfl⟩; rw [HE0.out]))
    go_loop [5] (fun i => ∃ k : Nat, k ≤ 8 ∧ i = .int .i64 (1000 + (k : Int)) ∧ (∀ y ∈ ports.take k, (par want y && !used l y) = false)) (fun i => (1008 - intOf i).toNat)
    case atStart => exact ⟨0, by omega, rfl, by simp⟩
    case round =>
      obtain ⟨k, hk8, rfl, hnn⟩ := hrel
      have HNN := Lib.hid hnn
      clear hnn
      by_cases hlt : k < 8
      · obtain ⟨e, he⟩ : ∃ e, byP l (1000 + (k : Int)) = e := ⟨_, rfl⟩
        have HE := Lib.hid he
        have D := byP_free l (1000 + (k : Int))
        rw [he] at D
        cases hp : ((1000 + (k : Int)) % 2 == want % 2)
        · have PF := Lib.hid (show (par want (1000 + (k : Int)) && !used l (1000 + (k : Int))) = false by unfold par; rw [hp]; rfl)
          clear D he
          go_wp2
          go_round
          case rel => exact ⟨k + 1, by omega, by first | rfl | (congr 1; push_cast; omega), none_step (ports_get hlt) PF.out HNN.out⟩
          case measure => simp [intOf]; omega
        · by_cases h0 : e < 0
          · rw [decide_eq_true h0] at D
            have PT := Lib.hid (freeP_par HNO.out (find_at (ports_get hlt) (by show (par want (1000 + (k : Int)) && !used l (1000 + (k : Int))) = true; unfold par; rw [hp, ← D]; rfl) HNN.out))
            clear D he
            go_wp2_with (first | (go_at_call 77; refine (BP.out _).mono ?_; rintro e w' ⟨rfl, rfl⟩; rw [HE.out]))
            go_ret
            exact ⟨by rw [PT.out]; rfl, rfl⟩
          · rw [decide_eq_false h0] at D
            have PF := Lib.hid (show (par want (1000 + (k : Int)) && !used l (1000 + (k : Int))) = false by rw [← D]; simp)
            clear D he
            go_wp2_with (first | (go_at_call 77; refine (BP.out _).mono ?_; rintro e w' ⟨rfl, rfl⟩; rw [HE.out]))
            go_round
            case rel => exact ⟨k + 1, by omega, by first | rfl | (congr 1; push_cast; omega), none_step (ports_get hlt) PF.out HNN.out⟩
            case measure => simp [intOf]; omega
      · have hk9 : k = 8 := by omega
        subst hk9
        have PA := Lib.hid (freeP_any HNO.out (find_none (fun y hy => HNN.out y (by simpa [ports] using hy))))
        clear HNN
        go_wp2
        go_loop [6] (fun i => ∃ k : Nat, k ≤ 8 ∧ i = .int .i64 (1000 + (k : Int)) ∧ (∀ y ∈ ports.take k, (!used l y) = false)) (fun i => (1008 - intOf i).toNat)
        case atStart => exact ⟨0, by omega, rfl, by simp⟩
        case round =>
          obtain ⟨k, hk8, rfl, hnn⟩ := hrel
          have HNN := Lib.hid hnn
          clear hnn
          by_cases hlt : k < 8
          · obtain ⟨e, he⟩ : ∃ e, byP l (1000 + (k : Int)) = e := ⟨_, rfl⟩
            have HE := Lib.hid he
            have D := byP_free l (1000 + (k : Int))
            rw [he] at D
            by_cases h0 : e < 0
            · rw [decide_eq_true h0] at D
              have PT := Lib.hid (show freeP l want = 1000 + (k : Int) by rw [PA.out, find_at (ports_get hlt) D.symm HNN.out]; rfl)
              clear D he
              go_wp2_with (first | (go_at_call 77; refine (BP.out _).mono ?_; rintro e w' ⟨rfl, rfl⟩; rw [HE.out]))
              go_ret
              exact ⟨by rw [PT.out]; rfl, rfl⟩
            · rw [decide_eq_false h0] at D
              have PF := Lib.hid D.symm
              clear D he
              go_wp2_with (first | (go_at_call 77; refine (BP.out _).mono ?_; rintro e w' ⟨rfl, rfl⟩; rw [HE.out]))
              go_round
              case rel => exact ⟨k + 1, by omega, by first | rfl | (congr 1; push_cast; omega), none_step (ports_get hlt) PF.out HNN.out⟩
              case measure => simp [intOf]; omega
          · have hk9 : k = 8 := by omega
            subst hk9
            have PB := Lib.hid (show freeP l want = -1 by rw [PA.out, find_none (fun y hy => HNN.out y (by simpa [ports] using hy))]; rfl)
            go_wp2
            go_ret
            exact ⟨by rw [PB.out]; rfl, rfl⟩
end Go.Proofs.Ytlgfmnognhojnaa
