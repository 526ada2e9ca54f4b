/- The walk of FnTouchPort. -/
import Derived.Test.YtpfmlenodgjebaaTc
namespace Go.Proofs.Ytpfmlenodgjebaa
open Go.RowKit
set_option maxHeartbeats 4000000 in
theorem FnTouchPort_walk (A : Option Addr) (c : Nat) (l : List Int) (w : World) (hi : CodeIn w A c l) :
    Calls Try.prog 13 #[.slice A l.length c] w (Ret w (.bool true)) := by
  have hc := hi.1
  have hlc := hi.2.1.1
  unfold maxLen at hc
  have HI := Lib.hid hi
  clear hi
  by_cases hbig : 1048576 < l.length
  · go_enter Try.func13, Try.ntmps13
    go_wp2
    go_ret
    exact ⟨rfl, Below.refl _ _⟩
  go_enter Try.func13, Try.ntmps13
  go_wp2_with fail
  refine (DrawTouchPort_ _ _ _ _ HI.out).mono ?_
  rintro e w1 ⟨A1, c1, l1, p, n, rfl, hl1, ⟨hn0, hn1⟩, ho, hb⟩
  have SL := Lib.hid (fun W (g : Below w1.heap.size w1 W) => ho.sl.below g)
  have HB := Lib.hid hb
  have hk : Below w1.heap.size w1 w1 := Below.refl _ _
  have hl2 : l1.length ≤ 2000000 := by omega
  clear hb ho
  obtain ⟨L, hL⟩ : ∃ L, touchV l1 p n = L := ⟨_, rfl⟩
  obtain ⟨r, hr⟩ : ∃ r, touchO l1 p n = r := ⟨_, rfl⟩
  have hLl : L.length ≤ l1.length := by have := touchV_len l1 p n; rwa [hL] at this
  have hLL : L.length ≤ 2000000 := by omega
  have R := Lib.hid hL
  have RO := Lib.hid hr
  clear hL hr
  go_wp2_with fail
  refine (impl_TP R.out RO.out rfl rfl hl2 (SL.out _ hk)).mono ?_
  rintro e w2 ⟨A2, rfl, ho2, hb2⟩
  have O2 := Lib.hid (fun W (g : Below w2.heap.size w2 W) => ho2.below g)
  have hk2 := hb2
  clear ho2 hb2
  go_wp2_with fail
  refine (spec_TP R.out RO.out rfl rfl hl2 (SL.out _ hk2)).mono ?_
  rintro e w3 ⟨A3, c3, rfl, ho3, hb3⟩
  have O3 := Lib.hid (fun W (g : Below w3.heap.size w3 W) => ho3.below g)
  have hk3 := bstep hk2 hb3 hk2.size
  have hj3 := hb3
  clear ho3 hb3
  go_wp2_with fail
  refine (eqTbs (l := L) (l' := L) (decide_eq_true rfl) rfl rfl hLL hLL (O2.out w3 hj3).1 (O3.out w3 (Below.refl _ _)).sl).mono ?_
  rintro e w4 ⟨rfl, hb4⟩
  have hk4 := bstep hk3 hb4 hk3.size
  have hj4 := bstep hj3 hb4 hj3.size
  have hi4 := hb4
  clear hb4
  cases r
  · go_wp2_with fail
    refine (eqTbs (l := L) (l' := L) (decide_eq_true rfl) rfl rfl hLL hLL (O2.out w4 hj4).1 (O3.out w4 hi4).sl).mono ?_
    rintro e w5 ⟨rfl, hb5⟩
    have hk5 := bstep hk4 hb5 hk4.size
    go_wp2
    go_ret
    exact ⟨by simp, HB.out.trans (hk5.mono HB.out.size)⟩
  have hlen : L.length = l1.length := by have := touch_len RO.out; rwa [R.out] at this
  have HVL := Lib.hid (show vM L = true by have := touch_vM RO.out; rwa [R.out] at this)
  have AT := Lib.hid (fun (i : Nat) (y : Mp) (hy : l1[i]? = some y) => (show L[i]? = some (⟨y.a, y.q, y.p, if y.p = p then max y.l n else y.l⟩ : Mp) by have := touch_at RO.out hy; rwa [R.out] at this))
  have HLEN := Lib.hid hlen
  have hle1 : L.length ≤ l1.length := by omega
  have hle2 : l1.length ≤ L.length := by omega
  clear hlen
  go_wp2
  go_loopw [10] (fun i wr => ∃ m : Nat, m ≤ l1.length ∧ i = .int .i64 m ∧ Below w4.heap.size w4 wr) (fun i _ => l1.length - (intOf i).toNat)
  case atStart => exact ⟨0, Nat.zero_le _, rfl, Below.refl _ _⟩
  case round =>
    obtain ⟨m, hm, rfl, hbr⟩ := hrel
    have hkr := bstep hk4 hbr hk4.size
    have hjr := bstep hj4 hbr hj4.size
    by_cases hlt : m < l1.length
    · have hltL : m < L.length := by omega
      obtain ⟨b, o, hA1, hbs, hc⟩ := (SL.out wr hkr).base hlt
      subst hA1
      obtain ⟨a, q, pp, t, hx⟩ := mt_at hlt
      obtain ⟨d0, d1, d2, d3⟩ := hc.mt (Below.refl _ _) hbs hx
      have hg := AT.out m _ hx
      simp only at hg
      obtain ⟨b', o', hA2, hbs', hc'⟩ := (O2.out wr hjr).1.base hltL
      subst hA2
      by_cases hp : pp = p
      · rw [if_pos hp] at hg
        subst hp
        rcases Int.lt_trichotomy t n with hmx | hmx | hmx
        · rw [show max t n = n from by omega] at hg
          obtain ⟨e0, e1, e2, e3⟩ := hc'.mt (Below.refl _ _) hbs' hg
          clear hc hx hc' hg
          have E2 := neqMp a q pp n a q pp n (decide_eq_true rfl)
          go_wp2
          go_quiet (fail)
          go_wp2
          go_roundw
          case rel => exact ⟨m + 1, by omega, by go_num, bdrewN hbr _⟩
          case measure => simp [intOf]; omega
        · subst hmx
          rw [show max t t = t from by omega] at hg
          obtain ⟨e0, e1, e2, e3⟩ := hc'.mt (Below.refl _ _) hbs' hg
          clear hc hx hc' hg
          have E2 := neqMp a q pp t a q pp t (decide_eq_true rfl)
          go_wp2
          go_quiet (fail)
          go_wp2
          go_roundw
          case rel => exact ⟨m + 1, by omega, by go_num, bdrewN hbr _⟩
          case measure => simp [intOf]; omega
        · rw [show max t n = t from by omega] at hg
          obtain ⟨e0, e1, e2, e3⟩ := hc'.mt (Below.refl _ _) hbs' hg
          clear hc hx hc' hg
          have E2 := neqMp a q pp t a q pp t (decide_eq_true rfl)
          go_wp2
          go_quiet (fail)
          go_wp2
          go_roundw
          case rel => exact ⟨m + 1, by omega, by go_num, bdrewN hbr _⟩
          case measure => simp [intOf]; omega
      · rw [if_neg hp] at hg
        have hpb : (pp == p) = false := by rw [beq_eq_false_iff_ne]; exact hp
        obtain ⟨e0, e1, e2, e3⟩ := hc'.mt (Below.refl _ _) hbs' hg
        clear hc hx hc' hg hp
        have E2 := neqMp a q pp t a q pp t (decide_eq_true rfl)
        go_wp2
        go_quiet (fail)
        go_wp2
        go_roundw
        case rel => exact ⟨m + 1, by omega, by go_num, bdrewN hbr _⟩
        case measure => simp [intOf]; omega
    · have hml : m = l1.length := by omega
      have heq : ((L.length : Int) == (l1.length : Int)) = true := by rw [HLEN.out]; exact beq_self_eq_true _
      clear hml
      go_wp2_with fail
      refine (impl_VT HVL.out rfl hLL (O2.out wr hjr).1).mono ?_
      rintro e w6 ⟨rfl, hb6⟩
      have hk6 := bstep hkr hb6 hkr.size
      go_wp2
      go_ret
      exact ⟨by simp, HB.out.trans (hk6.mono HB.out.size)⟩
end Go.Proofs.Ytpfmlenodgjebaa
