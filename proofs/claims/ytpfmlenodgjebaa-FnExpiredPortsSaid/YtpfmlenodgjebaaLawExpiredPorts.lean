/- The walk of FnExpiredPorts. -/
import Derived.Test.YtpfmlenodgjebaaTc
namespace Go.Proofs.Ytpfmlenodgjebaa
open Go.RowKit
set_option maxHeartbeats 4000000 in
theorem FnExpiredPorts_walk (A : Option Addr) (c : Nat) (l : List Int) (w : World) (hi : CodeIn w A c l) :
    Calls Try.prog 22 #[.slice A l.length c] w (Ret w (.bool true)) := by
  have hc := hi.1
  have hlc := hi.2.1.1
  unfold maxLen at hc
  have HI := Lib.hid hi
  clear hi
  by_cases hbig : 1048576 < l.length
  · go_enter Try.func22, Try.ntmps22
    go_wp2
    go_ret
    exact ⟨rfl, Below.refl _ _⟩
  go_enter Try.func22, Try.ntmps22
  go_wp2_with fail
  refine (DrawExpiredPorts_ _ _ _ _ HI.out).mono ?_
  rintro e w1 ⟨A1, c1, l1, n, h, rfl, hl1, ⟨hn0, hn1⟩, ⟨hh0, hh1⟩, ho, hb⟩
  have SL := Lib.hid (fun W (g : Below w1.heap.size w1 W) => ho.sl.below g)
  have HB := Lib.hid hb
  have hk : Below w1.heap.size w1 w1 := Below.refl _ _
  have hl2 : l1.length ≤ 2000000 := by omega
  clear hb ho
  obtain ⟨L, hL⟩ : ∃ L, goneV l1 n h = L := ⟨_, rfl⟩
  have hLl : L.length ≤ l1.length := by have := goneV_len l1 n h; rwa [hL] at this
  have hLL : L.length ≤ 2000000 := by omega
  have R := Lib.hid hL
  clear hL
  go_wp2_with fail
  refine (impl_EP R.out rfl rfl hl2 (SL.out _ hk)).mono ?_
  rintro e w2 ⟨A2, rfl, ho2, hb2⟩
  have O2 := Lib.hid (fun W (g : Below w2.heap.size w2 W) => ho2.below g)
  have hk2 := hb2
  clear ho2 hb2
  go_wp2_with fail
  refine (spec_EP R.out rfl rfl hl2 (SL.out _ hk2)).mono ?_
  rintro e w3 ⟨A3, c3, rfl, ho3, hb3⟩
  have O3 := Lib.hid (fun W (g : Below w3.heap.size w3 W) => ho3.below g)
  have hk3 := bstep hk2 hb3 hk2.size
  have hj3 := hb3
  clear ho3 hb3
  go_wp2_with fail
  refine (eqIn (l := L) (l' := L) (decide_eq_true rfl) rfl rfl hLL hLL (O2.out w3 hj3).1 (O3.out w3 (Below.refl _ _)).sl).mono ?_
  rintro e w4 ⟨rfl, hb4⟩
  have hk4 := bstep hk3 hb4 hk3.size
  have hj4 := bstep hj3 hb4 hj3.size
  clear hb4
  obtain ⟨L2, hL2⟩ : ∃ L2, expV l1 n h = L2 := ⟨_, rfl⟩
  have hL2l : L2.length ≤ l1.length := by have := exp_len l1 n h; rwa [hL2] at this
  have hLL2 : L2.length ≤ 2000000 := by omega
  have T2 := Lib.hid hL2
  have GF := Lib.hid (fun p (hp : p ∈ L) => (show insO L2 p = false ∧ insO l1 p = true by rw [← R.out] at hp; have := gone_free hp; rwa [hL2] at this))
  have GL := Lib.hid (fun (g : L2.length ≠ 0) => (show L.length + L2.length = l1.length by have := gone_len (l := l1) (now := n) (hold := h) (by rw [hL2]; exact g); rwa [R.out, hL2] at this))
  clear hL2
  go_wp2_with fail
  refine (impl_ET T2.out rfl rfl hl2 (SL.out _ hk4)).mono ?_
  rintro e w5 ⟨A5, rfl, ho5, hb5⟩
  have O5 := Lib.hid (fun W (g : Below w5.heap.size w5 W) => ho5.below g)
  have hk5 := bstep hk4 hb5 hk4.size
  have hj5 := bstep hj4 hb5 hj4.size
  clear ho5 hb5
  go_wp2
  go_loopw [8] (fun i wr => ∃ m : Nat, m ≤ L.length ∧ i = .int .i64 m ∧ Below w5.heap.size w5 wr) (fun i _ => L.length - (intOf i).toNat)
  case atStart => exact ⟨0, Nat.zero_le _, rfl, Below.refl _ _⟩
  case round =>
    obtain ⟨m, hm, rfl, hbr⟩ := hrel
    have hkr := bstep hk5 hbr hk5.size
    have hjr := bstep hj5 hbr hj5.size
    by_cases hlt : m < L.length
    · obtain ⟨b, o, hA2, hbs, hc⟩ := (O2.out wr hjr).1.base hlt
      subst hA2
      obtain ⟨p, hx⟩ : ∃ p, L[m]? = some p := ⟨_, List.getElem?_eq_getElem hlt⟩
      have d0 := hc.inn (Below.refl _ _) hbs hx
      have hgf := GF.out p (List.mem_of_getElem? hx)
      obtain ⟨x1, hx1⟩ : ∃ x, insE L2 p = x := ⟨_, rfl⟩
      obtain ⟨x2, hx2⟩ : ∃ x, insE l1 p = x := ⟨_, rfl⟩
      have F1 := Lib.hid hgf.1
      have F2 := Lib.hid hgf.2
      have X1 := Lib.hid hx1
      have X2 := Lib.hid hx2
      have HC := Lib.hid hc
      have HX := Lib.hid hx
      clear hgf hx1 hx2 hc hx
      go_wp2_with fail
      refine (impl_IE F1.out X1.out rfl hLL2 (O5.out wr hbr).1).mono ?_
      rintro e w6 ⟨rfl, hb6⟩
      have hk6 := bstep hkr hb6 hkr.size
      have hr6 := bstep hbr hb6 hbr.size
      obtain ⟨w6a, hw6a⟩ : ∃ x, x = w6.alloc (.cells #[.int .i64 x1.a, .int .i64 x1.q] 28) := ⟨_, rfl⟩
      have hk6a : Below w1.heap.size w1 w6a := by subst hw6a; exact hk6.alloc hk6.size _
      have hr6a : Below w5.heap.size w5 w6a := by subst hw6a; exact hr6.alloc hr6.size _
      have WA := Lib.hid hw6a
      have d1 : w6.cell? ⟨b, o + m, none⟩ = some (.int .i64 p) := HC.out.inn hb6 hbs HX.out
      have hbz : b < w6.heap.size := Nat.lt_of_lt_of_le hbs hb6.size
      clear hw6a hb6 d0
      go_wp2_with fail
      rw [← WA.out]
      refine (impl_IE F2.out X2.out rfl hl2 (SL.out _ hk6a)).mono ?_
      rintro e w7 ⟨rfl, hb7⟩
      have hr7 := bstep hr6a hb7 hr6a.size
      have hr8 : Below w5.heap.size w5 (w7.alloc (.cells #[.int .i64 x2.a, .int .i64 x2.q] 28)) := hr7.alloc hr7.size _
      go_wp2
      go_roundw
      case rel => exact ⟨m + 1, by omega, by go_num, hr8⟩
      case measure => simp [intOf]; omega
    · by_cases h0 : L2.length = 0
      · have hz : ((L2.length : Int) == 0) = true := by rw [h0]; rfl
        clear h0
        go_wp2
        go_ret
        exact ⟨by simp, HB.out.trans (hkr.mono HB.out.size)⟩
      · have hz : ((L2.length : Int) == 0) = false := by rw [beq_eq_false_iff_ne]; omega
        have heq : ((L.length : Int) + (L2.length : Int) == (l1.length : Int)) = true := by rw [beq_iff_eq]; have := GL.out h0; omega
        clear h0
        go_wp2
        go_ret
        exact ⟨by simp, HB.out.trans (hkr.mono HB.out.size)⟩
end Go.Proofs.Ytpfmlenodgjebaa
