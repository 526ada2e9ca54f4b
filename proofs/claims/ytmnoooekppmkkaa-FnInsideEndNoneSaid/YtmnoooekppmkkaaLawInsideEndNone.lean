/- The walk of FnInsideEndNone. -/
import Derived.Test.YtmnoooekppmkkaaMk
namespace Go.Proofs.Ytmnoooekppmkkaa
open Go.RowKit
set_option maxHeartbeats 4000000 in
theorem FnInsideEndNone_walk (A : Option Addr) (c : Nat) (l : List Int) (w : World) (hi : CodeIn w A c l) :
    Calls Try.prog 7 #[.slice A l.length c] w (Ret w (.bool true)) := by
  have hc := hi.1
  have hlc := hi.2.1.1
  unfold maxLen at hc
  have HI := Lib.hid hi
  clear hi
  by_cases hbig : 1048576 < l.length
  · go_enter Try.func7, Try.ntmps7
    go_wp2
    go_ret
    exact ⟨rfl, Below.refl _ _⟩
  go_enter Try.func7, Try.ntmps7
  go_wp2_with fail
  refine (DrawInsideEnd_ _ _ _ _ HI.out).mono ?_
  rintro e w2 ⟨A1, c1, l1, p, rfl, hl1, ho, hb⟩
  have SL := Lib.hid (fun W (h : Below w2.heap.size w2 W) => ho.sl.below h)
  have HB := Lib.hid hb
  have HO := Lib.hid ho
  have hk : Below w2.heap.size w2 w2 := Below.refl _ _
  have hl2 : l1.length ≤ 2000000 := by omega
  clear hb ho
  obtain ⟨o, ho⟩ : ∃ o, insO l1 p = o := ⟨_, rfl⟩
  obtain ⟨x, hx⟩ : ∃ x, insE l1 p = x := ⟨_, rfl⟩
  have HOO := Lib.hid ho
  have HX := Lib.hid hx
  clear ho hx
  have E := neqEnB x.a x.q x.a x.q (r := true) (by simp)
  have E2 := eqlEnB x.a x.q x.a x.q (r := true) (by simp)
  cases hv : vM l1
  · have HV := Lib.hid hv
    have ho : o = false := by rw [← HOO.out]; exact insO_bad hv
    subst ho
    clear hv
    go_wp2_with fail
    refine (impl_IE HOO.out HX.out rfl hl2 (SL.out _ hk)).mono ?_
    rintro e w3 ⟨rfl, hb3⟩
    obtain ⟨wq, hwq⟩ : ∃ y, y = w3.alloc (.cells #[.int .i64 x.a, .int .i64 x.q] 25) := ⟨_, rfl⟩
    have hk3 := bstep hk hb3 hk.size
    have hkq : Below w2.heap.size w2 wq := by subst hwq; exact hk3.alloc hk3.size _
    have EC := Lib.hid (fun W (h : Below wq.heap.size wq W) => end_cells w3 x.a x.q (W := W) (by subst hwq; exact h))
    have WQ := Lib.hid hwq
    clear hwq
    go_wp2_with fail
    rw [← WQ.out]
    refine (spec_IE HOO.out HX.out rfl hl2 (SL.out _ hkq)).mono ?_
    rintro e w4 ⟨rfl, hb4⟩
    have hk4 := bstep hkq hb4 hkq.size
    obtain ⟨x0, x1, xz⟩ := EC.out _ hb4
    have hk5 : Below w2.heap.size w2 (w4.alloc (.cells #[.int .i64 x.a, .int .i64 x.q] 25)) := hk4.alloc hk4.size _
    go_wp2_with fail
    refine (impl_VT HV.out rfl hl2 (SL.out _ hk5)).mono ?_
    rintro e w5 ⟨rfl, hb5⟩
    have hk6 := bstep hk5 hb5 hk5.size
    have hz5 : w3.heap.size < w5.heap.size ∧ w4.heap.size < w5.heap.size := by have := hb5.size; rw [alloc_size] at this; omega
    obtain ⟨hz5a, hz5b⟩ := hz5
    have y0 : w5.cell? ⟨w3.heap.size, 0, none⟩ = some (.int .i64 x.a) := bcell hb5 (by simp; omega) (by rw [World.cell?_alloc_lt _ _ _ xz]; exact x0)
    have y1 : w5.cell? ⟨w3.heap.size, 1, none⟩ = some (.int .i64 x.q) := bcell hb5 (by simp; omega) (by rw [World.cell?_alloc_lt _ _ _ xz]; exact x1)
    obtain ⟨z0, z1, _⟩ := end_cells w4 x.a x.q hb5
    go_wp2
    go_ret
    exact ⟨rfl, HB.out.trans (hk6.mono HB.out.size)⟩
  · have HV := Lib.hid hv
    have HU := Lib.hid (show l1.any (sameP p) = o by rw [← HOO.out, insO_used hv]; rfl)
    clear hv
    cases o
    all_goals
      go_wp2_with fail
      refine (impl_IE HOO.out HX.out rfl hl2 (SL.out _ hk)).mono ?_
      rintro e w3 ⟨rfl, hb3⟩
      obtain ⟨wq, hwq⟩ : ∃ y, y = w3.alloc (.cells #[.int .i64 x.a, .int .i64 x.q] 25) := ⟨_, rfl⟩
      have hk3 := bstep hk hb3 hk.size
      have hkq : Below w2.heap.size w2 wq := by subst hwq; exact hk3.alloc hk3.size _
      have EC := Lib.hid (fun W (h : Below wq.heap.size wq W) => end_cells w3 x.a x.q (W := W) (by subst hwq; exact h))
      have WQ := Lib.hid hwq
      clear hwq
      go_wp2_with fail
      rw [← WQ.out]
      refine (spec_IE HOO.out HX.out rfl hl2 (SL.out _ hkq)).mono ?_
      rintro e w4 ⟨rfl, hb4⟩
      have hk4 := bstep hkq hb4 hkq.size
      obtain ⟨x0, x1, xz⟩ := EC.out _ hb4
      have hk5 : Below w2.heap.size w2 (w4.alloc (.cells #[.int .i64 x.a, .int .i64 x.q] 25)) := hk4.alloc hk4.size _
      go_wp2_with fail
      refine (impl_VT HV.out rfl hl2 (SL.out _ hk5)).mono ?_
      rintro e w5 ⟨rfl, hb5⟩
      have hk6 := bstep hk5 hb5 hk5.size
      have D := SL.out _ hk6
      clear x0 x1 xz
      go_wp2
      go_loop [9, 10] (fun s i => ∃ m : Nat, m ≤ l1.length ∧ i = .int .i64 m ∧ s = .bool ((l1.take m).any (sameP p))) (fun _ i => l1.length - (intOf i).toNat)
      case atStart => exact ⟨0, Nat.zero_le _, rfl, by simp⟩
      case round =>
        obtain ⟨m, hm, rfl, rfl⟩ := hrel
        by_cases hlt : m < l1.length
        · obtain ⟨b, ob, rfl, hbs, hcr⟩ := D.base hlt
          obtain ⟨a', q', p', t', hx⟩ := mt_at hlt
          obtain ⟨d0, d1, d2, d3⟩ := hcr.mt (Below.refl w5.heap.size w5) hbs hx
          have hsn : ∀ r, (p' == p) = r → (l1.take (m + 1)).any (sameP p) = ((l1.take m).any (sameP p) || r) := by
            rintro r rfl
            rw [take_succ hx, List.any_append]
            simp [sameP]
          have SN := Lib.hid hsn
          clear hsn hcr hx D
          cases hs : (l1.take m).any (sameP p)
          · cases he : (p' == p)
            all_goals
              have HE := Lib.hid (SN.out _ he)
              rw [hs] at HE
              clear hs
              go_wp2
              go_round
              case rel => exact ⟨m + 1, by omega, by go_num, by rw [HE.out]; rfl⟩
              case measure => simp [intOf]; omega
          · have HE := Lib.hid (SN.out _ rfl)
            rw [hs] at HE
            clear hs
            go_wp2
            go_round
            case rel => exact ⟨m + 1, by omega, by go_num, by rw [HE.out]; rfl⟩
            case measure => simp [intOf]; omega
        · have hml : l1.take m = l1 := List.take_of_length_le (by omega)
          rw [hml, HU.out]
          clear hml
          go_wp2
          go_ret
          exact ⟨rfl, HB.out.trans (hk6.mono HB.out.size)⟩
end Go.Proofs.Ytmnoooekppmkkaa
