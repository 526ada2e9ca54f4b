/- The generators of packets, walked. -/
import Derived.Test.YtnkdhpbbiilekaaKf
import Derived.Test.YtnkdhpbbiilekaaMg
namespace Go.Proofs.Ytnkdhpbbiilekaa
open Go.RowKit
theorem encI_eq : encI1 = encI := rfl
/-- A result laid in six cells. -/
theorem six_stores {w : World} {g : Nat} {k fa fp ta tp : Int} {s : Value} {k0 fa0 fp0 ta0 tp0 : Int} {s0 : Value} (h : PkAt w g k0 fa0 fp0 ta0 tp0 s0) :
    PkAt ((((((w.setCell ⟨g, 0, none⟩ (.int .i64 k)).setCell ⟨g, 1, none⟩ (.int .i64 fa)).setCell ⟨g, 2, none⟩ (.int .i64 fp)).setCell ⟨g, 3, none⟩ (.int .i64 ta)).setCell ⟨g, 4, none⟩ (.int .i64 tp)).setCell ⟨g, 5, none⟩ s) g k fa fp ta tp s :=
  (((((h.set 0 (.int .i64 k) rfl).set 1 (.int .i64 fa) rfl).set 2 (.int .i64 fp) rfl).set 3 (.int .i64 ta) rfl).set 4 (.int .i64 tp) rfl).set 5 s rfl
theorem grown_six {w0 w : World} {b : Nat} {row : Option Nat} (h : w0.grownBy w row) (hb : w0.heap.size ≤ b) (u0 u1 u2 u3 u4 u5 : Value) :
    w0.grownBy ((((((w.setCell ⟨b, 0, none⟩ u0).setCell ⟨b, 1, none⟩ u1).setCell ⟨b, 2, none⟩ u2).setCell ⟨b, 3, none⟩ u3).setCell ⟨b, 4, none⟩ u4).setCell ⟨b, 5, none⟩ u5) row :=
  grown_setCell (grown_setCell (grown_setCell (grown_setCell (grown_setCell (grown_setCell h (.inr hb) _) (.inr hb) _) (.inr hb) _) (.inr hb) _) (.inr hb) _) (.inr hb) _
theorem below_six {w0 w : World} {B b : Nat} (h : Below B w0 w) (hb : B ≤ b) (u0 u1 u2 u3 u4 u5 : Value) :
    Below B w0 ((((((w.setCell ⟨b, 0, none⟩ u0).setCell ⟨b, 1, none⟩ u1).setCell ⟨b, 2, none⟩ u2).setCell ⟨b, 3, none⟩ u3).setCell ⟨b, 4, none⟩ u4).setCell ⟨b, 5, none⟩ u5) :=
  (((((h.setCell hb _).setCell hb _).setCell hb _).setCell hb _).setCell hb _).setCell hb _
theorem Rd.six {w : World} {g N b : Nat} (h : Rd w g N) (hb : g < b) (u0 u1 u2 u3 u4 u5 : Value) :
    Rd ((((((w.setCell ⟨b, 0, none⟩ u0).setCell ⟨b, 1, none⟩ u1).setCell ⟨b, 2, none⟩ u2).setCell ⟨b, 3, none⟩ u3).setCell ⟨b, 4, none⟩ u4).setCell ⟨b, 5, none⟩ u5) g N :=
  (((((h.setCell hb _).setCell hb _).setCell hb _).setCell hb _).setCell hb _).setCell hb _
theorem ow_six {α : Type} {enc : α → List Value} {k : Nat} {e : TypeId} {B c b : Nat} {w : World} {A : Option Addr} {l : List α} (h : Ow enc k e B w A c l) (hb : blk A ≠ some b) (u0 u1 u2 u3 u4 u5 : Value) :
    Ow enc k e B ((((((w.setCell ⟨b, 0, none⟩ u0).setCell ⟨b, 1, none⟩ u1).setCell ⟨b, 2, none⟩ u2).setCell ⟨b, 3, none⟩ u3).setCell ⟨b, 4, none⟩ u4).setCell ⟨b, 5, none⟩ u5) A c l := by
  refine h.of_heap fun g hg => ?_
  have hne : b ≠ g := by rintro rfl; exact hb hg
  rw [Below.heap_setCell _ _ _ _ hne.symm, Below.heap_setCell _ _ _ _ hne.symm, Below.heap_setCell _ _ _ _ hne.symm, Below.heap_setCell _ _ _ _ hne.symm, Below.heap_setCell _ _ _ _ hne.symm, Below.heap_setCell _ _ _ _ hne.symm]
theorem ow_one {α : Type} {enc : α → List Value} {k : Nat} {e : TypeId} {B c b : Nat} {w : World} {A : Option Addr} {l : List α} (h : Ow enc k e B w A c l) (hb : blk A ≠ some b) (j : Nat) (u : Value) :
    Ow enc k e B (w.setCell ⟨b, j, none⟩ u) A c l := by
  refine h.of_heap fun g hg => ?_
  have hne : b ≠ g := by rintro rfl; exact hb hg
  rw [Below.heap_setCell _ _ _ _ hne.symm]
set_option maxHeartbeats 1000000 in
theorem somePacket_ (g N : Nat) (w : World) (hN : N ≤ 500000) (hr : Rd w g N) :
    Calls Try.prog 57 #[.pointer (some ⟨g, 0, none⟩)] w (fun e w' => ∃ (k fa fp ta tp : Int) (A : Option Addr) (c : Nat) (d : List Int), e = .returned (.agg #[.int .i64 k, .int .i64 fa, .int .i64 fp, .int .i64 ta, .int .i64 tp, .slice A d.length c]) ∧ okPk ⟨k, fa, fp, ta, tp, d⟩ = true ∧ Ow encI 1 3 (w.heap.size + 1) w' A c d ∧ Rd w' g (N + 100) ∧ w.grownBy w' (some g)) := by
  have hlt := hr.lt
  obtain ⟨wa, hwa⟩ : ∃ y, y = w.alloc (.cells #[.int .i64 0, .int .i64 0, .int .i64 0, .int .i64 0, .int .i64 0, .slice none 0 0] 27) := ⟨_, rfl⟩
  have hza : wa.heap.size = w.heap.size + 1 := by subst hwa; exact alloc_size _ _
  have ra : Rd wa g N := by subst hwa; exact hr.alloc _
  have pa : PkAt wa w.heap.size 0 0 0 0 0 (.slice none 0 0) := by subst hwa; exact PkAt.new _ _ _ _ _ _ _ _
  have ga : w.grownBy wa (some g) := by subst hwa; exact grown_alloc (World.grownBy.refl _ _) _
  have RA := Lib.hid ra
  have PA := Lib.hid pa
  have GA := Lib.hid ga
  have HZA := Lib.hid hza
  have WA := Lib.hid hwa
  clear hwa hza ra pa ga hr
  go_enter Try.func57, Try.ntmps57
  go_wp2_with fail
  rw [← WA.out]
  refine (pick_ g N 3 _ (by omega) (by omega) (by omega) RA.out).mono ?_
  rintro e w1 ⟨k, rfl, hk0, hk1, _, hr1, hg1⟩
  have hk2 := hk1 (by omega)
  have R1 := Lib.hid hr1
  have G1 := Lib.hid (grown_trans GA.out hg1 (.inl rfl))
  have P1 := Lib.hid (PA.out.grown hg1 (by simp; omega))
  have z1 := hg1.size
  clear hr1 hg1 hk1
  go_wp2_with fail
  refine (someEnd_ g (N + 1) _ (by omega) R1.out).mono ?_
  rintro e w2 ⟨fa, fp, rfl, fa0, fa1, fp0, fp1, hr2, hg2⟩
  have R2 := Lib.hid hr2
  have G2 := Lib.hid (grown_trans G1.out hg2 (.inl rfl))
  have P2 := Lib.hid (P1.out.grown hg2 (by simp; omega))
  have z2 := hg2.size
  clear hr2 hg2
  go_wp2_with fail
  refine (someEnd_ g (N + 1 + 12) _ (by omega) R2.out).mono ?_
  rintro e w3 ⟨ta, tp, rfl, ta0, ta1, tp0, tp1, hr3, hg3⟩
  have z3 := hg3.size
  have hz3 : w.heap.size < w3.heap.size := by have := HZA.out; omega
  obtain ⟨w5, hw5⟩ : ∃ y, y = (w3.alloc (.cells #[] 3)).alloc (.cells #[.int .i64 k, .int .i64 fa, .int .i64 fp, .int .i64 ta, .int .i64 tp, .slice (some ⟨w3.heap.size, 0, none⟩) 0 0] 27) := ⟨_, rfl⟩
  have z5 : w5.heap.size = w3.heap.size + 1 + 1 := by subst hw5; simp
  have R5 := Lib.hid (show Rd w5 g (N + 1 + 12 + 12) by subst hw5; exact (hr3.alloc _).alloc _)
  have G5 := Lib.hid (show w.grownBy w5 (some g) by subst hw5; exact grown_alloc (grown_alloc (grown_trans G2.out hg3 (.inl rfl)) _) _)
  have P5 := Lib.hid (show PkAt w5 w.heap.size 0 0 0 0 0 (.slice none 0 0) by subst hw5; exact ((P2.out.grown hg3 (by simp; omega)).alloc _).alloc _)
  have Q5 := Lib.hid (show PkAt w5 (w3.heap.size + 1) k fa fp ta tp (.slice (some ⟨w3.heap.size, 0, none⟩) 0 0) by
    subst hw5
    have := PkAt.new (w3.alloc (.cells #[] 3)) 27 k fa fp ta tp (.slice (some ⟨w3.heap.size, 0, none⟩) 0 0)
    rw [alloc_size] at this
    exact this)
  have O5 := Lib.hid (show Ow encI 1 3 (w.heap.size + 1) w5 (some ⟨w3.heap.size, 0, none⟩) 0 ([] : List Int) by
    subst hw5
    exact ((Ow.empty w3 (Nat.le_refl _)).alloc _).base (by omega))
  have W5 := Lib.hid hw5
  have HZ5 := Lib.hid z5
  clear hr3 hg3 hw5 z5
  go_wp2_with fail
  rw [← W5.out]
  refine (one_lit _ _ [2, 3, 1, 0, 5, 12] rfl HZ5.out rfl (by simp) (by simp) (by omega) R5.out).mono ?_
  rintro e w6 ⟨n, rfl, hn, hr6, hg6⟩
  have hn12 : 0 ≤ n ∧ n ≤ 12 := by
    simp only [List.mem_cons, List.not_mem_nil, or_false] at hn
    omega
  obtain ⟨n0, rfl⟩ : ∃ n0 : Nat, n = (n0 : Int) := ⟨n.toNat, by omega⟩
  have hn0 : n0 ≤ 12 := by omega
  have z6 := hg6.size
  have z5 := HZ5.out
  have R6 := Lib.hid hr6
  have G6 := Lib.hid (grown_trans G5.out hg6 (.inl rfl))
  have P6 := Lib.hid (P5.out.grown hg6 (by simp; omega))
  have Q6 := Lib.hid (Q5.out.grown hg6 (by simp; omega))
  have O6 := Lib.hid (O5.out.grown hg6 (.inr (by simp [blk]; omega)))
  clear hr6 hg6 hn hn12 z5
  go_wp2
  go_loopw [4] (fun u wr => ∃ (m : Nat) (A' : Option Addr) (c' : Nat) (d : List Int), u = .int .i64 m ∧ m ≤ 12 ∧ d.length + m = n0 ∧ d.all isW = true ∧ PkAt wr (w3.heap.size + 1) k fa fp ta tp (.slice A' d.length c') ∧ PkAt wr w.heap.size 0 0 0 0 0 (.slice none 0 0) ∧ Ow encI 1 3 (w.heap.size + 1) wr A' c' d ∧ blk A' ≠ some (w3.heap.size + 1) ∧ Rd wr g (N + 26 + 5 * d.length) ∧ w.grownBy wr (some g)) (fun u _ => (intOf u).toNat)
  case atStart => exact ⟨n0, _, _, [], rfl, hn0, by simp, rfl, Q6.out, P6.out, O6.out, by simp [blk], R6.out.mono (by simp), G6.out⟩
  case round =>
    obtain ⟨m, A', c', d, rfl, hm12, hdm, hd, hQ, hP, hO, hA, hR, hG⟩ := hrel
    have QR := Lib.hid hQ
    have PR := Lib.hid hP
    have OR := Lib.hid hO
    have RR := Lib.hid hR
    have GR := Lib.hid hG
    have HA := Lib.hid hA
    have HD := Lib.hid hd
    have hql := hQ.lt
    have hpl := hP.lt
    by_cases hm : 0 < m
    · obtain ⟨y0, y1, y2, y3, y4, y5⟩ := hQ.cells
      clear hQ hP hO hR hG hA hd y0 y1 y2 y3 y4
      go_wp2_with fail
      refine (spec_copyInts _ _ _ d _ rfl (by omega) OR.out.sl).mono ?_
      rintro e w7 ⟨A7, c7, rfl, ho7, hb7⟩
      have O7 := Lib.hid ho7
      have R7 := Lib.hid (RR.out.below_ hb7)
      have Q7 := Lib.hid (QR.out.below_ hb7)
      have P7 := Lib.hid (PR.out.below_ hb7)
      have G7 := Lib.hid (grown_below GR.out hb7)
      have z7 := hb7.size
      clear ho7 hb7 y5
      go_wp2_with fail
      refine (someWord_ g (N + 26 + 5 * d.length) _ (by omega) R7.out).mono ?_
      rintro e w8 ⟨x, rfl, x0, x1, hr8, hg8⟩
      have hA7 : ∀ q, q < wr.heap.size → blk A7 ≠ some q := fun q hq e => by have := (O7.out.blk q e).1; omega
      have O8 := Lib.hid (O7.out.grown hg8 (.inr (hA7 g (by have := RR.out.lt; omega))))
      have R8 := Lib.hid hr8
      have Q8 := Lib.hid (Q7.out.grown hg8 (by simp; omega))
      have P8 := Lib.hid (P7.out.grown hg8 (by simp; omega))
      have G8 := Lib.hid (grown_trans G7.out hg8 (.inl rfl))
      have z8 := hg8.size
      clear hr8 hg8
      go_wp2_with (with_reducible refine wpList_app elI rfl (.tmp 22) (.tmp 25) rfl wr.heap.size _ _ _ d rfl rfl (O8.out.alloc _) _ _ _ [x] rfl rfl (blI w8 x).sl ?c1 (by decide) ?c2 ?_)
      case c1 => first | omega | (simp; omega)
      case c2 => first | omega | (simp; omega)
      intro A9 c9 w9 hown9 hg9 _
      have z9 := hg9.size
      rw [alloc_size] at z9
      have Q9 := ((Q8.out.alloc (.cells #[.int .i64 x] 3)).grown hg9 (fun e => hA7 _ hql e.symm))
      have P9 := ((P8.out.alloc (.cells #[.int .i64 x] 3)).grown hg9 (fun e => hA7 _ hpl e.symm))
      have R9 := ((R8.out.alloc (.cells #[.int .i64 x] 3)).grown hg9 (fun r hr => by have := (O7.out.blk r hr).1; have := RR.out.lt; omega))
      have G9 : w.grownBy w9 (some g) := grown_trans (grown_alloc G8.out _) hg9 (.inr (fun q hq => by have := (O7.out.blk q hq).1; omega))
      have hA9 : ∀ q, q < wr.heap.size → blk A9 ≠ some q := fun q hq e => by have := (hown9.blk q e).1; omega
      obtain ⟨y0, y1, y2, y3, y4, y5⟩ := Q9.cells
      have f5 := Q9.free 5
      have Q9h := Lib.hid Q9
      have O9h := Lib.hid hown9
      clear y0 y1 y2 y3 y4
      go_wp2
      go_roundw
      case rel =>
        refine ⟨m - 1, A9, c9, d ++ [x], by go_num, by omega, by simp; omega, by rw [List.all_append, HD.out]; simp [isW_iff.2 ⟨x0, x1⟩], ?_, P9.far (by simp; omega) _, ?_, hA9 _ hql, ?_, ?_⟩
        · have := Q9h.out.set 5 (.slice A9 (d ++ [x]).length c9) (k' := k) (fa' := fa) (fp' := fp) (ta' := ta) (tp' := tp) (s' := .slice A9 (d ++ [x]).length c9) rfl
          simpa using this
        · exact ow_one (O9h.out.base (by omega)) (hA9 _ hql) _ _
        · exact (R9.setCell (by simp; omega) _).mono (by simp; omega)
        · exact grown_setCell G9 (.inr (by simp; omega)) _
      case measure => simp [intOf]; omega
    · have hm0 : m = 0 := by omega
      subst hm0
      obtain ⟨y0, y1, y2, y3, y4, y5⟩ := hQ.cells
      obtain ⟨x0, x1, x2, x3, x4, x5⟩ := hP.cells
      obtain ⟨f0, f1, f2, f3, f4, f5⟩ := hP.frees
      clear hQ hP hO hR hG hA hd
      go_wp2
      have hS := six_stores (k := k) (fa := fa) (fp := fp) (ta := ta) (tp := tp) (s := .slice A' d.length c') PR.out
      obtain ⟨s0, s1, s2, s3, s4, s5⟩ := hS.cells
      refine bodyPost_ret (v := .agg #[.int .i64 k, .int .i64 fa, .int .i64 fp, .int .i64 ta, .int .i64 tp, .slice A' d.length c']) (by simp [results, Try.results57, go_sem, s0, s1, s2, s3, s4, s5]) rfl ⟨k, fa, fp, ta, tp, A', c', d, rfl, ?_, ?_, ?_, ?_⟩
      · exact okPk_iff.2 ⟨⟨hk0, by show k ≤ 2; omega⟩, ⟨⟨fa0, fa1⟩, fp0, fp1⟩, ⟨⟨ta0, ta1⟩, tp0, tp1⟩, by show d.length ≤ 12; omega, HD.out⟩
      · exact ow_six OR.out (fun e => by have := (OR.out.blk _ e).1; omega) _ _ _ _ _ _
      · exact (RR.out.six hlt _ _ _ _ _ _).mono (by omega)
      · exact grown_six GR.out (Nat.le_refl _) _ _ _ _ _ _
end Go.Proofs.Ytnkdhpbbiilekaa
