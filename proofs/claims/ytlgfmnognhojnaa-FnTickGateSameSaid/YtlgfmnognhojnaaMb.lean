/- The statements' own helpers on slices of mappings: copies, comparisons, marks. -/
import Derived.Test.YtlgfmnognhojnaaMa
namespace Go.Proofs.Ytlgfmnognhojnaa
open Go.RowKit
set_option maxHeartbeats 1000000 in
theorem laws_equalTables (A A' : Option Addr) (c c' : Nat) (l l' : List Mp) (w : World) (hl : l.length ≤ 4000000) (hl' : l'.length ≤ 4000000) (hs : Sl encM 4 w A c l) (hs' : Sl encM 4 w A' c' l') :
    Calls Try.prog 12 #[.slice A l.length c, .slice A' l'.length c'] w (Ret w (.bool (decide (l = l')))) := by
  by_cases hne : l.length = l'.length
  · have hb : ((l.length : Int) != (l'.length : Int)) = false := by rw [bne_eq_false_iff_eq]; omega
    have HNE := Lib.hid hne
    clear hne
    go_enter Try.func12, Try.ntmps12
    go_wp2
    go_loopw [5] (fun i wr => ∃ k : Nat, k ≤ l.length ∧ i = .int .i64 k ∧ Below w.heap.size w wr ∧ ∀ j, j < k → l[j]? = l'[j]?) (fun i _ => l.length - (intOf i).toNat)
    case atStart => exact ⟨0, Nat.zero_le _, rfl, Below.refl _ _, by simp⟩
    case round =>
      obtain ⟨k, hk, rfl, hb2, hn⟩ := hrel
      have HN := Lib.hid hn
      clear hn
      by_cases hlt : k < l.length
      · have hlt' : k < l'.length := by rw [← HNE.out]; exact hlt
        obtain ⟨b, o, rfl, hbs, hc⟩ := hs.base hlt
        obtain ⟨b', o', rfl, hbs', hc'⟩ := hs'.base hlt'
        obtain ⟨a, q, p, t, hx⟩ := mt_at hlt
        obtain ⟨a', q', p', t', hy⟩ := mt_at hlt'
        obtain ⟨d0, d1, d2, d3⟩ := hc.mt hb2 hbs hx
        obtain ⟨e0, e1, e2, e3⟩ := hc'.mt hb2 hbs' hy
        have X := Lib.hid hx
        have Y := Lib.hid hy
        clear hs hc hx hs' hc' hy
        cases he : decide ((⟨a, q, p, t⟩ : Mp) = ⟨a', q', p', t'⟩)
        all_goals
          have HE := Lib.hid he
          have E := neqMp _ _ _ _ _ _ _ _ he
          clear he
          go_wp2
          go_quiet (fail)
          go_wp2
        · go_ret
          exact ⟨by rw [decide_eq_false (list_ne X.out Y.out (of_decide_eq_false HE.out))]; rfl, bdrewN hb2 _⟩
        · go_roundw
          case rel => exact ⟨k + 1, by omega, by go_num, bdrewN hb2 _, same_step X.out (by rw [of_decide_eq_true HE.out]; exact Y.out) HN.out⟩
          case measure => simp [intOf]; omega
      · go_wp2
        go_ret
        exact ⟨by rw [decide_eq_true (list_eq_of HNE.out (fun j hj => HN.out j (by omega)))]; rfl, hb2⟩
  · have hb : ((l.length : Int) != (l'.length : Int)) = true := by rw [bne_iff_ne]; omega
    have HNE := Lib.hid hne
    clear hne
    go_enter Try.func12, Try.ntmps12
    go_wp2
    go_ret
    exact ⟨by rw [decide_eq_false (by intro h; exact HNE.out (by rw [h]))]; rfl, Below.refl _ _⟩
set_option maxHeartbeats 2000000 in
theorem laws_toMappingS (A : Option Addr) (c : Nat) (l : List Mp) (w : World) (hl : l.length ≤ 2000000) (hs : Sl encM 4 w A c l) :
    Calls Try.prog 51 #[.slice A l.length c] w (fun e w' => ∃ A' c', e = .returned (.slice A' l.length c') ∧ Ow encM 4 64 w.heap.size w' A' c' l ∧ Below w.heap.size w w') := by
  go_enter Try.func51, Try.ntmps51
  go_wp2_with (at_make; refine wpList_mk elM rfl _ _ rfl w.heap.size l.length rfl rfl (by omega) (by decide) (Nat.le_refl _) ?_; intro w1 hown hgrow)
  have hbl := hown.bl
  have hb1 : Below w.heap.size w w1 := below_of_grown hgrow (by intro g h; cases h)
  clear hown hgrow
  go_loopw [4] (fun i wr => ∃ k : Nat, k ≤ l.length ∧ i = .int .i64 k ∧ Below w.heap.size w wr ∧ Bl encM 4 64 wr w.heap.size (l.length * 4) (l.take k ++ List.replicate (l.length - k) zeroMp)) (fun i _ => l.length - (intOf i).toNat)
  case atStart => exact ⟨0, Nat.zero_le _, rfl, hb1, by simpa using hbl⟩
  case round =>
    obtain ⟨k, hk, rfl, hb, hB⟩ := hrel
    clear hb1 hbl
    have HB := Lib.hid hB
    clear hB
    by_cases hlt : k < l.length
    · obtain ⟨b, o, rfl, hbs, hc⟩ := hs.base hlt
      obtain ⟨a, q, p, t, hx⟩ := mt_at hlt
      obtain ⟨d0, d1, d2, d3⟩ := hc.mt hb hbs hx
      have X := Lib.hid hx
      have z : (l.take k ++ List.replicate (l.length - k) zeroMp)[k]? = some ⟨0, 0, 0, 0⟩ := by
        rw [List.getElem?_append_right (by simp; omega), List.length_take, Nat.min_eq_left hk, Nat.sub_self, List.getElem?_replicate, if_pos (by omega)]; rfl
      have Z := Lib.hid z
      have hl1 := HB.out.lt
      clear hs hc hx z
      go_wp2_with (go_at_call 86; refine (laws_toMapping _ _ _ _ _).mono ?_; rintro e w2 ⟨rfl, hb2⟩; obtain ⟨⟨e0, e1, e2, e3⟩, f0, f1, f2, f3⟩ := (HB.out.below hb2 hl1).mtAt Z.out)
      go_roundw
      case rel =>
        refine ⟨k + 1, by omega, by go_num, ?_, ?_⟩
        · refine ((((bstep hb hb2 hb.size).setCell ?_ _).setCell ?_ _).setCell ?_ _).setCell ?_ _ <;> exact Nat.le_refl _
        · have := (HB.out.below hb2 hl1).store4 Z.out a q p t
          rw [show (l.take k ++ List.replicate (l.length - k) zeroMp).set k ⟨a, q, p, t⟩ = l.take (k + 1) ++ List.replicate (l.length - (k + 1)) zeroMp from by
            rw [List.set_append_right k _ (by simp; omega), List.length_take, Nat.min_eq_left hk, Nat.sub_self, take_succ X.out, List.append_assoc, show l.length - k = (l.length - (k + 1)) + 1 from by omega, List.replicate_succ]
            rfl] at this
          exact this
      case measure => simp [intOf]; omega
    · go_wp2
      go_ret
      have hkl : k = l.length := by omega
      have hB := HB.out
      rw [hkl, List.take_length, Nat.sub_self, List.replicate_zero, List.append_nil] at hB
      exact ⟨_, _, rfl, .inr ⟨_, rfl, Nat.le_refl _, Nat.le_refl _, by unfold maxLen; omega, hB⟩, hb⟩
set_option maxHeartbeats 1000000 in
theorem laws_eqMappingS (A A' : Option Addr) (c c' : Nat) (l l' : List Mp) (w : World) (hl : l.length ≤ 4000000) (hl' : l'.length ≤ 4000000) (hs : Sl encM 4 w A c l) (hs' : Sl encM 4 w A' c' l') :
    Calls Try.prog 54 #[.slice A l.length c, .slice A' l'.length c'] w (Ret w (.bool (decide (l = l')))) := by
  by_cases hne : l.length = l'.length
  · have hb : ((l.length : Int) != (l'.length : Int)) = false := by rw [bne_eq_false_iff_eq]; omega
    have HNE := Lib.hid hne
    clear hne
    go_enter Try.func54, Try.ntmps54
    go_wp2
    go_loopw [5] (fun i wr => ∃ k : Nat, k ≤ l.length ∧ i = .int .i64 k ∧ Below w.heap.size w wr ∧ ∀ j, j < k → l[j]? = l'[j]?) (fun i _ => l.length - (intOf i).toNat)
    case atStart => exact ⟨0, Nat.zero_le _, rfl, Below.refl _ _, by simp⟩
    case round =>
      obtain ⟨k, hk, rfl, hb2, hn⟩ := hrel
      have HN := Lib.hid hn
      clear hn
      by_cases hlt : k < l.length
      · have hlt' : k < l'.length := by rw [← HNE.out]; exact hlt
        obtain ⟨b, o, rfl, hbs, hc⟩ := hs.base hlt
        obtain ⟨b', o', rfl, hbs', hc'⟩ := hs'.base hlt'
        obtain ⟨a, q, p, t, hx⟩ := mt_at hlt
        obtain ⟨a', q', p', t', hy⟩ := mt_at hlt'
        have hz := hb2.size
        have d0 : ∀ y : BW wr.heap.size wr, y.w.cell? ⟨b, o + k * 4, none⟩ = some (.int .i64 a) := bwCell (Nat.lt_of_lt_of_le hbs hz) (hc.mt hb2 hbs hx).1
        have d1 : ∀ y : BW wr.heap.size wr, y.w.cell? ⟨b, o + k * 4 + 1, none⟩ = some (.int .i64 q) := bwCell (Nat.lt_of_lt_of_le hbs hz) (hc.mt hb2 hbs hx).2.1
        have d2 : ∀ y : BW wr.heap.size wr, y.w.cell? ⟨b, o + k * 4 + 2, none⟩ = some (.int .i64 p) := bwCell (Nat.lt_of_lt_of_le hbs hz) (hc.mt hb2 hbs hx).2.2.1
        have d3 : ∀ y : BW wr.heap.size wr, y.w.cell? ⟨b, o + k * 4 + 3, none⟩ = some (.int .i64 t) := bwCell (Nat.lt_of_lt_of_le hbs hz) (hc.mt hb2 hbs hx).2.2.2
        have e0 : ∀ y : BW wr.heap.size wr, y.w.cell? ⟨b', o' + k * 4, none⟩ = some (.int .i64 a') := bwCell (Nat.lt_of_lt_of_le hbs' hz) (hc'.mt hb2 hbs' hy).1
        have e1 : ∀ y : BW wr.heap.size wr, y.w.cell? ⟨b', o' + k * 4 + 1, none⟩ = some (.int .i64 q') := bwCell (Nat.lt_of_lt_of_le hbs' hz) (hc'.mt hb2 hbs' hy).2.1
        have e2 : ∀ y : BW wr.heap.size wr, y.w.cell? ⟨b', o' + k * 4 + 2, none⟩ = some (.int .i64 p') := bwCell (Nat.lt_of_lt_of_le hbs' hz) (hc'.mt hb2 hbs' hy).2.2.1
        have e3 : ∀ y : BW wr.heap.size wr, y.w.cell? ⟨b', o' + k * 4 + 3, none⟩ = some (.int .i64 t') := bwCell (Nat.lt_of_lt_of_le hbs' hz) (hc'.mt hb2 hbs' hy).2.2.2
        have X := Lib.hid hx
        have Y := Lib.hid hy
        clear hs hc hx hs' hc' hy
        have C1 := Lib.hid (laws_eqMapping a q p t a' q' p' t')
        cases he : decide ((⟨a, q, p, t⟩ : Mp) = ⟨a', q', p', t'⟩)
        all_goals
          have HE := Lib.hid he
          clear he
          go_wp2_with fail
          refine wp_region_bw wr.heap.size wr (Below.refl _ _) (by kernel_rfl) (by kernel_rfl) ?_
          repeat (go_big_quiet_step (first | (go_at_call 88; exact bwCall (Nat.le_refl _) (HE.out ▸ C1.out _))))
          refine wpQuiet_nil ?_
          rintro _ ⟨⟨w3, h3⟩, rfl⟩
          go_wp2
        · go_ret
          exact ⟨by rw [decide_eq_false (list_ne X.out Y.out (of_decide_eq_false HE.out))]; rfl, bstep hb2 h3 hz⟩
        · go_roundw
          case rel => exact ⟨k + 1, by omega, by go_num, bstep hb2 h3 hz, same_step X.out (by rw [of_decide_eq_true HE.out]; exact Y.out) HN.out⟩
          case measure => simp [intOf]; omega
      · go_wp2
        go_ret
        exact ⟨by rw [decide_eq_true (list_eq_of HNE.out (fun j hj => HN.out j (by omega)))]; rfl, hb2⟩
  · have hb : ((l.length : Int) != (l'.length : Int)) = true := by rw [bne_iff_ne]; omega
    have HNE := Lib.hid hne
    clear hne
    go_enter Try.func54, Try.ntmps54
    go_wp2
    go_ret
    exact ⟨by rw [decide_eq_false (by intro h; exact HNE.out (by rw [h]))]; rfl, Below.refl _ _⟩
end Go.Proofs.Ytlgfmnognhojnaa
