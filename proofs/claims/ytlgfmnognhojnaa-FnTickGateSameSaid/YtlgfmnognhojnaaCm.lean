/- The laws' own helpers on contacts: copies, comparisons, marks. -/
import Derived.Test.YtlgfmnognhojnaaCt
import Derived.Test.YtlgfmnognhojnaaOwn
namespace Go.Proofs.Ytlgfmnognhojnaa
open Go.RowKit
def zeroCt : Ct := ⟨0, 0, 0⟩
theorem Row.store3 {W : World} {b o i : Nat} {L : List Ct} {p a q : Int} (h : Row encC 3 W b o L) (hi : L[i]? = some ⟨p, a, q⟩) (p' a' q' : Int) :
    Row encC 3 (((W.setCell ⟨b, o + i * 3, none⟩ (.int .i64 p')).setCell ⟨b, o + i * 3 + 1, none⟩ (.int .i64 a')).setCell ⟨b, o + i * 3 + 1 + 1, none⟩ (.int .i64 q')) b o (L.set i ⟨p', a', q'⟩) := by
  have hil := lt_of_get hi
  have h1 := h.store (x' := ⟨p', a, q⟩) (u := .int .i64 p') (j := 0) (fun _ => rfl) hi (by decide) rfl
  have h2 := h1.store (x' := ⟨p', a', q⟩) (u := .int .i64 a') (j := 1) (fun _ => rfl) (List.getElem?_set_self hil) (by decide) rfl
  have h3 := h2.store (x' := ⟨p', a', q'⟩) (u := .int .i64 q') (j := 2) (fun _ => rfl) (List.getElem?_set_self (by simpa using hil)) (by decide) rfl
  simpa using h3
/-- n contacts that hold k, k + 1, .. -/
def markC (k : Int) : Nat → List Ct
  | 0 => []
  | n + 1 => ⟨k, k + 1, k + 2⟩ :: markC (k + 3) n
theorem markC_len (k : Int) (n : Nat) : (markC k n).length = n := by
  induction n generalizing k with
  | zero => rfl
  | succ n ih => simp [markC, ih]
theorem markC_get (k : Int) (n i : Nat) (h : i < n) : (markC k n)[i]? = some ⟨k + 3 * i, k + 3 * i + 1, k + 3 * i + 2⟩ := by
  induction n generalizing k i with
  | zero => omega
  | succ n ih =>
    cases i with
    | zero => simp [markC]
    | succ i =>
      simp only [markC, List.getElem?_cons_succ]
      rw [ih _ _ (by omega)]
      congr 2 <;> (push_cast; omega)
theorem Bl.store3 {e : TypeId} {W : World} {g m i : Nat} {L : List Ct} {p a q : Int} (h : Bl encC 3 e W g m L) (hi : L[i]? = some ⟨p, a, q⟩) (p' a' q' : Int) :
    Bl encC 3 e (((W.setCell ⟨g, i * 3, none⟩ (.int .i64 p')).setCell ⟨g, i * 3 + 1, none⟩ (.int .i64 a')).setCell ⟨g, i * 3 + 2, none⟩ (.int .i64 q')) g m (L.set i ⟨p', a', q'⟩) := by
  have hil := lt_of_get hi
  have h1 := h.store (x' := ⟨p', a, q⟩) (u := .int .i64 p') (j := 0) (fun _ => rfl) hi (by decide) rfl
  have h2 := h1.store (x' := ⟨p', a', q⟩) (u := .int .i64 a') (j := 1) (fun _ => rfl) (List.getElem?_set_self hil) (by decide) rfl
  have h3 := h2.store (x' := ⟨p', a', q'⟩) (u := .int .i64 q') (j := 2) (fun _ => rfl) (List.getElem?_set_self (by simpa using hil)) (by decide) rfl
  simpa using h3
theorem Bl.ctAt {e : TypeId} {w : World} {g m i : Nat} {p a q : Int} {L : List Ct} (h : Bl encC 3 e w g m L) (hi : L[i]? = some ⟨p, a, q⟩) :
    (w.cell? ⟨g, i * 3, none⟩ = some (.int .i64 p) ∧ w.cell? ⟨g, i * 3 + 1, none⟩ = some (.int .i64 a) ∧ w.cell? ⟨g, i * 3 + 2, none⟩ = some (.int .i64 q)) ∧ w.frozen? ⟨g, i * 3, none⟩ = false ∧ w.frozen? ⟨g, i * 3 + 1, none⟩ = false ∧ w.frozen? ⟨g, i * 3 + 2, none⟩ = false := by
  have h0 := h.row i _ hi 0 _ rfl
  have h1 := h.row i _ hi 1 _ rfl
  have h2 := h.row i _ hi 2 _ rfl
  rw [Nat.zero_add] at h0 h1 h2
  exact ⟨⟨h0, h1, h2⟩, h.frozen _, h.frozen _, h.frozen _⟩
theorem Bl.ct3 {e : TypeId} {w : World} {g m : Nat} {p a q : Int} {L : List Ct} (h : Bl encC 3 e w g m (⟨p, a, q⟩ :: L)) :
    (w.cell? ⟨g, 0, none⟩ = some (.int .i64 p) ∧ w.cell? ⟨g, 1, none⟩ = some (.int .i64 a) ∧ w.cell? ⟨g, 2, none⟩ = some (.int .i64 q)) ∧ w.frozen? ⟨g, 0, none⟩ = false ∧ w.frozen? ⟨g, 1, none⟩ = false ∧ w.frozen? ⟨g, 2, none⟩ = false :=
  ⟨⟨h.row 0 _ rfl 0 _ rfl, h.row 0 _ rfl 1 _ rfl, h.row 0 _ rfl 2 _ rfl⟩, h.frozen 0, h.frozen 1, h.frozen 2⟩
theorem elC : ElT Try.prog 26 75 encC 3 24 zeroCt where
  ht := Try.underlying26
  hi := by
    obtain ⟨i, h1, h2, h3, h4⟩ := info_parts (P := Try.prog) (e := 75) (z := .agg #[.int .i64 0, .int .i64 0, .int .i64 0]) (size := 3) (bytes := 24) (by kernel_rfl)
    exact ⟨i, _, h1, h2, rfl, h3, h4⟩
  hk := fun _ => rfl
  h1 := fun x u hu => by simp [encC] at hu; rcases hu with rfl | rfl | rfl <;> rfl
  k0 := by decide
set_option maxHeartbeats 1000000 in
theorem laws_toContact (p a q : Int) (w : World) : Calls Try.prog 87 #[.agg #[.int .i64 p, .int .i64 a, .int .i64 q]] w (Ret w (.agg #[.int .i64 p, .int .i64 a, .int .i64 q])) := by
  go_enter Try.func87, Try.ntmps87
  go_wp2_with (go_at_call 99; refine (laws_toEnd _ _ _).mono ?_; rintro e w2 ⟨rfl, hb2⟩; obtain ⟨Y, X, hz⟩ := two_new (enc := encC) (k := 3) (fun _ => rfl) w (.cells #[.int .i64 p, .int .i64 a, .int .i64 q] 104) 75 75 ⟨0, 0, 0⟩ ⟨p, 0, 0⟩ rfl rfl hb2; obtain ⟨⟨x0, x1, x2⟩, f0, f1, f2⟩ := X.ct3; obtain ⟨⟨y0, y1, y2⟩, g0, g1, g2⟩ := Y.ct3)
  refine bodyPost_ret (v := .agg #[.int .i64 p, .int .i64 a, .int .i64 q]) (by simp [results, Try.results87, go_sem, y0, y1, y2]) rfl ⟨rfl, ?_⟩
  have hb := bstep ((((Below.refl w.heap.size w).alloc (Nat.le_refl _) _).alloc (by simp) _).alloc (by simp; omega) _) hb2 (by simp; omega)
  exact ((((hb.setCell (by simp; omega) _).setCell (by simp; omega) _).setCell (by simp) _).setCell (by simp) _).setCell (by simp) _
theorem laws_szContactS (A : Option Addr) (c n : Nat) (left : Int) (w : World) (hn : n ≤ 9223372036854775807) (h0 : 0 ≤ left) (h1 : left ≤ 1048576) :
    Calls Try.prog 49 #[.slice A n c, .int .i64 left] w (Same w (.int .i64 (if left - n < 0 then -1 else left - n))) := by
  by_cases h : left - (n : Int) < 0
  · go_enter Try.func49, Try.ntmps49
    go_wp2
    go_ret
    exact ⟨rfl, rfl⟩
  · go_enter Try.func49, Try.ntmps49
    go_wp2
    go_ret
    exact ⟨rfl, rfl⟩
set_option maxHeartbeats 1000000 in
theorem laws_eqContact (p a q p' a' q' : Int) (w : World) : Calls Try.prog 89 #[.agg #[.int .i64 p, .int .i64 a, .int .i64 q], .agg #[.int .i64 p', .int .i64 a', .int .i64 q']] w (Ret w (.bool (decide ((⟨p, a, q⟩ : Ct) = ⟨p', a', q'⟩)))) := by
  have hba : Below w.heap.size w ((w.alloc (.cells #[.int .i64 p, .int .i64 a, .int .i64 q] 75)).alloc (.cells #[.int .i64 p', .int .i64 a', .int .i64 q'] 75)) := ((Below.refl _ _).alloc (Nat.le_refl _) _).alloc (by simp) _
  have HB := Lib.hid hba
  clear hba
  by_cases h1 : p = p'
  · subst h1
    cases h2 : decide (a = a' ∧ q = q')
    all_goals
      have H2 := Lib.hid h2
      clear h2
      go_enter Try.func89, Try.ntmps89
      go_wp2_with (go_at_call 100; refine (laws_eqEnd _ _ _ _ _).mono ?_; rintro e w2 ⟨rfl, hb2⟩; rw [H2.out])
      go_ret
      refine ⟨?_, bstep HB.out hb2 (by simp; omega)⟩
      have := H2.out
      simp only [decide_eq_true_eq, decide_eq_false_iff_not] at this
    · rw [decide_eq_false (by simpa [Ct.ext_iff] using this)]; rfl
    · rw [decide_eq_true (by simpa [Ct.ext_iff] using this)]; rfl
  · have g1 : (p != p') = true := by simpa using h1
    have H1 := Lib.hid h1
    clear h1
    go_enter Try.func89, Try.ntmps89
    go_wp2
    go_ret
    exact ⟨by rw [decide_eq_false (by intro h; rw [Ct.ext_iff] at h; exact H1.out h.1)]; rfl, HB.out⟩
theorem list_ne {α : Type} {l l' : List α} {k : Nat} {x y : α} (h : l[k]? = some x) (h' : l'[k]? = some y) (hne : x ≠ y) : l ≠ l' := by
  rintro rfl
  rw [h] at h'
  injection h' with h'
  exact hne h'
theorem list_eq_of {α : Type} {l l' : List α} (hl : l.length = l'.length) (h : ∀ j, j < l.length → l[j]? = l'[j]?) : l = l' := by
  refine List.ext_getElem? fun j => ?_
  by_cases hj : j < l.length
  · exact h j hj
  · rw [List.getElem?_eq_none (by omega), List.getElem?_eq_none (by omega)]
theorem same_step {α : Type} {l l' : List α} {k : Nat} {x : α} (hx : l[k]? = some x) (hy : l'[k]? = some x) (h : ∀ j, j < k → l[j]? = l'[j]?) : ∀ j, j < k + 1 → l[j]? = l'[j]? := by
  intro j hj
  by_cases e : j = k
  · subst e; rw [hx, hy]
  · exact h j (by omega)
set_option maxHeartbeats 1000000 in
theorem laws_equalContacts (A A' : Option Addr) (c c' : Nat) (l l' : List Ct) (w : World) (hl : l.length ≤ 4000000) (hl' : l'.length ≤ 4000000) (hs : Sl encC 3 w A c l) (hs' : Sl encC 3 w A' c' l') :
    Calls Try.prog 33 #[.slice A l.length c, .slice A' l'.length c'] w (Ret w (.bool (decide (l = l')))) := by
  by_cases hne : l.length = l'.length
  · have hb : ((l.length : Int) != (l'.length : Int)) = false := by rw [bne_eq_false_iff_eq]; omega
    have HNE := Lib.hid hne
    clear hne
    go_enter Try.func33, Try.ntmps33
    go_wp2
    go_loopw [5] (fun i wr => ∃ k : Nat, k ≤ l.length ∧ i = .int .i64 k ∧ Below w.heap.size w wr ∧ ∀ j, j < k → l[j]? = l'[j]?) (fun i _ => l.length - (intOf i).toNat)
    case atStart => exact ⟨0, Nat.zero_le _, rfl, Below.refl _ _, by simp⟩
    case round =>
      obtain ⟨k, hk, rfl, hb2, hn⟩ := hrel
      have HN := Lib.hid hn
      clear hn
      by_cases hlt : k < l.length
      · have hlt' : k < l'.length := by rw [← HNE.out]; exact hlt
        obtain ⟨b, o, rfl, hbs, hc⟩ := hs.base hlt
        obtain ⟨b', o', rfl, hbs', hc'⟩ := hs'.base hlt'
        obtain ⟨p, a, q, hx⟩ := ct_at hlt
        obtain ⟨p', a', q', hy⟩ := ct_at hlt'
        obtain ⟨d0, d1, d2⟩ := hc.ct hb2 hbs hx
        obtain ⟨e0, e1, e2⟩ := hc'.ct hb2 hbs' hy
        have X := Lib.hid hx
        have Y := Lib.hid hy
        clear hs hc hx hs' hc' hy
        cases he : decide ((⟨p, a, q⟩ : Ct) = ⟨p', a', q'⟩)
        all_goals
          have HE := Lib.hid he
          have E := neqCt _ _ _ _ _ _ he
          clear he
          go_wp2
          go_quiet (fail)
          go_wp2
        · go_ret
          exact ⟨by rw [decide_eq_false (list_ne X.out Y.out (of_decide_eq_false HE.out))]; rfl, bdrewN hb2 _⟩
        · go_roundw
          case rel => exact ⟨k + 1, by omega, by go_num, bdrewN hb2 _, same_step X.out (by rw [of_decide_eq_true HE.out]; exact Y.out) HN.out⟩
          case measure => simp [intOf]; omega
      · go_wp2
        go_ret
        exact ⟨by rw [decide_eq_true (list_eq_of HNE.out (fun j hj => HN.out j (by omega)))]; rfl, hb2⟩
  · have hb : ((l.length : Int) != (l'.length : Int)) = true := by rw [bne_iff_ne]; omega
    have HNE := Lib.hid hne
    clear hne
    go_enter Try.func33, Try.ntmps33
    go_wp2
    go_ret
    exact ⟨by rw [decide_eq_false (by intro h; exact HNE.out (by rw [h]))]; rfl, Below.refl _ _⟩
set_option maxHeartbeats 2000000 in
theorem laws_toContactS (A : Option Addr) (c : Nat) (l : List Ct) (w : World) (hl : l.length ≤ 2000000) (hs : Sl encC 3 w A c l) :
    Calls Try.prog 52 #[.slice A l.length c] w (fun e w' => ∃ A' c', e = .returned (.slice A' l.length c') ∧ Ow encC 3 75 w.heap.size w' A' c' l ∧ Below w.heap.size w w') := by
  go_enter Try.func52, Try.ntmps52
  go_wp2_with (at_make; refine wpList_mk elC rfl _ _ rfl w.heap.size l.length rfl rfl (by omega) (by decide) (Nat.le_refl _) ?_; intro w1 hown hgrow)
  have hbl := hown.bl
  have hb1 : Below w.heap.size w w1 := below_of_grown hgrow (by intro g h; cases h)
  clear hown hgrow
  go_loopw [4] (fun i wr => ∃ k : Nat, k ≤ l.length ∧ i = .int .i64 k ∧ Below w.heap.size w wr ∧ Bl encC 3 75 wr w.heap.size (l.length * 3) (l.take k ++ List.replicate (l.length - k) zeroCt)) (fun i _ => l.length - (intOf i).toNat)
  case atStart => exact ⟨0, Nat.zero_le _, rfl, hb1, by simpa using hbl⟩
  case round =>
    obtain ⟨k, hk, rfl, hb, hB⟩ := hrel
    clear hb1 hbl
    have HB := Lib.hid hB
    clear hB
    by_cases hlt : k < l.length
    · obtain ⟨b, o, rfl, hbs, hc⟩ := hs.base hlt
      obtain ⟨p, a, q, hx⟩ := ct_at hlt
      obtain ⟨d0, d1, d2⟩ := hc.ct hb hbs hx
      have X := Lib.hid hx
      have z : (l.take k ++ List.replicate (l.length - k) zeroCt)[k]? = some ⟨0, 0, 0⟩ := by
        rw [List.getElem?_append_right (by simp; omega), List.length_take, Nat.min_eq_left hk, Nat.sub_self, List.getElem?_replicate, if_pos (by omega)]; rfl
      have Z := Lib.hid z
      have hl1 := HB.out.lt
      clear hs hc hx z
      go_wp2_with (go_at_call 87; refine (laws_toContact _ _ _ _).mono ?_; rintro e w2 ⟨rfl, hb2⟩; obtain ⟨⟨e0, e1, e2⟩, f0, f1, f2⟩ := (HB.out.below hb2 hl1).ctAt Z.out)
      go_roundw
      case rel =>
        refine ⟨k + 1, by omega, by go_num, ?_, ?_⟩
        · refine (((bstep hb hb2 hb.size).setCell ?_ _).setCell ?_ _).setCell ?_ _ <;> exact Nat.le_refl _
        · have := (HB.out.below hb2 hl1).store3 Z.out p a q
          rw [show (l.take k ++ List.replicate (l.length - k) zeroCt).set k ⟨p, a, q⟩ = l.take (k + 1) ++ List.replicate (l.length - (k + 1)) zeroCt from by
            rw [List.set_append_right k _ (by simp; omega), List.length_take, Nat.min_eq_left hk, Nat.sub_self, take_succ X.out, List.append_assoc, show l.length - k = (l.length - (k + 1)) + 1 from by omega, List.replicate_succ]
            rfl] at this
          exact this
      case measure => simp [intOf]; omega
    · go_wp2
      go_ret
      have hkl : k = l.length := by omega
      have hB := HB.out
      rw [hkl, List.take_length, Nat.sub_self, List.replicate_zero, List.append_nil] at hB
      exact ⟨_, _, rfl, .inr ⟨_, rfl, Nat.le_refl _, Nat.le_refl _, by unfold maxLen; omega, hB⟩, hb⟩
set_option maxHeartbeats 1000000 in
theorem laws_eqContactS (A A' : Option Addr) (c c' : Nat) (l l' : List Ct) (w : World) (hl : l.length ≤ 4000000) (hl' : l'.length ≤ 4000000) (hs : Sl encC 3 w A c l) (hs' : Sl encC 3 w A' c' l') :
    Calls Try.prog 55 #[.slice A l.length c, .slice A' l'.length c'] w (Ret w (.bool (decide (l = l')))) := by
  by_cases hne : l.length = l'.length
  · have hb : ((l.length : Int) != (l'.length : Int)) = false := by rw [bne_eq_false_iff_eq]; omega
    have HNE := Lib.hid hne
    clear hne
    go_enter Try.func55, Try.ntmps55
    go_wp2
    go_loopw [5] (fun i wr => ∃ k : Nat, k ≤ l.length ∧ i = .int .i64 k ∧ Below w.heap.size w wr ∧ ∀ j, j < k → l[j]? = l'[j]?) (fun i _ => l.length - (intOf i).toNat)
    case atStart => exact ⟨0, Nat.zero_le _, rfl, Below.refl _ _, by simp⟩
    case round =>
      obtain ⟨k, hk, rfl, hb2, hn⟩ := hrel
      have HN := Lib.hid hn
      clear hn
      by_cases hlt : k < l.length
      · have hlt' : k < l'.length := by rw [← HNE.out]; exact hlt
        obtain ⟨b, o, rfl, hbs, hc⟩ := hs.base hlt
        obtain ⟨b', o', rfl, hbs', hc'⟩ := hs'.base hlt'
        obtain ⟨p, a, q, hx⟩ := ct_at hlt
        obtain ⟨p', a', q', hy⟩ := ct_at hlt'
        have hz := hb2.size
        have d0 : ∀ y : BW wr.heap.size wr, y.w.cell? ⟨b, o + k * 3, none⟩ = some (.int .i64 p) := bwCell (Nat.lt_of_lt_of_le hbs hz) (hc.ct hb2 hbs hx).1
        have d1 : ∀ y : BW wr.heap.size wr, y.w.cell? ⟨b, o + k * 3 + 1, none⟩ = some (.int .i64 a) := bwCell (Nat.lt_of_lt_of_le hbs hz) (hc.ct hb2 hbs hx).2.1
        have d2 : ∀ y : BW wr.heap.size wr, y.w.cell? ⟨b, o + k * 3 + 2, none⟩ = some (.int .i64 q) := bwCell (Nat.lt_of_lt_of_le hbs hz) (hc.ct hb2 hbs hx).2.2
        have e0 : ∀ y : BW wr.heap.size wr, y.w.cell? ⟨b', o' + k * 3, none⟩ = some (.int .i64 p') := bwCell (Nat.lt_of_lt_of_le hbs' hz) (hc'.ct hb2 hbs' hy).1
        have e1 : ∀ y : BW wr.heap.size wr, y.w.cell? ⟨b', o' + k * 3 + 1, none⟩ = some (.int .i64 a') := bwCell (Nat.lt_of_lt_of_le hbs' hz) (hc'.ct hb2 hbs' hy).2.1
        have e2 : ∀ y : BW wr.heap.size wr, y.w.cell? ⟨b', o' + k * 3 + 2, none⟩ = some (.int .i64 q') := bwCell (Nat.lt_of_lt_of_le hbs' hz) (hc'.ct hb2 hbs' hy).2.2
        have X := Lib.hid hx
        have Y := Lib.hid hy
        clear hs hc hx hs' hc' hy
        have C1 := Lib.hid (laws_eqContact p a q p' a' q')
        cases he : decide ((⟨p, a, q⟩ : Ct) = ⟨p', a', q'⟩)
        all_goals
          have HE := Lib.hid he
          clear he
          go_wp2_with fail
          refine wp_region_bw wr.heap.size wr (Below.refl _ _) (by kernel_rfl) (by kernel_rfl) ?_
          repeat (go_big_quiet_step (first | (go_at_call 89; exact bwCall (Nat.le_refl _) (HE.out ▸ C1.out _))))
          refine wpQuiet_nil ?_
          rintro _ ⟨⟨w3, h3⟩, rfl⟩
          go_wp2
        · go_ret
          exact ⟨by rw [decide_eq_false (list_ne X.out Y.out (of_decide_eq_false HE.out))]; rfl, bstep hb2 h3 hz⟩
        · go_roundw
          case rel => exact ⟨k + 1, by omega, by go_num, bstep hb2 h3 hz, same_step X.out (by rw [of_decide_eq_true HE.out]; exact Y.out) HN.out⟩
          case measure => simp [intOf]; omega
      · go_wp2
        go_ret
        exact ⟨by rw [decide_eq_true (list_eq_of HNE.out (fun j hj => HN.out j (by omega)))]; rfl, hb2⟩
  · have hb : ((l.length : Int) != (l'.length : Int)) = true := by rw [bne_iff_ne]; omega
    have HNE := Lib.hid hne
    clear hne
    go_enter Try.func55, Try.ntmps55
    go_wp2
    go_ret
    exact ⟨by rw [decide_eq_false (by intro h; exact HNE.out (by rw [h]))]; rfl, Below.refl _ _⟩
end Go.Proofs.Ytlgfmnognhojnaa
