/- The statements' own helpers on slices of numbers: comparisons, marks. -/
import Derived.Test.YtnkdhpbbiilekaaTb
namespace Go.Proofs.Ytnkdhpbbiilekaa
open Go.RowKit
theorem Row.inn {w w' : World} {b o i B : Nat} {l : List Int} {x : Int} (h : Row encI 1 w b o l) (hb : Below B w w') (hB : b < B) (hi : l[i]? = some x) : w'.cell? ⟨b, o + i, none⟩ = some (.int .i64 x) := by
  have := (h.below hb hB) i x hi 0 _ rfl
  simpa using this
def markI (k : Int) : Nat → List Int
  | 0 => []
  | n + 1 => k :: markI (k + 1) n
theorem markI_len (k : Int) (n : Nat) : (markI k n).length = n := by
  induction n generalizing k with
  | zero => rfl
  | succ n ih => simp [markI, ih]
theorem markI_get (k : Int) (n i : Nat) (h : i < n) : (markI k n)[i]? = some (k + i) := by
  induction n generalizing k i with
  | zero => omega
  | succ n ih =>
    cases i with
    | zero => simp [markI]
    | succ i =>
      simp only [markI, List.getElem?_cons_succ]
      rw [ih _ _ (by omega)]
      congr 1
      push_cast
      omega
theorem markI_snoc (k : Int) (j : Nat) : markI k (j + 1) = markI k j ++ [k + j] := by
  induction j generalizing k with
  | zero => simp [markI]
  | succ j ih =>
    rw [markI, ih]
    conv => rhs; rw [markI]
    simp only [List.cons_append]
    congr 3
    push_cast
    omega
theorem markI_set0 {k : Int} {j : Nat} {l : List Int} {x : Int} (h : l[j]? = some x) : (markI k j ++ l.drop j)[j]? = some x := by
  rw [List.getElem?_append_right (by rw [markI_len]; omega), markI_len, Nat.sub_self, List.getElem?_drop]
  simpa using h
theorem markI_set {k : Int} {j : Nat} {l : List Int} (h : j < l.length) : (markI k j ++ l.drop j).set j (k + j) = markI k (j + 1) ++ l.drop (j + 1) := by
  rw [List.set_append_right j _ (by rw [markI_len]; omega), markI_len, Nat.sub_self, markI_snoc, List.append_assoc]
  congr 1
  rw [List.drop_eq_getElem_cons h]
  rfl
theorem Row.store1 {W : World} {b o i : Nat} {L : List Int} {x : Int} (h : Row encI 1 W b o L) (hi : L[i]? = some x) (y : Int) : Row encI 1 (W.setCell ⟨b, o + i, none⟩ (.int .i64 y)) b o (L.set i y) := by
  have := h.store (x := x) (x' := y) (u := .int .i64 y) (j := 0) (fun _ => rfl) hi (by decide) rfl
  simpa using this
set_option maxHeartbeats 1000000 in
theorem laws_equalInts (A A' : Option Addr) (c c' : Nat) (l l' : List Int) (w : World) (hl : l.length ≤ 4000000) (hl' : l'.length ≤ 4000000) (hs : Sl encI 1 w A c l) (hs' : Sl encI 1 w A' c' l') :
    Calls Try.prog 29 #[.slice A l.length c, .slice A' l'.length c'] w (Ret w (.bool (decide (l = l')))) := by
  by_cases hne : l.length = l'.length
  · have hb : ((l.length : Int) != (l'.length : Int)) = false := by rw [bne_eq_false_iff_eq]; omega
    have HNE := Lib.hid hne
    clear hne
    go_enter Try.func29, Try.ntmps29
    go_wp2
    go_loopw [5] (fun i wr => ∃ k : Nat, k ≤ l.length ∧ i = .int .i64 k ∧ Below w.heap.size w wr ∧ ∀ j, j < k → l[j]? = l'[j]?) (fun i _ => l.length - (intOf i).toNat)
    case atStart => exact ⟨0, Nat.zero_le _, rfl, Below.refl _ _, by simp⟩
    case round =>
      obtain ⟨k, hk, rfl, hb2, hn⟩ := hrel
      have HN := Lib.hid hn
      clear hn
      by_cases hlt : k < l.length
      · have hlt' : k < l'.length := by rw [← HNE.out]; exact hlt
        obtain ⟨b, o, rfl, hbs, hc⟩ := hs.base hlt
        obtain ⟨b', o', rfl, hbs', hc'⟩ := hs'.base hlt'
        obtain ⟨x, hx⟩ : ∃ x, l[k]? = some x := ⟨_, List.getElem?_eq_getElem hlt⟩
        obtain ⟨y, hy⟩ : ∃ y, l'[k]? = some y := ⟨_, List.getElem?_eq_getElem hlt'⟩
        have d0 := hc.inn hb2 hbs hx
        have e0 := hc'.inn hb2 hbs' hy
        have X := Lib.hid hx
        have Y := Lib.hid hy
        clear hs hc hx hs' hc' hy
        by_cases he : x = y
        · subst he
          go_wp2
          go_quiet (fail)
          go_wp2
          go_roundw
          case rel => exact ⟨k + 1, by omega, by go_num, bdrewN hb2 _, same_step X.out Y.out HN.out⟩
          case measure => simp [intOf]; omega
        · have hne : (x != y) = true := by simpa using he
          have HE := Lib.hid he
          clear he
          go_wp2
          go_quiet (fail)
          go_wp2
          go_ret
          exact ⟨by rw [decide_eq_false (list_ne X.out Y.out HE.out)]; rfl, bdrewN hb2 _⟩
      · go_wp2
        go_ret
        exact ⟨by rw [decide_eq_true (list_eq_of HNE.out (fun j hj => HN.out j (by omega)))]; rfl, hb2⟩
  · have hb : ((l.length : Int) != (l'.length : Int)) = true := by rw [bne_iff_ne]; omega
    have HNE := Lib.hid hne
    clear hne
    go_enter Try.func29, Try.ntmps29
    go_wp2
    go_ret
    exact ⟨by rw [decide_eq_false (by intro h; exact HNE.out (by rw [h]))]; rfl, Below.refl _ _⟩
theorem eqIn {A A' : Option Addr} {c c' n n' : Nat} {l l' : List Int} {w : World} {r : Bool} (hr : decide (l = l') = r) (hn : n = l.length) (hn' : n' = l'.length) (hl : l.length ≤ 2000000) (hl' : l'.length ≤ 2000000) (hs : Sl encI 1 w A c l) (hs' : Sl encI 1 w A' c' l') :
    Calls Try.prog 29 #[.slice A n c, .slice A' n' c'] w (Ret w (.bool r)) := by
  subst hn
  subst hn'
  subst hr
  exact laws_equalInts A A' c c' l l' w (by omega) (by omega) hs hs'
set_option maxHeartbeats 1000000 in
theorem laws_eqIntS (A A' : Option Addr) (c c' : Nat) (l l' : List Int) (w : World) (hl : l.length ≤ 4000000) (hl' : l'.length ≤ 4000000) (hs : Sl encI 1 w A c l) (hs' : Sl encI 1 w A' c' l') :
    Calls Try.prog 32 #[.slice A l.length c, .slice A' l'.length c'] w (Ret w (.bool (decide (l = l')))) := by
  by_cases hne : l.length = l'.length
  · have hb : ((l.length : Int) != (l'.length : Int)) = false := by rw [bne_eq_false_iff_eq]; omega
    have HNE := Lib.hid hne
    clear hne
    go_enter Try.func32, Try.ntmps32
    go_wp2
    go_loopw [5] (fun i wr => ∃ k : Nat, k ≤ l.length ∧ i = .int .i64 k ∧ Below w.heap.size w wr ∧ ∀ j, j < k → l[j]? = l'[j]?) (fun i _ => l.length - (intOf i).toNat)
    case atStart => exact ⟨0, Nat.zero_le _, rfl, Below.refl _ _, by simp⟩
    case round =>
      obtain ⟨k, hk, rfl, hb2, hn⟩ := hrel
      have HN := Lib.hid hn
      clear hn
      by_cases hlt : k < l.length
      · have hlt' : k < l'.length := by rw [← HNE.out]; exact hlt
        obtain ⟨b, o, rfl, hbs, hc⟩ := hs.base hlt
        obtain ⟨b', o', rfl, hbs', hc'⟩ := hs'.base hlt'
        obtain ⟨x, hx⟩ : ∃ x, l[k]? = some x := ⟨_, List.getElem?_eq_getElem hlt⟩
        obtain ⟨y, hy⟩ : ∃ y, l'[k]? = some y := ⟨_, List.getElem?_eq_getElem hlt'⟩
        have d0 := hc.inn hb2 hbs hx
        have e0 := hc'.inn hb2 hbs' hy
        have X := Lib.hid hx
        have Y := Lib.hid hy
        clear hs hc hx hs' hc' hy
        by_cases he : x = y
        · subst he
          go_wp2
          go_quiet (fail)
          go_wp2
          go_roundw
          case rel => exact ⟨k + 1, by omega, by go_num, bdrewN hb2 _, same_step X.out Y.out HN.out⟩
          case measure => simp [intOf]; omega
        · have hne : (x != y) = true := by simpa using he
          have HE := Lib.hid he
          clear he
          go_wp2
          go_quiet (fail)
          go_wp2
          go_ret
          exact ⟨by rw [decide_eq_false (list_ne X.out Y.out HE.out)]; rfl, bdrewN hb2 _⟩
      · go_wp2
        go_ret
        exact ⟨by rw [decide_eq_true (list_eq_of HNE.out (fun j hj => HN.out j (by omega)))]; rfl, hb2⟩
  · have hb : ((l.length : Int) != (l'.length : Int)) = true := by rw [bne_iff_ne]; omega
    have HNE := Lib.hid hne
    clear hne
    go_enter Try.func32, Try.ntmps32
    go_wp2
    go_ret
    exact ⟨by rw [decide_eq_false (by intro h; exact HNE.out (by rw [h]))]; rfl, Below.refl _ _⟩
theorem eqIs {A A' : Option Addr} {c c' n n' : Nat} {l l' : List Int} {w : World} {r : Bool} (hr : decide (l = l') = r) (hn : n = l.length) (hn' : n' = l'.length) (hl : l.length ≤ 2000000) (hl' : l'.length ≤ 2000000) (hs : Sl encI 1 w A c l) (hs' : Sl encI 1 w A' c' l') :
    Calls Try.prog 32 #[.slice A n c, .slice A' n' c'] w (Ret w (.bool r)) := by
  subst hn
  subst hn'
  subst hr
  exact laws_eqIntS A A' c c' l l' w (by omega) (by omega) hs hs'
set_option maxHeartbeats 1000000 in
theorem laws_heldIntS (A : Option Addr) (c n : Nat) (k : Int) (w : World) (hn : n ≤ 4000000) (hk0 : 0 ≤ k) (hk1 : k ≤ 100000000) (hs : Sl encI 1 w A c (markI k n)) :
    Calls Try.prog 34 #[.slice A n c, .int .i64 k] w (Same w (.int .i64 (k + n))) := by
  have hlen := markI_len k n
  have HL := Lib.hid hlen
  clear hlen
  go_enter Try.func34, Try.ntmps34
  go_wp2
  go_loop [1, 5] (fun t i => ∃ j : Nat, j ≤ n ∧ i = .int .i64 j ∧ t = .int .i64 (k + j)) (fun _ i => n - (intOf i).toNat)
  case atStart => exact ⟨0, Nat.zero_le _, rfl, by simp⟩
  case round =>
    obtain ⟨j, hj, rfl, rfl⟩ := hrel
    by_cases hlt : j < n
    · obtain ⟨b, o, rfl, hbs, hc⟩ := hs.base (i := j) (by rw [HL.out]; exact hlt)
      have d0 := hc.inn (Below.refl _ _) hbs (markI_get k n j hlt)
      clear hs hc
      go_wp2
      go_round
      case rel => exact ⟨j + 1, by omega, by go_num, by congr 1; push_cast; omega⟩
      case measure => simp [intOf]; omega
    · go_wp2
      go_ret
      exact ⟨by rw [show j = n from by omega]; rfl, rfl⟩
set_option maxHeartbeats 2000000 in
theorem laws_markIntS (A : Option Addr) (c B : Nat) (k : Int) (l : List Int) (w : World) (hl : l.length ≤ 4000000) (hk0 : 0 ≤ k) (hk1 : k ≤ 100000000) (hs : Sl encI 1 w A c l) (hf : Fr B w A l.length) :
    Calls Try.prog 33 #[.slice A l.length c, .int .i64 k] w (fun e w' => e = .returned (.int .i64 (k + l.length)) ∧ Sl encI 1 w' A c (markI k l.length) ∧ w.grownBy w' (blk A)) := by
  go_enter Try.func33, Try.ntmps33
  go_wp2
  go_loopw [1, 5] (fun t i wr => ∃ j : Nat, j ≤ l.length ∧ i = .int .i64 j ∧ t = .int .i64 (k + j) ∧ w.grownBy wr (blk A) ∧ ∀ b o, A = some ⟨b, o, none⟩ → 0 < l.length → Row encI 1 wr b o (markI k j ++ l.drop j) ∧ ∀ q, wr.frozen? ⟨b, q, none⟩ = false) (fun _ i _ => l.length - (intOf i).toNat)
  case atStart =>
    refine ⟨0, Nat.zero_le _, rfl, by simp, World.grownBy.refl _ _, ?_⟩
    rintro b o rfl h0
    obtain ⟨b', o', e1, _, hr⟩ := hs.base h0
    obtain ⟨b2, o2, e2, _, _, hfz⟩ := hf h0
    injection e1 with e1; injection e1 with e1 e1'
    injection e2 with e2; injection e2 with e2 e2'
    subst e1; subst e1'; subst e2
    exact ⟨by simpa [markI] using hr, hfz⟩
  case round =>
    obtain ⟨j, hj, rfl, rfl, hg, hr⟩ := hrel
    by_cases hlt : j < l.length
    · obtain ⟨b, o, rfl, hbs, _⟩ := hs.base hlt
      obtain ⟨hrow, hfz⟩ := hr b o rfl (by omega)
      obtain ⟨x, hx⟩ : ∃ x, l[j]? = some x := ⟨_, List.getElem?_eq_getElem hlt⟩
      have hx0 := markI_set0 (k := k) hx
      have d0 := hrow.inn (Below.refl _ _) (B := b + 1) (by omega) hx0
      have f0 := hfz (o + j)
      have HR := Lib.hid hrow
      have HX := Lib.hid hx0
      have HF := Lib.hid hfz
      have HG := Lib.hid hg
      clear hrow hx0 hr hfz hx hg
      go_wp2
      go_roundw
      case rel =>
        refine ⟨j + 1, by omega, by go_num, by congr 1; push_cast; omega, ?_, ?_⟩
        · refine grown_setCell HG.out ?_ _
          exact .inl rfl
        intro b1 o1 he _
        injection he with he
        injection he with he1 he2
        subst he1
        subst he2
        refine ⟨?_, fun q => by simpa using HF.out q⟩
        rw [← markI_set (k := k) hlt]
        exact HR.out.store1 HX.out (k + j)
      case measure => simp [intOf]; omega
    · go_wp2
      go_ret
      have hjl : j = l.length := by omega
      subst hjl
      refine ⟨rfl, ⟨?_, ?_⟩, hg⟩
      · rw [markI_len]; exact hs.1
      · intro hne
        have h0 : 0 < l.length := by
          rcases Nat.eq_zero_or_pos l.length with h0 | h0
          · rw [h0] at hne; exact absurd rfl hne
          · exact h0
        obtain ⟨b, o, rfl, hbs, _⟩ := hs.base h0
        obtain ⟨hrow, _⟩ := hr b o rfl h0
        exact ⟨b, o, rfl, Nat.lt_of_lt_of_le hbs hg.size, by simpa using hrow⟩
theorem laws_markIntS0 {A : Option Addr} {c : Nat} {k : Int} (w : World) : Calls Try.prog 33 #[.slice A 0 c, .int .i64 k] w (Same w (.int .i64 k)) := by
  go_enter Try.func33, Try.ntmps33
  go_wp2
  go_loop [1, 5] (fun t i => t = .int .i64 k ∧ i = .int .i64 0) (fun _ _ => 0)
  case atStart => exact ⟨rfl, rfl⟩
  case round =>
    obtain ⟨rfl, rfl⟩ := hrel
    go_wp2
    go_ret
    exact ⟨rfl, rfl⟩
theorem markIn {A : Option Addr} {c n B : Nat} {l : List Int} {w : World} {k : Int} (hn : n = l.length) (hl : l.length ≤ 4000000) (hk0 : 0 ≤ k) (hk1 : k ≤ 100000000) (hs : Sl encI 1 w A c l) (hf : Fr B w A l.length) :
    Calls Try.prog 33 #[.slice A n c, .int .i64 k] w (fun e w' => e = .returned (.int .i64 (k + n)) ∧ Sl encI 1 w' A c (markI k n) ∧ ∃ row, w.grownBy w' row ∧ ∀ g, row = some g → B ≤ g ∧ blk A = some g) := by
  subst hn
  rcases Nat.eq_zero_or_pos l.length with h0 | h0
  · rw [h0]
    refine (laws_markIntS0 w).mono ?_
    rintro e w' ⟨rfl, rfl⟩
    exact ⟨by simp, Sl.nil, none, World.grownBy.refl _ _, by simp⟩
  · refine (laws_markIntS A c B k l w hl hk0 hk1 hs hf).mono ?_
    rintro e w' ⟨rfl, h1, h2⟩
    exact ⟨rfl, h1, _, h2, fun g hg => ⟨hf.blkB h0 g hg, hg⟩⟩
end Go.Proofs.Ytnkdhpbbiilekaa
