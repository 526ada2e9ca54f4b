/- Timers in plain terms: what expires, what is left, when the next one expires; and the laws of these. -/
import Derived.Test.YtnkdhpbbiilekaaMz
import Derived.Test.YtnkdhpbbiilekaaMk
namespace Go.Proofs.Ytnkdhpbbiilekaa
open Go.RowKit
def exq (now hold : Int) (x : Mp) : Bool := decide (hold ≤ now - x.l)
def tim (l : List Mp) (now hold : Int) : Bool := vM l && (inR now 0 10000 && inR hold 1 500)
def expV (l : List Mp) (now hold : Int) : List Mp := if tim l now hold then keep (exq now hold) l else []
def goneOf (now hold : Int) (l : List Mp) : List Int := (l.filter (exq now hold)).map fun x => x.p
def goneV (l : List Mp) (now hold : Int) : List Int := if tim l now hold then goneOf now hold l else []
def mn (s : Int) (l : List Mp) : Int := l.foldl (fun a x => min a x.l) s
def nextOf (l : List Mp) (hold : Int) : Int := match l with
  | [] => -1
  | x :: r => mn x.l r + hold
def nextV (l : List Mp) (hold : Int) : Int := if vM l && inR hold 1 500 then nextOf l hold else -1

theorem inR_iff {n a b : Int} : inR n a b = true ↔ a ≤ n ∧ n ≤ b := by unfold inR; exact decide_eq_true_iff
theorem tim_iff {l : List Mp} {now hold : Int} : tim l now hold = true ↔ vM l = true ∧ (0 ≤ now ∧ now ≤ 10000) ∧ 1 ≤ hold ∧ hold ≤ 500 := by
  unfold tim
  simp only [Bool.and_eq_true, inR_iff]
theorem mn_snoc (s : Int) (l : List Mp) (x : Mp) : mn s (l ++ [x]) = min (mn s l) x.l := by
  unfold mn
  rw [List.foldl_append]
  rfl
theorem mn_cons (s : Int) (l : List Mp) (x : Mp) : mn s (x :: l) = mn (min s x.l) l := rfl
theorem mn_le (s : Int) (l : List Mp) : mn s l ≤ s ∧ (∀ x ∈ l, mn s l ≤ x.l) ∧ (mn s l = s ∨ ∃ x ∈ l, mn s l = x.l) := by
  induction l generalizing s with
  | nil => exact ⟨Int.le_refl _, by simp, .inl rfl⟩
  | cons y l ih =>
    obtain ⟨h1, h2, h3⟩ := ih (min s y.l)
    rw [mn_cons]
    refine ⟨by omega, ?_, ?_⟩
    · intro x hx
      rcases List.mem_cons.1 hx with rfl | hx
      · omega
      · exact h2 x hx
    · rcases h3 with h3 | ⟨x, hx, h3⟩
      · rcases Int.le_total s y.l with h | h
        · exact .inl (by omega)
        · exact .inr ⟨y, by simp, by omega⟩
      · exact .inr ⟨x, by simp [hx], h3⟩
theorem next_least (x : Mp) (r : List Mp) : (∀ y ∈ x :: r, mn x.l r ≤ y.l) ∧ ∃ y ∈ x :: r, mn x.l r = y.l := by
  obtain ⟨h1, h2, h3⟩ := mn_le x.l r
  refine ⟨?_, ?_⟩
  · intro y hy
    rcases List.mem_cons.1 hy with rfl | hy
    · exact h1
    · exact h2 y hy
  · rcases h3 with h3 | ⟨y, hy, h3⟩
    · exact ⟨x, by simp, h3⟩
    · exact ⟨y, by simp [hy], h3⟩
theorem last_in {l : List Mp} (h : vM l = true) {x : Mp} (hx : x ∈ l) : 0 ≤ x.l ∧ x.l ≤ 10000 := inR_iff.1 (okM_time (((vM_iff l).1 h).2.2.2 x hx))
theorem next_bounds {l : List Mp} (h : vM l = true) {x : Mp} {r : List Mp} (hl : l = x :: r) : 0 ≤ mn x.l r ∧ mn x.l r ≤ 10000 := by
  obtain ⟨_, y, hy, he⟩ := next_least x r
  rw [he]
  exact last_in h (by rw [hl]; exact hy)
theorem nextV_cases (l : List Mp) (hold : Int) : nextV l hold = -1 ∨ (vM l = true ∧ (1 ≤ hold ∧ hold ≤ 500) ∧ ∃ x r, l = x :: r ∧ nextV l hold = mn x.l r + hold) := by
  unfold nextV
  split
  · next h =>
    simp only [Bool.and_eq_true, inR_iff] at h
    match l, h with
    | [], _ => exact .inl rfl
    | x :: r, h => exact .inr ⟨h.1, h.2, x, r, rfl, rfl⟩
  · exact .inl rfl
theorem nextV_fit (l : List Mp) (hold : Int) : -1 ≤ nextV l hold ∧ nextV l hold ≤ 10500 := by
  rcases nextV_cases l hold with h | ⟨hv, hh, x, r, hl, h⟩
  · omega
  · have := next_bounds hv hl; omega
theorem next_none {l : List Mp} {hold : Int} (hv : vM l = true) (h1 : 1 ≤ hold) (h2 : hold < 500) : (nextV l hold == -1) = ((l.length : Int) == 0) ∧ (nextV l hold ≠ -1 → nextV l (hold + 1) = nextV l hold + 1) := by
  have e1 : inR hold 1 500 = true := inR_iff.2 (by omega)
  have e2 : inR (hold + 1) 1 500 = true := inR_iff.2 (by omega)
  unfold nextV
  rw [hv, e1, e2]
  match l, hv with
  | [], _ => exact ⟨rfl, fun h => absurd rfl h⟩
  | x :: r, hv =>
    have := next_bounds hv rfl
    refine ⟨?_, fun _ => by show mn x.l r + (hold + 1) = mn x.l r + hold + 1; omega⟩
    have e : (nextOf (x :: r) hold == -1) = false := by rw [beq_eq_false_iff_ne]; show mn x.l r + hold ≠ -1; omega
    have e' : (((x :: r).length : Int) == 0) = false := by rw [beq_eq_false_iff_ne]; simp; omega
    rw [show (if (true && true) = true then nextOf (x :: r) hold else -1) = nextOf (x :: r) hold from rfl, e, e']
theorem keep_all {f : Mp → Bool} {l : List Mp} (h : ∀ x ∈ l, f x = false) : keep f l = l := by
  unfold keep
  rw [List.filter_eq_self]
  intro x hx
  rw [h x hx]
  rfl
theorem keep_less {f : Mp → Bool} {l : List Mp} {x : Mp} (hx : x ∈ l) (h : f x = true) : (keep f l).length < l.length := by
  have h1 : (keep f l).length ≤ l.length := List.length_filter_le _ _
  rcases Nat.lt_or_ge (keep f l).length l.length with h2 | h2
  · exact h2
  · have h3 : (l.filter fun x => !f x).length = l.length := by unfold keep at h1 h2; omega
    have := List.length_filter_eq_length_iff.1 h3 x hx
    rw [h] at this
    cases this
theorem next_at {l : List Mp} {hold : Int} (h1 : 1 ≤ nextV l hold) (h2 : nextV l hold ≤ 10000) : expV l (nextV l hold - 1) hold = l ∧ (expV l (nextV l hold) hold).length < l.length := by
  rcases nextV_cases l hold with h | ⟨hv, hh, x, r, hl, h⟩
  · omega
  obtain ⟨g1, y, hy, g2⟩ := next_least x r
  rw [← hl] at g1 hy
  constructor
  · unfold expV
    rw [if_pos (tim_iff.2 ⟨hv, by omega, hh⟩)]
    refine keep_all fun z hz => decide_eq_false ?_
    have := g1 z hz
    omega
  · unfold expV
    rw [if_pos (tim_iff.2 ⟨hv, by omega, hh⟩)]
    exact keep_less hy (decide_eq_true (by omega))

/-! ### what is left -/
theorem exp_eq {l : List Mp} {now hold : Int} (h : tim l now hold = true) : expV l now hold = keep (exq now hold) l := by unfold expV; rw [if_pos h]
theorem exp_vM {l : List Mp} {now hold : Int} (h : tim l now hold = true) : vM (expV l now hold) = true := by
  unfold expV
  rw [if_pos h]
  exact vM_sub (tim_iff.1 h).1 List.filter_sublist
theorem exp_some {l : List Mp} {now hold : Int} (h : expV l now hold ≠ []) : tim l now hold = true := by
  cases ht : tim l now hold
  · unfold expV at h; rw [ht] at h; exact absurd rfl h
  · rfl
theorem exp_len (l : List Mp) (now hold : Int) : (expV l now hold).length ≤ l.length := by
  unfold expV
  split
  · exact List.length_filter_le _ _
  · simp
theorem keep_keep {f g : Mp → Bool} (h : ∀ x, g x = true → f x = true) (l : List Mp) : keep f (keep g l) = keep f l := by
  unfold keep
  rw [List.filter_filter]
  refine List.filter_congr fun x _ => ?_
  cases hg : g x
  · simp
  · rw [h x hg]; rfl
theorem keep_mono_len {f g : Mp → Bool} (h : ∀ x, f x = true → g x = true) (l : List Mp) : (keep g l).length ≤ (keep f l).length := by
  have e := keep_keep (f := g) (g := f) h l
  rw [← e]
  exact List.length_filter_le _ _
theorem exp_twice {l : List Mp} {now hold : Int} (h : expV l now hold ≠ []) : expV (expV l now hold) now hold = expV l now hold := by
  have ht := exp_some h
  have hv := exp_vM ht
  have ht' := tim_iff.1 ht
  have h2 : tim (expV l now hold) now hold = true := tim_iff.2 ⟨hv, ht'.2⟩
  rw [exp_eq h2, exp_eq ht]
  exact keep_keep (fun _ h => h) l
theorem exp_longer {l : List Mp} {now hold : Int} (h : expV l now hold ≠ []) (hh : hold ≠ 500) : (expV l now hold).length ≤ (expV l now (hold + 1)).length := by
  have ht := exp_some h
  have ht' := tim_iff.1 ht
  have h2 : tim l now (hold + 1) = true := tim_iff.2 ⟨ht'.1, ht'.2.1, by omega⟩
  unfold expV
  rw [if_pos ht, if_pos h2]
  refine keep_mono_len (fun x hx => ?_) l
  have := of_decide_eq_true hx
  exact decide_eq_true (by omega)
theorem exp_later {l : List Mp} {now hold : Int} (h : expV l now hold ≠ []) (hh : now + 7 ≤ 10000) : expV (expV l now hold) (now + 7) hold = expV l (now + 7) hold := by
  have ht := exp_some h
  have hv := exp_vM ht
  have ht' := tim_iff.1 ht
  have h2 : tim (expV l now hold) (now + 7) hold = true := tim_iff.2 ⟨hv, by omega, ht'.2.2⟩
  have h3 : tim l (now + 7) hold = true := tim_iff.2 ⟨ht'.1, by omega, ht'.2.2⟩
  rw [exp_eq h2, exp_eq h3, exp_eq ht]
  refine keep_keep (fun x hx => ?_) l
  have := of_decide_eq_true hx
  exact decide_eq_true (by omega)

/-! ### what is gone -/
theorem goneOf_snoc {now hold : Int} {l : List Mp} {k : Nat} {x : Mp} (h : l[k]? = some x) : goneOf now hold (l.take (k + 1)) = goneOf now hold (l.take k) ++ (if exq now hold x then [x.p] else []) := by
  rw [take_succ h]
  unfold goneOf
  rw [List.filter_append, List.map_append]
  cases hf : exq now hold x <;> simp [hf]
theorem goneOf_len (now hold : Int) (l : List Mp) : (goneOf now hold l).length ≤ l.length := by
  unfold goneOf
  rw [List.length_map]
  exact List.length_filter_le _ _
theorem goneV_len (l : List Mp) (now hold : Int) : (goneV l now hold).length ≤ l.length := by
  unfold goneV
  split
  · exact goneOf_len _ _ _
  · simp
theorem filter_both {f : Mp → Bool} (l : List Mp) : (l.filter f).length + (keep f l).length = l.length := by
  induction l with
  | nil => rfl
  | cons x l ih =>
    unfold keep at *
    rw [List.filter_cons, List.filter_cons]
    cases f x <;> simp <;> omega
theorem gone_len {l : List Mp} {now hold : Int} (h : (expV l now hold).length ≠ 0) : (goneV l now hold).length + (expV l now hold).length = l.length := by
  have ht := exp_some (l := l) (now := now) (hold := hold) (by intro e; rw [e] at h; exact h rfl)
  unfold goneV expV goneOf
  rw [if_pos ht, if_pos ht, List.length_map]
  exact filter_both l
theorem gone_free {l : List Mp} {now hold p : Int} (h : p ∈ goneV l now hold) : insO (expV l now hold) p = false ∧ insO l p = true := by
  have ht : tim l now hold = true := by
    cases ht : tim l now hold
    · unfold goneV at h; rw [ht] at h; simp at h
    · rfl
  have ht' := tim_iff.1 ht
  unfold goneV goneOf at h
  rw [if_pos ht] at h
  obtain ⟨x, hx, rfl⟩ := List.mem_map.1 h
  obtain ⟨hx, he⟩ := List.mem_filter.1 hx
  refine ⟨?_, ?_⟩
  · rw [insO_used (exp_vM ht)]
    unfold used
    rw [List.any_eq_false]
    intro y hy hp
    unfold expV keep at hy
    rw [if_pos ht] at hy
    obtain ⟨hy, hn⟩ := List.mem_filter.1 hy
    have hxy : y = x := nodup_inj ((vM_iff l).1 ht'.1).2.2.1 hy hx (by simpa [sameP] using hp)
    subst hxy
    rw [he] at hn
    cases hn
  · exact (ins_mem' ht'.1 hx).1

/-! ### touching -/
theorem touch_len {l : List Mp} {p now : Int} (h : touchO l p now = true) : (touchV l p now).length = l.length := by
  obtain ⟨_, _, k, x, _, _, _, e⟩ := touch_cases h
  rw [e, List.length_set]
theorem touch_vM {l : List Mp} {p now : Int} (h : touchO l p now = true) : vM (touchV l p now) = true := by
  obtain ⟨hv, ht, k, x, hx, _, _, e⟩ := touch_cases h
  rw [e]
  exact vM_last hv hx (max_in (okM_time (((vM_iff l).1 hv).2.2.2 x (List.mem_of_getElem? hx))) ht)
theorem touch_at {l : List Mp} {p now : Int} (h : touchO l p now = true) {i : Nat} {y : Mp} (hy : l[i]? = some y) : (touchV l p now)[i]? = some ⟨y.a, y.q, y.p, if y.p = p then max y.l now else y.l⟩ := by
  obtain ⟨hv, ht, k, x, hx, hp, _, e⟩ := touch_cases h
  rw [e]
  by_cases hk : k = i
  · subst hk
    rw [hx] at hy
    injection hy with hy
    subst hy
    rw [List.getElem?_set_self (lt_of_get hx), if_pos hp]
  · rw [List.getElem?_set_ne hk, hy]
    have hne : y.p ≠ p := by
      intro hyp
      have hxy : x = y := nodup_inj ((vM_iff l).1 hv).2.2.1 (List.mem_of_getElem? hx) (List.mem_of_getElem? hy) (by rw [hp, hyp])
      subst hxy
      rcases Nat.lt_trichotomy k i with g | g | g
      · exact nodup_ne ((vM_iff l).1 hv).2.2.1 (i := k) (j := i) (x := x.p) (y := x.p) (by rw [List.getElem?_map, hx]; rfl) (by rw [List.getElem?_map, hy]; rfl) g rfl
      · exact hk g
      · exact nodup_ne ((vM_iff l).1 hv).2.2.1 (i := i) (j := k) (x := x.p) (y := x.p) (by rw [List.getElem?_map, hy]; rfl) (by rw [List.getElem?_map, hx]; rfl) g rfl
    rw [if_neg hne]
theorem touch_again {l : List Mp} {p now t : Int} (h : touchO l p now = true) (ht : 0 ≤ t) (ht2 : t ≤ now) : touchO (touchV l p now) p t = true ∧ touchV (touchV l p now) p t = touchV l p now := by
  obtain ⟨hv, hn, k, x, hx, hp, hq, e⟩ := touch_cases h
  have h2 := touch_vM h
  have hn' := inR_iff.1 hn
  have hg := touch_at h hx
  have hm := List.mem_of_getElem? hg
  have ho : touchO (touchV l p now) p t = true := by
    unfold touchO used
    rw [h2, inR_iff.2 (show 0 ≤ t ∧ t ≤ 10000 by omega), List.any_eq_true.2 ⟨_, hm, by simp [sameP, hp]⟩]
    rfl
  refine ⟨ho, ?_⟩
  obtain ⟨_, _, j, y, hy, hyp, _, e2⟩ := touch_cases ho
  rw [e2]
  have hxy : y = ⟨x.a, x.q, x.p, if x.p = p then max x.l now else x.l⟩ := nodup_inj ((vM_iff _).1 h2).2.2.1 (List.mem_of_getElem? hy) hm (by rw [hyp]; exact hp.symm)
  refine set_same hy _ ?_
  rw [hxy]
  simp only [if_pos hp]
  omega
theorem next_touch {l : List Mp} {p now : Int} (h : touchO l p now = true) : nextV l 50 ≤ nextV (touchV l p now) 50 := by
  have h2 := touch_vM h
  have hl := touch_len h
  obtain ⟨hv, hn, k, x0, hx0, hp, hq, e⟩ := touch_cases h
  match l, hl, hx0, h, hv with
  | x :: r, hl, hx0, h, hv =>
    obtain ⟨z, s, hz⟩ : ∃ z s, touchV (x :: r) p now = z :: s := List.exists_cons_of_length_eq_add_one (by rw [hl]; rfl)
    have e1 : nextV (x :: r) 50 = mn x.l r + 50 := by unfold nextV; rw [hv]; rfl
    have e2 : nextV (touchV (x :: r) p now) 50 = mn z.l s + 50 := by unfold nextV; rw [h2, hz]; rfl
    rw [e1, e2]
    obtain ⟨g1, _⟩ := next_least x r
    obtain ⟨_, y, hy, g2⟩ := next_least z s
    rw [g2]
    rw [← hz] at hy
    obtain ⟨i, hi⟩ := List.getElem?_of_mem hy
    have hil := lt_of_get hi
    rw [hl] at hil
    have hu := touch_at h (List.getElem?_eq_getElem hil)
    rw [hi] at hu
    injection hu with hu
    have := g1 _ (List.getElem_mem hil)
    rw [hu]
    show mn x.l r + 50 ≤ (if ((x :: r)[i]).p = p then max ((x :: r)[i]).l now else ((x :: r)[i]).l) + 50
    split <;> omega
theorem gone_touch {l : List Mp} {now hold p : Int} {R : List Int} (h : goneV l now hold = p :: R) : touchO l p now = true ∧ goneV (touchV l p now) now hold = R := by
  have ht : tim l now hold = true := by
    cases ht : tim l now hold
    · unfold goneV at h; rw [ht] at h; simp at h
    · rfl
  have ht' := tim_iff.1 ht
  have hp : p ∈ goneV l now hold := by rw [h]; simp
  have ho : touchO l p now = true := by
    unfold touchO
    rw [ht'.1, inR_iff.2 ht'.2.1, ← insO_used ht'.1, (gone_free hp).2]
    rfl
  refine ⟨ho, ?_⟩
  have h2 := touch_vM ho
  have ht2 : tim (touchV l p now) now hold = true := tim_iff.2 ⟨h2, ht'.2⟩
  obtain ⟨hv, hn, k, x, hx, hxp, hq, e⟩ := touch_cases ho
  unfold goneV goneOf at h ⊢
  rw [if_pos ht] at h
  rw [if_pos ht2, e]
  -- the first that is expired is the one with port p
  have hl : l = l.take k ++ x :: l.drop (k + 1) := by
    conv => lhs; rw [← List.take_append_drop k l, drop_cons hx]
  have hset : l.set k ⟨x.a, x.q, x.p, max x.l now⟩ = l.take k ++ ⟨x.a, x.q, x.p, max x.l now⟩ :: l.drop (k + 1) := by
    have hk := lt_of_get hx
    conv => lhs; rw [hl]
    rw [List.set_append_right k _ (by rw [List.length_take]; omega), List.length_take, Nat.min_eq_left (Nat.le_of_lt hk), Nat.sub_self]
    rfl
  have hne : exq now hold ⟨x.a, x.q, x.p, max x.l now⟩ = false := decide_eq_false (by show ¬ hold ≤ now - max x.l now; omega)
  have hno : ∀ y ∈ l, sameP p y = true → y = x := fun y hy hs => nodup_inj ((vM_iff l).1 hv).2.2.1 hy (List.mem_of_getElem? hx) (by rw [hxp]; simpa [sameP] using hs)
  rw [hset, List.filter_append, List.filter_cons, hne]
  rw [hl, List.filter_append, List.filter_cons] at h
  cases hf : (l.take k).filter (exq now hold) with
  | cons y s =>
    rw [hf] at h
    simp only [List.cons_append, List.map_cons, List.cons.injEq] at h
    have hy : y ∈ (l.take k).filter (exq now hold) := by rw [hf]; simp
    have hy' := (List.mem_filter.1 hy).1
    have := hq y hy'
    simp [sameP, h.1] at this
  | nil =>
    rw [hf] at h
    simp only [List.nil_append] at h ⊢
    cases hxe : exq now hold x
    · rw [hxe] at h
      simp only [Bool.false_eq_true, if_false] at h
      have hp2 : p ∈ ((l.drop (k + 1)).filter (exq now hold)).map fun x => x.p := by rw [h]; simp
      obtain ⟨y, hy, hyp⟩ := List.mem_map.1 hp2
      obtain ⟨hy, hye⟩ := List.mem_filter.1 hy
      have := hno y (List.mem_of_mem_drop hy) (by simp [sameP, hyp])
      subst this
      rw [hxe] at hye
      cases hye
    · rw [hxe] at h
      simp only [if_true, List.map_cons, List.cons.injEq] at h
      simpa using h.2
end Go.Proofs.Ytnkdhpbbiilekaa

/- DeleteFunc on mappings, walked. -/
namespace Go.Proofs.Ytnkdhpbbiilekaa
open Go.RowKit
theorem mid_atM {F X : List Mp} {m : Nat} (h1 : m = F.length) (h2 : 0 < X.length) (R : List Mp) : ∃ a q p t, (F ++ X ++ R)[m]? = some ⟨a, q, p, t⟩ := mt_at (by rw [List.length_append, List.length_append]; omega)
theorem mid_setM {F X l : List Mp} {n m : Nat} {x : Mp} (h1 : m = F.length) (hX : X ≠ []) (h : l[n]? = some x) : (F ++ X ++ l.drop n).set m x = F ++ [x] ++ (X.tail ++ [x]) ++ l.drop (n + 1) := by
  obtain ⟨y, X', rfl⟩ := List.exists_cons_of_ne_nil hX
  rw [List.append_assoc, List.set_append_right m _ (by omega), h1, Nat.sub_self, drop_cons h]
  simp
theorem one_belowM {w w' : World} {a q p t : Int} {ty : TypeId} (hb : Below (w.alloc (.cells #[.int .i64 a, .int .i64 q, .int .i64 p, .int .i64 t] ty)).heap.size (w.alloc (.cells #[.int .i64 a, .int .i64 q, .int .i64 p, .int .i64 t] ty)) w') :
    (w'.cell? ⟨w.heap.size, 0, none⟩ = some (.int .i64 a) ∧ w'.cell? ⟨w.heap.size, 1, none⟩ = some (.int .i64 q) ∧ w'.cell? ⟨w.heap.size, 2, none⟩ = some (.int .i64 p) ∧ w'.cell? ⟨w.heap.size, 3, none⟩ = some (.int .i64 t)) ∧ w.heap.size < w'.heap.size := by
  have hz := hb.size
  rw [alloc_size] at hz
  exact ⟨⟨bcell hb (by rw [alloc_size]; exact Nat.lt_succ_self _) (cell_of_row _ _ _ _ _ _ (heap_alloc_new w _)), bcell hb (by rw [alloc_size]; exact Nat.lt_succ_self _) (cell_of_row _ _ _ _ _ _ (heap_alloc_new w _)), bcell hb (by rw [alloc_size]; exact Nat.lt_succ_self _) (cell_of_row _ _ _ _ _ _ (heap_alloc_new w _)), bcell hb (by rw [alloc_size]; exact Nat.lt_succ_self _) (cell_of_row _ _ _ _ _ _ (heap_alloc_new w _))⟩, hz⟩
end Go.Proofs.Ytnkdhpbbiilekaa

/- Timers: what is asked of the arguments, what is expired; ExpireTable, walked. -/
namespace Go.Proofs.Ytnkdhpbbiilekaa
open Go.RowKit
end Go.Proofs.Ytnkdhpbbiilekaa

/- ExpiredPorts, NextExpiry, TouchPort: the program's and the reference's, walked. -/
namespace Go.Proofs.Ytnkdhpbbiilekaa
open Go.RowKit
theorem elI : ElT Try.prog 25 3 encI 1 8 0 where
  ht := Try.underlying25
  hi := by
    obtain ⟨i, h1, h2, h3, h4⟩ := info_parts (P := Try.prog) (e := 3) (z := .int .i64 0) (size := 1) (bytes := 8) (by kernel_rfl)
    exact ⟨i, _, h1, h2, rfl, h3, h4⟩
  hk := fun _ => rfl
  h1 := fun x u hu => by simp [encI] at hu; subst hu; rfl
  k0 := by decide
theorem blI (w : World) (x : Int) : Bl encI 1 3 (w.alloc (.cells #[.int .i64 x] 3)) w.heap.size 1 [x] := Bl.one (enc := encI) (k := 1) (fun _ => rfl) w _ rfl
theorem Clip_in (A : Option Addr) (c n : Nat) (w : World) (hn : n ≤ c) (hc : c ≤ maxLen) :
    Calls Try.prog 48 #[.slice A n c] w (Same w (.slice A n n)) := by
  unfold maxLen at hc
  go_enter Try.func48, Try.ntmps48
  go_wp2
  go_ret
  exact ⟨rfl, rfl⟩
end Go.Proofs.Ytnkdhpbbiilekaa

/- The statements' own helpers on slices of numbers: comparisons, marks. -/
namespace Go.Proofs.Ytnkdhpbbiilekaa
open Go.RowKit
theorem Row.inn {w w' : World} {b o i B : Nat} {l : List Int} {x : Int} (h : Row encI 1 w b o l) (hb : Below B w w') (hB : b < B) (hi : l[i]? = some x) : w'.cell? ⟨b, o + i, none⟩ = some (.int .i64 x) := by
  have := (h.below hb hB) i x hi 0 _ rfl
  simpa using this
def markI (k : Int) : Nat → List Int
  | 0 => []
  | n + 1 => k :: markI (k + 1) n
theorem markI_len (k : Int) (n : Nat) : (markI k n).length = n := by
  induction n generalizing k with
  | zero => rfl
  | succ n ih => simp [markI, ih]
theorem markI_get (k : Int) (n i : Nat) (h : i < n) : (markI k n)[i]? = some (k + i) := by
  induction n generalizing k i with
  | zero => omega
  | succ n ih =>
    cases i with
    | zero => simp [markI]
    | succ i =>
      simp only [markI, List.getElem?_cons_succ]
      rw [ih _ _ (by omega)]
      congr 1
      push_cast
      omega
theorem markI_snoc (k : Int) (j : Nat) : markI k (j + 1) = markI k j ++ [k + j] := by
  induction j generalizing k with
  | zero => simp [markI]
  | succ j ih =>
    rw [markI, ih]
    conv => rhs; rw [markI]
    simp only [List.cons_append]
    congr 3
    push_cast
    omega
theorem markI_set0 {k : Int} {j : Nat} {l : List Int} {x : Int} (h : l[j]? = some x) : (markI k j ++ l.drop j)[j]? = some x := by
  rw [List.getElem?_append_right (by rw [markI_len]; omega), markI_len, Nat.sub_self, List.getElem?_drop]
  simpa using h
theorem markI_set {k : Int} {j : Nat} {l : List Int} (h : j < l.length) : (markI k j ++ l.drop j).set j (k + j) = markI k (j + 1) ++ l.drop (j + 1) := by
  rw [List.set_append_right j _ (by rw [markI_len]; omega), markI_len, Nat.sub_self, markI_snoc, List.append_assoc]
  congr 1
  rw [List.drop_eq_getElem_cons h]
  rfl
theorem Row.store1 {W : World} {b o i : Nat} {L : List Int} {x : Int} (h : Row encI 1 W b o L) (hi : L[i]? = some x) (y : Int) : Row encI 1 (W.setCell ⟨b, o + i, none⟩ (.int .i64 y)) b o (L.set i y) := by
  have := h.store (x := x) (x' := y) (u := .int .i64 y) (j := 0) (fun _ => rfl) hi (by decide) rfl
  simpa using this
set_option maxHeartbeats 1000000 in
theorem laws_equalInts (A A' : Option Addr) (c c' : Nat) (l l' : List Int) (w : World) (hl : l.length ≤ 4000000) (hl' : l'.length ≤ 4000000) (hs : Sl encI 1 w A c l) (hs' : Sl encI 1 w A' c' l') :
    Calls Try.prog 29 #[.slice A l.length c, .slice A' l'.length c'] w (Ret w (.bool (decide (l = l')))) := by
  by_cases hne : l.length = l'.length
  · have hb : ((l.length : Int) != (l'.length : Int)) = false := by rw [bne_eq_false_iff_eq]; omega
    have HNE := Lib.hid hne
    clear hne
    go_enter Try.func29, Try.ntmps29
    go_wp2
    go_loopw [5] (fun i wr => ∃ k : Nat, k ≤ l.length ∧ i = .int .i64 k ∧ Below w.heap.size w wr ∧ ∀ j, j < k → l[j]? = l'[j]?) (fun i _ => l.length - (intOf i).toNat)
    case atStart => exact ⟨0, Nat.zero_le _, rfl, Below.refl _ _, by simp⟩
    case round =>
      obtain ⟨k, hk, rfl, hb2, hn⟩ := hrel
      have HN := Lib.hid hn
      clear hn
      by_cases hlt : k < l.length
      · have hlt' : k < l'.length := by rw [← HNE.out]; exact hlt
        obtain ⟨b, o, rfl, hbs, hc⟩ := hs.base hlt
        obtain ⟨b', o', rfl, hbs', hc'⟩ := hs'.base hlt'
        obtain ⟨x, hx⟩ : ∃ x, l[k]? = some x := ⟨_, List.getElem?_eq_getElem hlt⟩
        obtain ⟨y, hy⟩ : ∃ y, l'[k]? = some y := ⟨_, List.getElem?_eq_getElem hlt'⟩
        have d0 := hc.inn hb2 hbs hx
        have e0 := hc'.inn hb2 hbs' hy
        have X := Lib.hid hx
        have Y := Lib.hid hy
        clear hs hc hx hs' hc' hy
        by_cases he : x = y
        · subst he
          go_wp2
          go_quiet (fail)
          go_wp2
          go_roundw
          case rel => exact ⟨k + 1, by omega, by go_num, bdrewN hb2 _, same_step X.out Y.out HN.out⟩
          case measure => simp [intOf]; omega
        · have hne : (x != y) = true := by simpa using he
          have HE := Lib.hid he
          clear he
          go_wp2
          go_quiet (fail)
          go_wp2
          go_ret
          exact ⟨by rw [decide_eq_false (list_ne X.out Y.out HE.out)]; rfl, bdrewN hb2 _⟩
      · go_wp2
        go_ret
        exact ⟨by rw [decide_eq_true (list_eq_of HNE.out (fun j hj => HN.out j (by omega)))]; rfl, hb2⟩
  · have hb : ((l.length : Int) != (l'.length : Int)) = true := by rw [bne_iff_ne]; omega
    have HNE := Lib.hid hne
    clear hne
    go_enter Try.func29, Try.ntmps29
    go_wp2
    go_ret
    exact ⟨by rw [decide_eq_false (by intro h; exact HNE.out (by rw [h]))]; rfl, Below.refl _ _⟩
theorem eqIn {A A' : Option Addr} {c c' n n' : Nat} {l l' : List Int} {w : World} {r : Bool} (hr : decide (l = l') = r) (hn : n = l.length) (hn' : n' = l'.length) (hl : l.length ≤ 2000000) (hl' : l'.length ≤ 2000000) (hs : Sl encI 1 w A c l) (hs' : Sl encI 1 w A' c' l') :
    Calls Try.prog 29 #[.slice A n c, .slice A' n' c'] w (Ret w (.bool r)) := by
  subst hn
  subst hn'
  subst hr
  exact laws_equalInts A A' c c' l l' w (by omega) (by omega) hs hs'
set_option maxHeartbeats 1000000 in
theorem laws_eqIntS (A A' : Option Addr) (c c' : Nat) (l l' : List Int) (w : World) (hl : l.length ≤ 4000000) (hl' : l'.length ≤ 4000000) (hs : Sl encI 1 w A c l) (hs' : Sl encI 1 w A' c' l') :
    Calls Try.prog 32 #[.slice A l.length c, .slice A' l'.length c'] w (Ret w (.bool (decide (l = l')))) := by
  by_cases hne : l.length = l'.length
  · have hb : ((l.length : Int) != (l'.length : Int)) = false := by rw [bne_eq_false_iff_eq]; omega
    have HNE := Lib.hid hne
    clear hne
    go_enter Try.func32, Try.ntmps32
    go_wp2
    go_loopw [5] (fun i wr => ∃ k : Nat, k ≤ l.length ∧ i = .int .i64 k ∧ Below w.heap.size w wr ∧ ∀ j, j < k → l[j]? = l'[j]?) (fun i _ => l.length - (intOf i).toNat)
    case atStart => exact ⟨0, Nat.zero_le _, rfl, Below.refl _ _, by simp⟩
    case round =>
      obtain ⟨k, hk, rfl, hb2, hn⟩ := hrel
      have HN := Lib.hid hn
      clear hn
      by_cases hlt : k < l.length
      · have hlt' : k < l'.length := by rw [← HNE.out]; exact hlt
        obtain ⟨b, o, rfl, hbs, hc⟩ := hs.base hlt
        obtain ⟨b', o', rfl, hbs', hc'⟩ := hs'.base hlt'
        obtain ⟨x, hx⟩ : ∃ x, l[k]? = some x := ⟨_, List.getElem?_eq_getElem hlt⟩
        obtain ⟨y, hy⟩ : ∃ y, l'[k]? = some y := ⟨_, List.getElem?_eq_getElem hlt'⟩
        have d0 := hc.inn hb2 hbs hx
        have e0 := hc'.inn hb2 hbs' hy
        have X := Lib.hid hx
        have Y := Lib.hid hy
        clear hs hc hx hs' hc' hy
        by_cases he : x = y
        · subst he
          go_wp2
          go_quiet (fail)
          go_wp2
          go_roundw
          case rel => exact ⟨k + 1, by omega, by go_num, bdrewN hb2 _, same_step X.out Y.out HN.out⟩
          case measure => simp [intOf]; omega
        · have hne : (x != y) = true := by simpa using he
          have HE := Lib.hid he
          clear he
          go_wp2
          go_quiet (fail)
          go_wp2
          go_ret
          exact ⟨by rw [decide_eq_false (list_ne X.out Y.out HE.out)]; rfl, bdrewN hb2 _⟩
      · go_wp2
        go_ret
        exact ⟨by rw [decide_eq_true (list_eq_of HNE.out (fun j hj => HN.out j (by omega)))]; rfl, hb2⟩
  · have hb : ((l.length : Int) != (l'.length : Int)) = true := by rw [bne_iff_ne]; omega
    have HNE := Lib.hid hne
    clear hne
    go_enter Try.func32, Try.ntmps32
    go_wp2
    go_ret
    exact ⟨by rw [decide_eq_false (by intro h; exact HNE.out (by rw [h]))]; rfl, Below.refl _ _⟩
theorem eqIs {A A' : Option Addr} {c c' n n' : Nat} {l l' : List Int} {w : World} {r : Bool} (hr : decide (l = l') = r) (hn : n = l.length) (hn' : n' = l'.length) (hl : l.length ≤ 2000000) (hl' : l'.length ≤ 2000000) (hs : Sl encI 1 w A c l) (hs' : Sl encI 1 w A' c' l') :
    Calls Try.prog 32 #[.slice A n c, .slice A' n' c'] w (Ret w (.bool r)) := by
  subst hn
  subst hn'
  subst hr
  exact laws_eqIntS A A' c c' l l' w (by omega) (by omega) hs hs'
set_option maxHeartbeats 1000000 in
theorem laws_heldIntS (A : Option Addr) (c n : Nat) (k : Int) (w : World) (hn : n ≤ 4000000) (hk0 : 0 ≤ k) (hk1 : k ≤ 100000000) (hs : Sl encI 1 w A c (markI k n)) :
    Calls Try.prog 34 #[.slice A n c, .int .i64 k] w (Same w (.int .i64 (k + n))) := by
  have hlen := markI_len k n
  have HL := Lib.hid hlen
  clear hlen
  go_enter Try.func34, Try.ntmps34
  go_wp2
  go_loop [1, 5] (fun t i => ∃ j : Nat, j ≤ n ∧ i = .int .i64 j ∧ t = .int .i64 (k + j)) (fun _ i => n - (intOf i).toNat)
  case atStart => exact ⟨0, Nat.zero_le _, rfl, by simp⟩
  case round =>
    obtain ⟨j, hj, rfl, rfl⟩ := hrel
    by_cases hlt : j < n
    · obtain ⟨b, o, rfl, hbs, hc⟩ := hs.base (i := j) (by rw [HL.out]; exact hlt)
      have d0 := hc.inn (Below.refl _ _) hbs (markI_get k n j hlt)
      clear hs hc
      go_wp2
      go_round
      case rel => exact ⟨j + 1, by omega, by go_num, by congr 1; push_cast; omega⟩
      case measure => simp [intOf]; omega
    · go_wp2
      go_ret
      exact ⟨by rw [show j = n from by omega]; rfl, rfl⟩
set_option maxHeartbeats 2000000 in
theorem laws_markIntS (A : Option Addr) (c B : Nat) (k : Int) (l : List Int) (w : World) (hl : l.length ≤ 4000000) (hk0 : 0 ≤ k) (hk1 : k ≤ 100000000) (hs : Sl encI 1 w A c l) (hf : Fr B w A l.length) :
    Calls Try.prog 33 #[.slice A l.length c, .int .i64 k] w (fun e w' => e = .returned (.int .i64 (k + l.length)) ∧ Sl encI 1 w' A c (markI k l.length) ∧ w.grownBy w' (blk A)) := by
  go_enter Try.func33, Try.ntmps33
  go_wp2
  go_loopw [1, 5] (fun t i wr => ∃ j : Nat, j ≤ l.length ∧ i = .int .i64 j ∧ t = .int .i64 (k + j) ∧ w.grownBy wr (blk A) ∧ ∀ b o, A = some ⟨b, o, none⟩ → 0 < l.length → Row encI 1 wr b o (markI k j ++ l.drop j) ∧ ∀ q, wr.frozen? ⟨b, q, none⟩ = false) (fun _ i _ => l.length - (intOf i).toNat)
  case atStart =>
    refine ⟨0, Nat.zero_le _, rfl, by simp, World.grownBy.refl _ _, ?_⟩
    rintro b o rfl h0
    obtain ⟨b', o', e1, _, hr⟩ := hs.base h0
    obtain ⟨b2, o2, e2, _, _, hfz⟩ := hf h0
    injection e1 with e1; injection e1 with e1 e1'
    injection e2 with e2; injection e2 with e2 e2'
    subst e1; subst e1'; subst e2
    exact ⟨by simpa [markI] using hr, hfz⟩
  case round =>
    obtain ⟨j, hj, rfl, rfl, hg, hr⟩ := hrel
    by_cases hlt : j < l.length
    · obtain ⟨b, o, rfl, hbs, _⟩ := hs.base hlt
      obtain ⟨hrow, hfz⟩ := hr b o rfl (by omega)
      obtain ⟨x, hx⟩ : ∃ x, l[j]? = some x := ⟨_, List.getElem?_eq_getElem hlt⟩
      have hx0 := markI_set0 (k := k) hx
      have d0 := hrow.inn (Below.refl _ _) (B := b + 1) (by omega) hx0
      have f0 := hfz (o + j)
      have HR := Lib.hid hrow
      have HX := Lib.hid hx0
      have HF := Lib.hid hfz
      have HG := Lib.hid hg
      clear hrow hx0 hr hfz hx hg
      go_wp2
      go_roundw
      case rel =>
        refine ⟨j + 1, by omega, by go_num, by congr 1; push_cast; omega, ?_, ?_⟩
        · refine grown_setCell HG.out ?_ _
          exact .inl rfl
        intro b1 o1 he _
        injection he with he
        injection he with he1 he2
        subst he1
        subst he2
        refine ⟨?_, fun q => by simpa using HF.out q⟩
        rw [← markI_set (k := k) hlt]
        exact HR.out.store1 HX.out (k + j)
      case measure => simp [intOf]; omega
    · go_wp2
      go_ret
      have hjl : j = l.length := by omega
      subst hjl
      refine ⟨rfl, ⟨?_, ?_⟩, hg⟩
      · rw [markI_len]; exact hs.1
      · intro hne
        have h0 : 0 < l.length := by
          rcases Nat.eq_zero_or_pos l.length with h0 | h0
          · rw [h0] at hne; exact absurd rfl hne
          · exact h0
        obtain ⟨b, o, rfl, hbs, _⟩ := hs.base h0
        obtain ⟨hrow, _⟩ := hr b o rfl h0
        exact ⟨b, o, rfl, Nat.lt_of_lt_of_le hbs hg.size, by simpa using hrow⟩
theorem laws_markIntS0 {A : Option Addr} {c : Nat} {k : Int} (w : World) : Calls Try.prog 33 #[.slice A 0 c, .int .i64 k] w (Same w (.int .i64 k)) := by
  go_enter Try.func33, Try.ntmps33
  go_wp2
  go_loop [1, 5] (fun t i => t = .int .i64 k ∧ i = .int .i64 0) (fun _ _ => 0)
  case atStart => exact ⟨rfl, rfl⟩
  case round =>
    obtain ⟨rfl, rfl⟩ := hrel
    go_wp2
    go_ret
    exact ⟨rfl, rfl⟩
theorem markIn {A : Option Addr} {c n B : Nat} {l : List Int} {w : World} {k : Int} (hn : n = l.length) (hl : l.length ≤ 4000000) (hk0 : 0 ≤ k) (hk1 : k ≤ 100000000) (hs : Sl encI 1 w A c l) (hf : Fr B w A l.length) :
    Calls Try.prog 33 #[.slice A n c, .int .i64 k] w (fun e w' => e = .returned (.int .i64 (k + n)) ∧ Sl encI 1 w' A c (markI k n) ∧ ∃ row, w.grownBy w' row ∧ ∀ g, row = some g → B ≤ g ∧ blk A = some g) := by
  subst hn
  rcases Nat.eq_zero_or_pos l.length with h0 | h0
  · rw [h0]
    refine (laws_markIntS0 w).mono ?_
    rintro e w' ⟨rfl, rfl⟩
    exact ⟨by simp, Sl.nil, none, World.grownBy.refl _ _, by simp⟩
  · refine (laws_markIntS A c B k l w hl hk0 hk1 hs hf).mono ?_
    rintro e w' ⟨rfl, h1, h2⟩
    exact ⟨rfl, h1, _, h2, fun g hg => ⟨hf.blkB h0 g hg, hg⟩⟩
end Go.Proofs.Ytnkdhpbbiilekaa

/- The contracts on timers, as the statements' walks take them: each result under a name of its own. -/
namespace Go.Proofs.Ytnkdhpbbiilekaa
open Go.RowKit
section
variable {A : Option Addr} {c n m : Nat} {l L : List Mp} {I : List Int} {w : World} {r : Bool} {now hold v port : Int}
end
theorem keep_get {f : Mp → Bool} {l : List Mp} {k : Nat} {x : Mp} (h : l[k]? = some x) (hf : f x = false) : (keep f l)[(keep f (l.take k)).length]? = some x := by
  have e : keep f l = keep f (l.take k) ++ x :: keep f (l.drop (k + 1)) := by
    conv => lhs; rw [← List.take_append_drop k l, drop_cons h]
    unfold keep
    rw [List.filter_append, List.filter_cons, hf]
    rfl
  rw [e, List.getElem?_append_right (Nat.le_refl _), Nat.sub_self]
  rfl
theorem touchV_len (l : List Mp) (p now : Int) : (touchV l p now).length ≤ l.length := by
  cases h : touchO l p now
  · unfold touchV; rw [h]; simp
  · rw [touch_len h]; exact Nat.le_refl _
end Go.Proofs.Ytnkdhpbbiilekaa
