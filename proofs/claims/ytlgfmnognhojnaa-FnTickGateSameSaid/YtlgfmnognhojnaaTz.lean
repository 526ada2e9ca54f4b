/- Timers in plain terms: what expires, what is left, when the next one expires; and the laws of these. -/
import Derived.Test.YtlgfmnognhojnaaMz
import Derived.Test.YtlgfmnognhojnaaMk
namespace Go.Proofs.Ytlgfmnognhojnaa
open Go.RowKit
def exq (now hold : Int) (x : Mp) : Bool := decide (hold ≤ now - x.l)
def tim (l : List Mp) (now hold : Int) : Bool := vM l && (inR now 0 10000 && inR hold 1 500)
def expV (l : List Mp) (now hold : Int) : List Mp := if tim l now hold then keep (exq now hold) l else []
def goneOf (now hold : Int) (l : List Mp) : List Int := (l.filter (exq now hold)).map fun x => x.p
def goneV (l : List Mp) (now hold : Int) : List Int := if tim l now hold then goneOf now hold l else []
def mn (s : Int) (l : List Mp) : Int := l.foldl (fun a x => min a x.l) s
def nextOf (l : List Mp) (hold : Int) : Int := match l with
  | [] => -1
  | x :: r => mn x.l r + hold
def nextV (l : List Mp) (hold : Int) : Int := if vM l && inR hold 1 500 then nextOf l hold else -1

theorem inR_iff {n a b : Int} : inR n a b = true ↔ a ≤ n ∧ n ≤ b := by unfold inR; exact decide_eq_true_iff
theorem tim_iff {l : List Mp} {now hold : Int} : tim l now hold = true ↔ vM l = true ∧ (0 ≤ now ∧ now ≤ 10000) ∧ 1 ≤ hold ∧ hold ≤ 500 := by
  unfold tim
  simp only [Bool.and_eq_true, inR_iff]
theorem mn_snoc (s : Int) (l : List Mp) (x : Mp) : mn s (l ++ [x]) = min (mn s l) x.l := by
  unfold mn
  rw [List.foldl_append]
  rfl
theorem mn_cons (s : Int) (l : List Mp) (x : Mp) : mn s (x :: l) = mn (min s x.l) l := rfl
theorem mn_le (s : Int) (l : List Mp) : mn s l ≤ s ∧ (∀ x ∈ l, mn s l ≤ x.l) ∧ (mn s l = s ∨ ∃ x ∈ l, mn s l = x.l) := by
  induction l generalizing s with
  | nil => exact ⟨Int.le_refl _, by simp, .inl rfl⟩
  | cons y l ih =>
    obtain ⟨h1, h2, h3⟩ := ih (min s y.l)
    rw [mn_cons]
    refine ⟨by omega, ?_, ?_⟩
    · intro x hx
      rcases List.mem_cons.1 hx with rfl | hx
      · omega
      · exact h2 x hx
    · rcases h3 with h3 | ⟨x, hx, h3⟩
      · rcases Int.le_total s y.l with h | h
        · exact .inl (by omega)
        · exact .inr ⟨y, by simp, by omega⟩
      · exact .inr ⟨x, by simp [hx], h3⟩
theorem next_least (x : Mp) (r : List Mp) : (∀ y ∈ x :: r, mn x.l r ≤ y.l) ∧ ∃ y ∈ x :: r, mn x.l r = y.l := by
  obtain ⟨h1, h2, h3⟩ := mn_le x.l r
  refine ⟨?_, ?_⟩
  · intro y hy
    rcases List.mem_cons.1 hy with rfl | hy
    · exact h1
    · exact h2 y hy
  · rcases h3 with h3 | ⟨y, hy, h3⟩
    · exact ⟨x, by simp, h3⟩
    · exact ⟨y, by simp [hy], h3⟩
theorem last_in {l : List Mp} (h : vM l = true) {x : Mp} (hx : x ∈ l) : 0 ≤ x.l ∧ x.l ≤ 10000 := inR_iff.1 (okM_time (((vM_iff l).1 h).2.2.2 x hx))
theorem next_bounds {l : List Mp} (h : vM l = true) {x : Mp} {r : List Mp} (hl : l = x :: r) : 0 ≤ mn x.l r ∧ mn x.l r ≤ 10000 := by
  obtain ⟨_, y, hy, he⟩ := next_least x r
  rw [he]
  exact last_in h (by rw [hl]; exact hy)
theorem nextV_cases (l : List Mp) (hold : Int) : nextV l hold = -1 ∨ (vM l = true ∧ (1 ≤ hold ∧ hold ≤ 500) ∧ ∃ x r, l = x :: r ∧ nextV l hold = mn x.l r + hold) := by
  unfold nextV
  split
  · next h =>
    simp only [Bool.and_eq_true, inR_iff] at h
    match l, h with
    | [], _ => exact .inl rfl
    | x :: r, h => exact .inr ⟨h.1, h.2, x, r, rfl, rfl⟩
  · exact .inl rfl
theorem nextV_fit (l : List Mp) (hold : Int) : -1 ≤ nextV l hold ∧ nextV l hold ≤ 10500 := by
  rcases nextV_cases l hold with h | ⟨hv, hh, x, r, hl, h⟩
  · omega
  · have := next_bounds hv hl; omega
theorem next_none {l : List Mp} {hold : Int} (hv : vM l = true) (h1 : 1 ≤ hold) (h2 : hold < 500) : (nextV l hold == -1) = ((l.length : Int) == 0) ∧ (nextV l hold ≠ -1 → nextV l (hold + 1) = nextV l hold + 1) := by
  have e1 : inR hold 1 500 = true := inR_iff.2 (by omega)
  have e2 : inR (hold + 1) 1 500 = true := inR_iff.2 (by omega)
  unfold nextV
  rw [hv, e1, e2]
  match l, hv with
  | [], _ => exact ⟨rfl, fun h => absurd rfl h⟩
  | x :: r, hv =>
    have := next_bounds hv rfl
    refine ⟨?_, fun _ => by show mn x.l r + (hold + 1) = mn x.l r + hold + 1; omega⟩
    have e : (nextOf (x :: r) hold == -1) = false := by rw [beq_eq_false_iff_ne]; show mn x.l r + hold ≠ -1; omega
    have e' : (((x :: r).length : Int) == 0) = false := by rw [beq_eq_false_iff_ne]; simp; omega
    rw [show (if (true && true) = true then nextOf (x :: r) hold else -1) = nextOf (x :: r) hold from rfl, e, e']
theorem keep_all {f : Mp → Bool} {l : List Mp} (h : ∀ x ∈ l, f x = false) : keep f l = l := by
  unfold keep
  rw [List.filter_eq_self]
  intro x hx
  rw [h x hx]
  rfl
theorem keep_less {f : Mp → Bool} {l : List Mp} {x : Mp} (hx : x ∈ l) (h : f x = true) : (keep f l).length < l.length := by
  have h1 : (keep f l).length ≤ l.length := List.length_filter_le _ _
  rcases Nat.lt_or_ge (keep f l).length l.length with h2 | h2
  · exact h2
  · have h3 : (l.filter fun x => !f x).length = l.length := by unfold keep at h1 h2; omega
    have := List.length_filter_eq_length_iff.1 h3 x hx
    rw [h] at this
    cases this
theorem next_at {l : List Mp} {hold : Int} (h1 : 1 ≤ nextV l hold) (h2 : nextV l hold ≤ 10000) : expV l (nextV l hold - 1) hold = l ∧ (expV l (nextV l hold) hold).length < l.length := by
  rcases nextV_cases l hold with h | ⟨hv, hh, x, r, hl, h⟩
  · omega
  obtain ⟨g1, y, hy, g2⟩ := next_least x r
  rw [← hl] at g1 hy
  constructor
  · unfold expV
    rw [if_pos (tim_iff.2 ⟨hv, by omega, hh⟩)]
    refine keep_all fun z hz => decide_eq_false ?_
    have := g1 z hz
    omega
  · unfold expV
    rw [if_pos (tim_iff.2 ⟨hv, by omega, hh⟩)]
    exact keep_less hy (decide_eq_true (by omega))

/-! ### what is left -/
theorem exp_eq {l : List Mp} {now hold : Int} (h : tim l now hold = true) : expV l now hold = keep (exq now hold) l := by unfold expV; rw [if_pos h]
theorem exp_vM {l : List Mp} {now hold : Int} (h : tim l now hold = true) : vM (expV l now hold) = true := by
  unfold expV
  rw [if_pos h]
  exact vM_sub (tim_iff.1 h).1 List.filter_sublist
theorem exp_some {l : List Mp} {now hold : Int} (h : expV l now hold ≠ []) : tim l now hold = true := by
  cases ht : tim l now hold
  · unfold expV at h; rw [ht] at h; exact absurd rfl h
  · rfl
theorem exp_len (l : List Mp) (now hold : Int) : (expV l now hold).length ≤ l.length := by
  unfold expV
  split
  · exact List.length_filter_le _ _
  · simp
theorem keep_keep {f g : Mp → Bool} (h : ∀ x, g x = true → f x = true) (l : List Mp) : keep f (keep g l) = keep f l := by
  unfold keep
  rw [List.filter_filter]
  refine List.filter_congr fun x _ => ?_
  cases hg : g x
  · simp
  · rw [h x hg]; rfl
theorem keep_mono_len {f g : Mp → Bool} (h : ∀ x, f x = true → g x = true) (l : List Mp) : (keep g l).length ≤ (keep f l).length := by
  have e := keep_keep (f := g) (g := f) h l
  rw [← e]
  exact List.length_filter_le _ _
theorem exp_twice {l : List Mp} {now hold : Int} (h : expV l now hold ≠ []) : expV (expV l now hold) now hold = expV l now hold := by
  have ht := exp_some h
  have hv := exp_vM ht
  have ht' := tim_iff.1 ht
  have h2 : tim (expV l now hold) now hold = true := tim_iff.2 ⟨hv, ht'.2⟩
  rw [exp_eq h2, exp_eq ht]
  exact keep_keep (fun _ h => h) l
theorem exp_longer {l : List Mp} {now hold : Int} (h : expV l now hold ≠ []) (hh : hold ≠ 500) : (expV l now hold).length ≤ (expV l now (hold + 1)).length := by
  have ht := exp_some h
  have ht' := tim_iff.1 ht
  have h2 : tim l now (hold + 1) = true := tim_iff.2 ⟨ht'.1, ht'.2.1, by omega⟩
  unfold expV
  rw [if_pos ht, if_pos h2]
  refine keep_mono_len (fun x hx => ?_) l
  have := of_decide_eq_true hx
  exact decide_eq_true (by omega)
theorem exp_later {l : List Mp} {now hold : Int} (h : expV l now hold ≠ []) (hh : now + 7 ≤ 10000) : expV (expV l now hold) (now + 7) hold = expV l (now + 7) hold := by
  have ht := exp_some h
  have hv := exp_vM ht
  have ht' := tim_iff.1 ht
  have h2 : tim (expV l now hold) (now + 7) hold = true := tim_iff.2 ⟨hv, by omega, ht'.2.2⟩
  have h3 : tim l (now + 7) hold = true := tim_iff.2 ⟨ht'.1, by omega, ht'.2.2⟩
  rw [exp_eq h2, exp_eq h3, exp_eq ht]
  refine keep_keep (fun x hx => ?_) l
  have := of_decide_eq_true hx
  exact decide_eq_true (by omega)

/-! ### what is gone -/
theorem goneOf_snoc {now hold : Int} {l : List Mp} {k : Nat} {x : Mp} (h : l[k]? = some x) : goneOf now hold (l.take (k + 1)) = goneOf now hold (l.take k) ++ (if exq now hold x then [x.p] else []) := by
  rw [take_succ h]
  unfold goneOf
  rw [List.filter_append, List.map_append]
  cases hf : exq now hold x <;> simp [hf]
theorem goneOf_len (now hold : Int) (l : List Mp) : (goneOf now hold l).length ≤ l.length := by
  unfold goneOf
  rw [List.length_map]
  exact List.length_filter_le _ _
theorem goneV_len (l : List Mp) (now hold : Int) : (goneV l now hold).length ≤ l.length := by
  unfold goneV
  split
  · exact goneOf_len _ _ _
  · simp
theorem filter_both {f : Mp → Bool} (l : List Mp) : (l.filter f).length + (keep f l).length = l.length := by
  induction l with
  | nil => rfl
  | cons x l ih =>
    unfold keep at *
    rw [List.filter_cons, List.filter_cons]
    cases f x <;> simp <;> omega
theorem gone_len {l : List Mp} {now hold : Int} (h : (expV l now hold).length ≠ 0) : (goneV l now hold).length + (expV l now hold).length = l.length := by
  have ht := exp_some (l := l) (now := now) (hold := hold) (by intro e; rw [e] at h; exact h rfl)
  unfold goneV expV goneOf
  rw [if_pos ht, if_pos ht, List.length_map]
  exact filter_both l
theorem gone_free {l : List Mp} {now hold p : Int} (h : p ∈ goneV l now hold) : insO (expV l now hold) p = false ∧ insO l p = true := by
  have ht : tim l now hold = true := by
    cases ht : tim l now hold
    · unfold goneV at h; rw [ht] at h; simp at h
    · rfl
  have ht' := tim_iff.1 ht
  unfold goneV goneOf at h
  rw [if_pos ht] at h
  obtain ⟨x, hx, rfl⟩ := List.mem_map.1 h
  obtain ⟨hx, he⟩ := List.mem_filter.1 hx
  refine ⟨?_, ?_⟩
  · rw [insO_used (exp_vM ht)]
    unfold used
    rw [List.any_eq_false]
    intro y hy hp
    unfold expV keep at hy
    rw [if_pos ht] at hy
    obtain ⟨hy, hn⟩ := List.mem_filter.1 hy
    have hxy : y = x := nodup_inj ((vM_iff l).1 ht'.1).2.2.1 hy hx (by simpa [sameP] using hp)
    subst hxy
    rw [he] at hn
    cases hn
  · exact (ins_mem' ht'.1 hx).1

/-! ### touching -/
theorem touch_len {l : List Mp} {p now : Int} (h : touchO l p now = true) : (touchV l p now).length = l.length := by
  obtain ⟨_, _, k, x, _, _, _, e⟩ := touch_cases h
  rw [e, List.length_set]
theorem touch_vM {l : List Mp} {p now : Int} (h : touchO l p now = true) : vM (touchV l p now) = true := by
  obtain ⟨hv, ht, k, x, hx, _, _, e⟩ := touch_cases h
  rw [e]
  exact vM_last hv hx (max_in (okM_time (((vM_iff l).1 hv).2.2.2 x (List.mem_of_getElem? hx))) ht)
theorem touch_at {l : List Mp} {p now : Int} (h : touchO l p now = true) {i : Nat} {y : Mp} (hy : l[i]? = some y) : (touchV l p now)[i]? = some ⟨y.a, y.q, y.p, if y.p = p then max y.l now else y.l⟩ := by
  obtain ⟨hv, ht, k, x, hx, hp, _, e⟩ := touch_cases h
  rw [e]
  by_cases hk : k = i
  · subst hk
    rw [hx] at hy
    injection hy with hy
    subst hy
    rw [List.getElem?_set_self (lt_of_get hx), if_pos hp]
  · rw [List.getElem?_set_ne hk, hy]
    have hne : y.p ≠ p := by
      intro hyp
      have hxy : x = y := nodup_inj ((vM_iff l).1 hv).2.2.1 (List.mem_of_getElem? hx) (List.mem_of_getElem? hy) (by rw [hp, hyp])
      subst hxy
      rcases Nat.lt_trichotomy k i with g | g | g
      · exact nodup_ne ((vM_iff l).1 hv).2.2.1 (i := k) (j := i) (x := x.p) (y := x.p) (by rw [List.getElem?_map, hx]; rfl) (by rw [List.getElem?_map, hy]; rfl) g rfl
      · exact hk g
      · exact nodup_ne ((vM_iff l).1 hv).2.2.1 (i := i) (j := k) (x := x.p) (y := x.p) (by rw [List.getElem?_map, hy]; rfl) (by rw [List.getElem?_map, hx]; rfl) g rfl
    rw [if_neg hne]
theorem touch_again {l : List Mp} {p now t : Int} (h : touchO l p now = true) (ht : 0 ≤ t) (ht2 : t ≤ now) : touchO (touchV l p now) p t = true ∧ touchV (touchV l p now) p t = touchV l p now := by
  obtain ⟨hv, hn, k, x, hx, hp, hq, e⟩ := touch_cases h
  have h2 := touch_vM h
  have hn' := inR_iff.1 hn
  have hg := touch_at h hx
  have hm := List.mem_of_getElem? hg
  have ho : touchO (touchV l p now) p t = true := by
    unfold touchO used
    rw [h2, inR_iff.2 (show 0 ≤ t ∧ t ≤ 10000 by omega), List.any_eq_true.2 ⟨_, hm, by simp [sameP, hp]⟩]
    rfl
  refine ⟨ho, ?_⟩
  obtain ⟨_, _, j, y, hy, hyp, _, e2⟩ := touch_cases ho
  rw [e2]
  have hxy : y = ⟨x.a, x.q, x.p, if x.p = p then max x.l now else x.l⟩ := nodup_inj ((vM_iff _).1 h2).2.2.1 (List.mem_of_getElem? hy) hm (by rw [hyp]; exact hp.symm)
  refine set_same hy _ ?_
  rw [hxy]
  simp only [if_pos hp]
  omega
theorem next_touch {l : List Mp} {p now : Int} (h : touchO l p now = true) : nextV l 50 ≤ nextV (touchV l p now) 50 := by
  have h2 := touch_vM h
  have hl := touch_len h
  obtain ⟨hv, hn, k, x0, hx0, hp, hq, e⟩ := touch_cases h
  match l, hl, hx0, h, hv with
  | x :: r, hl, hx0, h, hv =>
    obtain ⟨z, s, hz⟩ : ∃ z s, touchV (x :: r) p now = z :: s := List.exists_cons_of_length_eq_add_one (by rw [hl]; rfl)
    have e1 : nextV (x :: r) 50 = mn x.l r + 50 := by unfold nextV; rw [hv]; rfl
    have e2 : nextV (touchV (x :: r) p now) 50 = mn z.l s + 50 := by unfold nextV; rw [h2, hz]; rfl
    rw [e1, e2]
    obtain ⟨g1, _⟩ := next_least x r
    obtain ⟨_, y, hy, g2⟩ := next_least z s
    rw [g2]
    rw [← hz] at hy
    obtain ⟨i, hi⟩ := List.getElem?_of_mem hy
    have hil := lt_of_get hi
    rw [hl] at hil
    have hu := touch_at h (List.getElem?_eq_getElem hil)
    rw [hi] at hu
    injection hu with hu
    have := g1 _ (List.getElem_mem hil)
    rw [hu]
    show mn x.l r + 50 ≤ (if ((x :: r)[i]).p = p then max ((x :: r)[i]).l now else ((x :: r)[i]).l) + 50
    split <;> omega
theorem gone_touch {l : List Mp} {now hold p : Int} {R : List Int} (h : goneV l now hold = p :: R) : touchO l p now = true ∧ goneV (touchV l p now) now hold = R := by
  have ht : tim l now hold = true := by
    cases ht : tim l now hold
    · unfold goneV at h; rw [ht] at h; simp at h
    · rfl
  have ht' := tim_iff.1 ht
  have hp : p ∈ goneV l now hold := by rw [h]; simp
  have ho : touchO l p now = true := by
    unfold touchO
    rw [ht'.1, inR_iff.2 ht'.2.1, ← insO_used ht'.1, (gone_free hp).2]
    rfl
  refine ⟨ho, ?_⟩
  have h2 := touch_vM ho
  have ht2 : tim (touchV l p now) now hold = true := tim_iff.2 ⟨h2, ht'.2⟩
  obtain ⟨hv, hn, k, x, hx, hxp, hq, e⟩ := touch_cases ho
  unfold goneV goneOf at h ⊢
  rw [if_pos ht] at h
  rw [if_pos ht2, e]
  -- the first that is expired is the one with port p
  have hl : l = l.take k ++ x :: l.drop (k + 1) := by
    conv => lhs; rw [← List.take_append_drop k l, drop_cons hx]
  have hset : l.set k ⟨x.a, x.q, x.p, max x.l now⟩ = l.take k ++ ⟨x.a, x.q, x.p, max x.l now⟩ :: l.drop (k + 1) := by
    have hk := lt_of_get hx
    conv => lhs; rw [hl]
    rw [List.set_append_right k _ (by rw [List.length_take]; omega), List.length_take, Nat.min_eq_left (Nat.le_of_lt hk), Nat.sub_self]
    rfl
  have hne : exq now hold ⟨x.a, x.q, x.p, max x.l now⟩ = false := decide_eq_false (by show ¬ hold ≤ now - max x.l now; omega)
  have hno : ∀ y ∈ l, sameP p y = true → y = x := fun y hy hs => nodup_inj ((vM_iff l).1 hv).2.2.1 hy (List.mem_of_getElem? hx) (by rw [hxp]; simpa [sameP] using hs)
  rw [hset, List.filter_append, List.filter_cons, hne]
  rw [hl, List.filter_append, List.filter_cons] at h
  cases hf : (l.take k).filter (exq now hold) with
  | cons y s =>
    rw [hf] at h
    simp only [List.cons_append, List.map_cons, List.cons.injEq] at h
    have hy : y ∈ (l.take k).filter (exq now hold) := by rw [hf]; simp
    have hy' := (List.mem_filter.1 hy).1
    have := hq y hy'
    simp [sameP, h.1] at this
  | nil =>
    rw [hf] at h
    simp only [List.nil_append] at h ⊢
    cases hxe : exq now hold x
    · rw [hxe] at h
      simp only [Bool.false_eq_true, if_false] at h
      have hp2 : p ∈ ((l.drop (k + 1)).filter (exq now hold)).map fun x => x.p := by rw [h]; simp
      obtain ⟨y, hy, hyp⟩ := List.mem_map.1 hp2
      obtain ⟨hy, hye⟩ := List.mem_filter.1 hy
      have := hno y (List.mem_of_mem_drop hy) (by simp [sameP, hyp])
      subst this
      rw [hxe] at hye
      cases hye
    · rw [hxe] at h
      simp only [if_true, List.map_cons, List.cons.injEq] at h
      simpa using h.2
end Go.Proofs.Ytlgfmnognhojnaa

/- DeleteFunc on mappings, walked. -/
namespace Go.Proofs.Ytlgfmnognhojnaa
open Go.RowKit
theorem mid_atM {F X : List Mp} {m : Nat} (h1 : m = F.length) (h2 : 0 < X.length) (R : List Mp) : ∃ a q p t, (F ++ X ++ R)[m]? = some ⟨a, q, p, t⟩ := mt_at (by rw [List.length_append, List.length_append]; omega)
theorem mid_setM {F X l : List Mp} {n m : Nat} {x : Mp} (h1 : m = F.length) (hX : X ≠ []) (h : l[n]? = some x) : (F ++ X ++ l.drop n).set m x = F ++ [x] ++ (X.tail ++ [x]) ++ l.drop (n + 1) := by
  obtain ⟨y, X', rfl⟩ := List.exists_cons_of_ne_nil hX
  rw [List.append_assoc, List.set_append_right m _ (by omega), h1, Nat.sub_self, drop_cons h]
  simp
theorem one_belowM {w w' : World} {a q p t : Int} {ty : TypeId} (hb : Below (w.alloc (.cells #[.int .i64 a, .int .i64 q, .int .i64 p, .int .i64 t] ty)).heap.size (w.alloc (.cells #[.int .i64 a, .int .i64 q, .int .i64 p, .int .i64 t] ty)) w') :
    (w'.cell? ⟨w.heap.size, 0, none⟩ = some (.int .i64 a) ∧ w'.cell? ⟨w.heap.size, 1, none⟩ = some (.int .i64 q) ∧ w'.cell? ⟨w.heap.size, 2, none⟩ = some (.int .i64 p) ∧ w'.cell? ⟨w.heap.size, 3, none⟩ = some (.int .i64 t)) ∧ w.heap.size < w'.heap.size := by
  have hz := hb.size
  rw [alloc_size] at hz
  exact ⟨⟨bcell hb (by rw [alloc_size]; exact Nat.lt_succ_self _) (cell_of_row _ _ _ _ _ _ (heap_alloc_new w _)), bcell hb (by rw [alloc_size]; exact Nat.lt_succ_self _) (cell_of_row _ _ _ _ _ _ (heap_alloc_new w _)), bcell hb (by rw [alloc_size]; exact Nat.lt_succ_self _) (cell_of_row _ _ _ _ _ _ (heap_alloc_new w _)), bcell hb (by rw [alloc_size]; exact Nat.lt_succ_self _) (cell_of_row _ _ _ _ _ _ (heap_alloc_new w _))⟩, hz⟩
set_option maxHeartbeats 4000000 in
theorem DeleteFunc_mt (A : Option Addr) (c B : Nat) (l : List Mp) (g : FuncId) (cb : Array Value) (f : Mp → Bool) (w : World) (hl : l.length ≤ 2000000) (hs : Ow encM 4 64 B w A c l) (hB : B ≤ w.heap.size)
    (eg : ∀ args W, (callFunc g args).run Try.prog W = .ok (.enter g args) W) (hp : ∀ a q p t W, w.grownBy W (blk A) → Calls Try.prog g (#[.agg #[.int .i64 a, .int .i64 q, .int .i64 p, .int .i64 t]] ++ cb) W (Ret W (.bool (f ⟨a, q, p, t⟩)))) :
    Calls Try.prog 36 #[.slice A l.length c, .func (.func g) #[] cb] w
      (fun e w' => e = .returned (.slice A (keep f l).length c) ∧ Ow encM 4 64 B w' A c (keep f l) ∧ w.grownBy w' (blk A)) := by
  have HP := Lib.hid hp
  have EG := Lib.hid eg
  have HPB := Lib.hid (fun a q p t W (h : Below w.heap.size w W) => hp a q p t W (grown_of_below h))
  have HSL := Lib.hid hs.sl
  clear hp
  cases hany : l.any f
  · have hi := idx_nonneg f l
    rw [hany] at hi
    have hi1 : idx f l = -1 := idx_not (by
      intro y hy
      rw [List.any_eq_false] at hany
      simpa using hany y hy)
    have hfl : (keep f l) = l := by
      unfold keep
      rw [List.filter_eq_self]
      intro y hy
      rw [List.any_eq_false] at hany
      simpa using hany y hy
    rw [hfl]
    have HI := Lib.hid hi1
    have HS := Lib.hid hs
    clear hi hi1 hfl hany hs eg
    go_enter Try.func36, Try.ntmps36
    go_wp2_with (go_at_call 82; refine (IndexFunc_mt _ _ _ _ _ f _ hl HSL.out EG.out HPB.out).mono ?_; rintro e w2 ⟨rfl, hb2⟩; rw [HI.out])
    go_ret
    exact ⟨rfl, HS.out.below hb2, grown_of_below hb2⟩
  · obtain ⟨k, x, hk, hfx, hkn, hki⟩ := idx_found hany
    have hne : l ≠ [] := by rintro rfl; simp at hk
    obtain ⟨gb, rfl, hgB, hlc, hcm, hbl⟩ := hs.resolve_left (by rintro ⟨_, _, h⟩; exact hne h)
    have hkl := lt_of_get hk
    have hm : c ≤ 9223372036854775807 := by unfold maxLen at hcm; omega
    have HK := Lib.hid hk
    have HF := Lib.hid hfx
    have HN := Lib.hid hkn
    have HI := Lib.hid hki
    have HBL := Lib.hid hbl
    have hgl := hbl.lt
    have hk1 : ((k : Int) == -1) = false := by rw [beq_eq_false_iff_ne]; omega
    clear hany hk hfx hkn hki hbl hs hne
    go_enter Try.func36, Try.ntmps36
    go_wp2_with (go_at_call 82; refine (IndexFunc_mt _ _ _ _ _ f _ hl HSL.out EG.out HPB.out).mono ?_; rintro e w2 ⟨rfl, hb2⟩; rw [HI.out])
    go_loopw [5, 6] (fun i j wr => ∃ (n m : Nat) (X : List Mp), n ≤ l.length ∧ j = .int .i64 n ∧ i = .int .i64 m ∧ m = (keep f (l.take n)).length ∧ m + X.length = n ∧ X ≠ [] ∧ Bl encM 4 64 wr gb (c * 4) (keep f (l.take n) ++ X ++ l.drop n) ∧ w.grownBy wr (some gb)) (fun _ j _ => l.length - (intOf j).toNat)
    case atStart =>
      refine ⟨k + 1, k, [x], by omega, by go_num, rfl, ?_, by simp, by simp, ?_, grown_of_below hb2⟩
      · rw [keep_start HK.out HF.out HN.out, List.length_take]; omega
      · have := HBL.out.below hb2 hgl
        rw [keep_start HK.out HF.out HN.out, List.append_assoc, List.singleton_append, ← drop_cons HK.out, List.take_append_drop]
        exact this
    case round =>
      obtain ⟨n, m, X, hn, rfl, rfl, hmF, hmX, hX, hB3, hg3⟩ := hrel
      have HMF := Lib.hid hmF
      have HMX := Lib.hid hmX
      have HX := Lib.hid hX
      have HB3 := Lib.hid hB3
      have HG3 := Lib.hid hg3
      have hX0 : 0 < X.length := List.length_pos_iff.2 hX
      have hgl3 := hB3.lt
      have hmn : m < n := by omega
      clear hb2 hmF hmX hX hB3 hg3
      by_cases hlt : n < l.length
      · obtain ⟨a, q, p, t, hx⟩ := mt_at hlt
        have hy := mid_get HMF.out HMX.out hx
        obtain ⟨⟨d0, d1, d2, d3⟩, _⟩ := HB3.out.mtAt hy
        have XX := Lib.hid hx
        have hwa : Below wr.heap.size wr (wr.alloc (.cells #[.int .i64 a, .int .i64 q, .int .i64 p, .int .i64 t] 64)) := (Below.refl _ _).alloc (Nat.le_refl _) _
        have C := Lib.hid (HP.out a q p t _ (grown_below HG3.out hwa))
        have HWA := Lib.hid hwa
        clear hx hy hwa
        cases hv : f ⟨a, q, p, t⟩
        · have HV := Lib.hid hv
          clear hv
          obtain ⟨a', q', p', t', hz⟩ := mid_atM HMF.out hX0 (l.drop n)
          have Z := Lib.hid hz
          clear hz
          go_wp2_with fail
          refine (HV.out ▸ C.out).mono ?_
          rintro e w4 ⟨rfl, hb4⟩
          obtain ⟨⟨e0, e1, e2, e3⟩, f0, f1, f2, f3⟩ := ((HB3.out.alloc _).below hb4 (by simp; omega)).mtAt Z.out
          obtain ⟨⟨x0, x1, x2, x3⟩, hz4⟩ := one_belowM hb4
          go_wp2
          go_roundw
          case rel =>
            have hkp := keep_snoc (f := f) XX.out
            rw [HV.out] at hkp
            simp only [Bool.false_eq_true, if_false] at hkp
            refine ⟨n + 1, m + 1, X.tail ++ [⟨a, q, p, t⟩], by omega, by go_num, by go_num, ?_, ?_, by simp, ?_, ?_⟩
            · rw [hkp, List.length_append, ← HMF.out]; rfl
            · have := HMX.out
              rw [List.length_append, List.length_tail]; simp; omega
            · have := ((HB3.out.alloc _).below hb4 (by simp; omega)).store4 Z.out a q p t
              rw [mid_setM HMF.out HX.out XX.out] at this
              rw [hkp]
              exact this
            · refine grown_setCell (grown_setCell (grown_setCell (grown_setCell (grown_below (grown_below HG3.out HWA.out) hb4) ?_ _) ?_ _) ?_ _) ?_ _ <;> exact .inl rfl
          case measure => simp [intOf]; omega
        · have HV := Lib.hid hv
          clear hv
          go_wp2_with fail
          refine (HV.out ▸ C.out).mono ?_
          rintro e w4 ⟨rfl, hb4⟩
          go_wp2
          go_roundw
          case rel =>
            have hkp := keep_snoc (f := f) XX.out
            rw [HV.out, if_pos rfl, List.append_nil] at hkp
            refine ⟨n + 1, m, X ++ [⟨a, q, p, t⟩], by omega, by go_num, rfl, by rw [hkp]; exact HMF.out, ?_, by simp, ?_, grown_below (grown_below HG3.out HWA.out) hb4⟩
            · have := HMX.out
              rw [List.length_append]; simp; omega
            · have := (HB3.out.alloc _).below hb4 (by simp; omega)
              rw [hkp]
              rw [drop_cons XX.out, List.append_assoc] at this
              simpa using this
          case measure => simp [intOf]; omega
      · have hnl : n = l.length := by omega
        have hmc : m < c := by omega
        have hmF := HMF.out
        have hB3 := HB3.out
        have hmX := HMX.out
        rw [hnl, List.take_length] at hmF
        rw [hnl, List.take_length, List.drop_length, List.append_nil] at hB3
        rw [hnl] at hmX
        have HM2 := Lib.hid hmF
        have HB4 := Lib.hid hB3
        have HX2 := Lib.hid hmX
        have HNL := Lib.hid hnl
        clear hmF hB3 hmX hnl
        go_wp2_with (with_reducible refine wpList_clear elM rfl (.tmp 38) rfl gb (c * 4) m (l.length - m) (c - m) (keep f l ++ X) HB4.out rfl ?c1 ?c2 ?_)
        case c1 => have h1 := HM2.out; have h2 := HX2.out; rw [List.length_append]; omega
        case c2 => omega
        intro w5 hb5 hg5
        go_wp2
        go_ret
        have hm2 := HM2.out
        have hb6 : Bl encM 4 64 w5 gb (c * 4) (keep f l) := by
          rw [hm2, List.take_left] at hb5
          exact hb5
        refine ⟨by rw [← hm2]; rfl, .inr ⟨gb, rfl, hgB, by omega, hcm, hb6⟩, grown_trans HG3.out hg5 (.inl rfl)⟩
end Go.Proofs.Ytlgfmnognhojnaa

/- Timers: what is asked of the arguments, what is expired; ExpireTable, walked. -/
namespace Go.Proofs.Ytlgfmnognhojnaa
open Go.RowKit
theorem impl_timed (A : Option Addr) (c n : Nat) (l : List Mp) (now hold : Int) (w : World) (hn : n = l.length) (hl : l.length ≤ 2000000) (hs : Sl encM 4 w A c l) :
    Calls Try.prog 34 #[.slice A n c, .int .i64 now, .int .i64 hold] w (Ret w (.bool (tim l now hold))) := by
  subst hn
  have HS := Lib.hid hs
  clear hs
  unfold tim
  cases h1 : vM l <;> cases h2 : inR now 0 10000
  all_goals
    have H1 := Lib.hid h1
    have H2 := Lib.hid h2
    clear h1 h2
    go_enter Try.func34, Try.ntmps34
    go_wp2_with (first | (go_at_call 20; refine (impl_ValidTable _ _ _ _ _ rfl hl HS.out).mono ?_; rintro e w2 ⟨rfl, hb2⟩; rw [H1.out]) | (go_at_call 58; refine (impl_isTime _ _).mono ?_; rintro e w' ⟨rfl, rfl⟩; rw [H2.out]) | (go_at_call 26; refine (impl_in _ _ _ _).mono ?_; rintro e w' ⟨rfl, rfl⟩))
    go_ret
    exact ⟨by simp, hb2⟩
theorem spec_validTimer (now hold : Int) (w : World) :
    Calls Try.prog 98 #[.int .i64 now, .int .i64 hold] w (Same w (.bool (inR now 0 10000 && inR hold 1 500))) := by
  cases h2 : inR now 0 10000
  all_goals
    have H2 := Lib.hid h2
    clear h2
    go_enter Try.func98, Try.ntmps98
    go_wp2_with (first | (go_at_call 31; refine (spec_inRange _ _ _ _).mono ?_; rintro e w' ⟨rfl, rfl⟩; try rw [H2.out]))
    go_ret
    exact ⟨by simp, rfl⟩
/-- What the program's test says for any numbers. -/
def wexq (now hold : Int) (x : Mp) : Bool := decide (hold ≤ wrap64 (now - x.l))
theorem wexq_eq {now hold : Int} {x : Mp} (h0 : 0 ≤ now) (h1 : now ≤ 10000) (t0 : 0 ≤ x.l) (t1 : x.l ≤ 10000) : wexq now hold x = exq now hold x := by
  unfold wexq exq
  have : wrap64 (now - x.l) = now - x.l := by unfold wrap64; omega
  rw [this]
theorem impl_expired (a q p t now hold : Int) (w : World) :
    Calls Try.prog 39 #[.agg #[.int .i64 a, .int .i64 q, .int .i64 p, .int .i64 t], .int .i64 now, .int .i64 hold] w (Ret w (.bool (wexq now hold ⟨a, q, p, t⟩))) := by
  go_enter Try.func39, Try.ntmps39
  go_wp2
  go_ret
  exact ⟨rfl, (Below.refl _ _).alloc (Nat.le_refl _) _⟩
theorem spec_expired (a q p t now hold : Int) (w : World) (h0 : 0 ≤ now) (h1 : now ≤ 10000) (t0 : 0 ≤ t) (t1 : t ≤ 10000) :
    Calls Try.prog 76 #[.agg #[.int .i64 a, .int .i64 q, .int .i64 p, .int .i64 t], .int .i64 now, .int .i64 hold] w (Ret w (.bool (exq now hold ⟨a, q, p, t⟩))) := by
  go_enter Try.func76, Try.ntmps76
  go_wp2
  go_ret
  exact ⟨rfl, (Below.refl _ _).alloc (Nat.le_refl _) _⟩
theorem impl_ExpireTable_1 (a q p t now hold : Int) (bn bh : Nat) (W : World) (h1 : W.cell? ⟨bn, 0, none⟩ = some (.int .i64 now)) (h2 : W.cell? ⟨bh, 0, none⟩ = some (.int .i64 hold)) :
    Calls Try.prog 38 #[.agg #[.int .i64 a, .int .i64 q, .int .i64 p, .int .i64 t], .pointer (some ⟨bn, 0, none⟩), .pointer (some ⟨bh, 0, none⟩)] W (Ret W (.bool (wexq now hold ⟨a, q, p, t⟩))) := by
  have l1 := World.block_lt_of_cell? _ _ h1
  have l2 := World.block_lt_of_cell? _ _ h2
  simp only [] at l1 l2
  have hb : Below W.heap.size W (W.alloc (.cells #[.int .i64 a, .int .i64 q, .int .i64 p, .int .i64 t] 64)) := (Below.refl _ _).alloc (Nat.le_refl _) _
  have HB := Lib.hid hb
  clear hb
  go_enter Try.func38, Try.ntmps38
  go_wp2_with fail
  refine (impl_expired _ _ _ _ _ _ _).mono ?_
  rintro e w2 ⟨rfl, hb2⟩
  go_wp2
  go_ret
  exact ⟨rfl, bstep HB.out hb2 HB.out.size⟩
theorem keep_wexq {l : List Mp} {now hold : Int} (h : tim l now hold = true) : keep (wexq now hold) l = expV l now hold := by
  obtain ⟨hv, hn, _⟩ := tim_iff.1 h
  unfold expV keep
  rw [if_pos h]
  refine List.filter_congr fun x hx => ?_
  have := last_in hv hx
  rw [wexq_eq hn.1 hn.2 this.1 this.2]
set_option maxHeartbeats 2000000 in
theorem impl_ExpireTable (A : Option Addr) (c n : Nat) (l : List Mp) (now hold : Int) (w : World) (hn : n = l.length) (hl : l.length ≤ 2000000) (hs : Sl encM 4 w A c l) :
    Calls Try.prog 13 #[.slice A n c, .int .i64 now, .int .i64 hold] w (fun e w' => ∃ A', e = .returned (.slice A' (expV l now hold).length (expV l now hold).length) ∧ Out encM 4 w.heap.size w' A' (expV l now hold).length (expV l now hold) ∧ Below w.heap.size w w') := by
  subst hn
  obtain ⟨wq, hwq⟩ : ∃ x, x = (w.alloc (.cells #[.int .i64 now] 3)).alloc (.cells #[.int .i64 hold] 3) := ⟨_, rfl⟩
  have hq : Below w.heap.size w wq := by subst hwq; exact ((Below.refl _ _).alloc (Nat.le_refl _) _).alloc (by simp) _
  have hwz : wq.heap.size = w.heap.size + 1 + 1 := by subst hwq; simp
  have hzz : w.heap.size < wq.heap.size := by omega
  have hzz1 : w.heap.size + 1 < wq.heap.size := by omega
  have b0 : ∀ W, Below wq.heap.size wq W → W.cell? ⟨w.heap.size, 0, none⟩ = some (.int .i64 now) := fun W h => bcell h hzz (by
    subst hwq
    exact bcell ((Below.refl _ _).alloc (Nat.le_refl _) _) (by simp) (cell_of_row _ _ _ _ _ _ (heap_alloc_new _ _)))
  have b1 : ∀ W, Below wq.heap.size wq W → W.cell? ⟨w.heap.size + 1, 0, none⟩ = some (.int .i64 hold) := fun W h => bcell h hzz1 (by
    subst hwq
    have := heap_alloc_new (w.alloc (.cells #[.int .i64 now] 3)) (.cells #[.int .i64 hold] 3)
    rw [alloc_size] at this
    exact cell_of_row _ _ _ _ _ _ this)
  have hmf : ∀ (fn : Fn) (first cap : Array Value) (w : World), (Instr.makeFunc fn first cap).run Try.prog w = .ok (.func fn first cap) w := fun _ _ _ _ => rfl
  have WQ := Lib.hid hwq
  have SL := Lib.hid (fun W (h : Below wq.heap.size wq W) => hs.below (hq.trans (h.mono hq.size)))
  have CL := Lib.hid (fun W (h : Below wq.heap.size wq W) (a q p t : Int) => impl_ExpireTable_1 a q p t now hold w.heap.size (w.heap.size + 1) W (b0 W h) (b1 W h))
  have d0 := b0 wq (Below.refl _ _)
  have d1 := b1 wq (Below.refl _ _)
  have hk : Below wq.heap.size wq wq := Below.refl _ _
  cases ht : tim l now hold
  · have hr : expV l now hold = [] := by unfold expV; rw [ht]; rfl
    rw [hr]
    have HT := Lib.hid ht
    clear hwq hwz hs b0 b1 ht hr
    go_enter Try.func13, Try.ntmps13
    go_wp2_with fail
    rw [← WQ.out]
    go_wp2_with (first | (go_at_call 34; refine (impl_timed _ _ _ _ _ _ _ rfl hl (SL.out _ hk)).mono ?_; rintro e w2 ⟨rfl, hb2⟩; rw [HT.out]))
    go_ret
    exact ⟨none, rfl, ⟨Sl.nil, Fr.nil⟩, hq.trans (hb2.mono hq.size)⟩
  · have KW := Lib.hid (keep_wexq ht)
    have HT := Lib.hid ht
    clear hwq hwz hs b0 b1 ht
    go_enter Try.func13, Try.ntmps13
    go_wp2_with fail
    rw [← WQ.out]
    go_wp2_with (first | (go_at_call 34; refine (impl_timed _ _ _ _ _ _ _ rfl hl (SL.out _ hk)).mono ?_; rintro e w2 ⟨rfl, hb2⟩; rw [HT.out]) | (go_at_call 37; refine (Clone_mt _ _ _ _ _ rfl hl (SL.out _ hb2)).mono ?_; rintro e w5 ⟨A1, c1, rfl, hown1, hb5⟩) | (go_at_call 36; refine (DeleteFunc_mt _ _ w2.heap.size _ 38 #[.pointer (some ⟨w.heap.size, 0, none⟩), .pointer (some ⟨w.heap.size + 1, 0, none⟩)] (wexq now hold) _ hl hown1 hb5.size (fun _ _ => by kernel_rfl) (fun a q p t W hW => CL.out W (hb2.trans ((below_app hb5 hW hb5.size (fun g hg => (hown1.blk g hg).1)).mono hb2.size)) a q p t)).mono ?_; rintro e w6 ⟨rfl, how6, hg6⟩; have hk6 : Below w2.heap.size w2 w6 := below_app hb5 hg6 hb5.size (fun g hg => (hown1.blk g hg).1); have hm6 := how6.capm; have hl6 := how6.le) | (go_at_call 35; refine (Clip_mt _ _ _ _ hl6 hm6).mono ?_; rintro e w' ⟨rfl, rfl⟩))
    go_ret
    rw [KW.out] at how6 ⊢
    have ho : Out encM 4 w2.heap.size w6 A1 _ _ := ⟨how6.sl.cap, how6.fr⟩
    exact ⟨A1, rfl, ho.mono (Nat.le_trans hq.size hb2.size), hq.trans ((hb2.trans (hk6.mono hb2.size)).mono hq.size)⟩
set_option maxHeartbeats 2000000 in
theorem spec_expire (A : Option Addr) (c n : Nat) (l : List Mp) (now hold : Int) (w : World) (hn : n = l.length) (hl : l.length ≤ 2000000) (h0 : 0 ≤ now) (h1 : now ≤ 10000) (hL : ∀ x ∈ l, 0 ≤ x.l ∧ x.l ≤ 10000) (hs : Sl encM 4 w A c l) :
    Calls Try.prog 81 #[.slice A n c, .int .i64 now, .int .i64 hold] w (fun e w' => ∃ A' c', e = .returned (.slice A' (keep (exq now hold) l).length c') ∧ Ow encM 4 64 w.heap.size w' A' c' (keep (exq now hold) l) ∧ Below w.heap.size w w') := by
  subst hn
  have HS := Lib.hid hs
  have HLL := Lib.hid hL
  have hwa : Below w.heap.size w (w.alloc (.cells #[] 64)) := (Below.refl _ _).alloc (Nat.le_refl _) _
  have hwo : Ow encM 4 64 w.heap.size (w.alloc (.cells #[] 64)) (some ⟨w.heap.size, 0, none⟩) 0 ([] : List Mp) := Ow.empty w (Nat.le_refl _)
  have HWO := Lib.hid hwo
  clear hs hwo hL
  go_enter Try.func81, Try.ntmps81
  go_wp2
  go_loopw [7, 8] (fun out i wr => ∃ (n : Nat) (A' : Option Addr) (c' : Nat), n ≤ l.length ∧ i = .int .i64 n ∧ out = .slice A' (keep (exq now hold) (l.take n)).length c' ∧ Ow encM 4 64 w.heap.size wr A' c' (keep (exq now hold) (l.take n)) ∧ Below w.heap.size w wr) (fun _ i _ => l.length - (intOf i).toNat)
  case atStart => exact ⟨0, _, _, Nat.zero_le _, rfl, rfl, HWO.out, hwa⟩
  case round =>
    obtain ⟨n, A1, c1, hn, rfl, rfl, hown, hb⟩ := hrel
    have HO := Lib.hid hown
    clear hwa hown
    by_cases hlt : n < l.length
    · obtain ⟨b, o, rfl, hbs, hc⟩ := HS.out.base hlt
      obtain ⟨a, q, p, t, hx⟩ := mt_at hlt
      obtain ⟨t0, t1⟩ := HLL.out _ (List.mem_of_getElem? hx)
      simp only at t0 t1
      obtain ⟨d0, d1, d2, d3⟩ := hc.mt hb hbs hx
      have hF := keep_snoc (f := exq now hold) hx
      have hFl : (keep (exq now hold) (l.take n)).length ≤ (l.take n).length := List.length_filter_le _ _
      rw [List.length_take, Nat.min_eq_left hn] at hFl
      have KF := Lib.hid hF
      have X := Lib.hid hx
      have HC := Lib.hid hc
      clear hc hx hF
      cases hv : exq now hold ⟨a, q, p, t⟩
      · have HV := Lib.hid hv
        clear hv
        go_wp2_with (first | (go_at_call 76; refine (spec_expired _ _ _ _ _ _ _ h0 h1 t0 t1).mono ?_; rintro e w2 ⟨rfl, hb2⟩; rw [HV.out]; have hb3 := bstep hb hb2 hb.size; obtain ⟨e0, e1, e2, e3⟩ := HC.out.mt hb3 hbs X.out; have hwb : Below w2.heap.size w2 (w2.alloc (.cells #[.int .i64 a, .int .i64 q, .int .i64 p, .int .i64 t] 64)) := (Below.refl _ _).alloc (Nat.le_refl _) _) | (with_reducible refine wpList_app elM rfl (.tmp 24) (.tmp 29) rfl w.heap.size _ _ _ (keep (exq now hold) (l.take n)) rfl rfl ((HO.out.below hb2).alloc _) _ _ _ [⟨a, q, p, t⟩] rfl rfl (blM w2 a q p t).sl ?c1 (by decide) (Nat.le_trans hb3.size hwb.size) ?_))
        case c1 => first | omega | (simp; omega)
        intro A7 c7 w7 hown7 hg7 _
        have hb7 : Below w.heap.size w w7 := below_app (hb3.alloc hb3.size _) hg7 (Nat.le_trans hb3.size hwb.size) (fun g hg => (HO.out.blk g hg).1)
        go_wp2
        go_roundw
        case rel =>
          have hF := KF.out
          rw [HV.out] at hF
          simp only [Bool.false_eq_true, if_false] at hF
          exact ⟨n + 1, A7, c7, by omega, by go_num, by rw [hF, List.length_append]; rfl, by rw [hF]; exact hown7, hb7⟩
        case measure => simp [intOf]; omega
      · have HV := Lib.hid hv
        clear hv
        go_wp2_with (first | (go_at_call 76; refine (spec_expired _ _ _ _ _ _ _ h0 h1 t0 t1).mono ?_; rintro e w2 ⟨rfl, hb2⟩; rw [HV.out]))
        go_roundw
        case rel =>
          have hF := KF.out
          rw [HV.out, if_pos rfl, List.append_nil] at hF
          exact ⟨n + 1, A1, c1, by omega, by go_num, by rw [hF], by rw [hF]; exact HO.out.below hb2, bstep hb hb2 hb.size⟩
        case measure => simp [intOf]; omega
    · have hnl : n = l.length := by omega
      have HN := Lib.hid hnl
      clear hnl
      go_wp2
      go_ret
      have h := HO.out
      rw [HN.out, List.take_length] at h
      exact ⟨A1, c1, by rw [HN.out, List.take_length]; rfl, h, hb⟩
end Go.Proofs.Ytlgfmnognhojnaa

/- ExpiredPorts, NextExpiry, TouchPort: the program's and the reference's, walked. -/
namespace Go.Proofs.Ytlgfmnognhojnaa
open Go.RowKit
theorem elI : ElT Try.prog 54 3 encI 1 8 0 where
  ht := Try.underlying54
  hi := by
    obtain ⟨i, h1, h2, h3, h4⟩ := info_parts (P := Try.prog) (e := 3) (z := .int .i64 0) (size := 1) (bytes := 8) (by kernel_rfl)
    exact ⟨i, _, h1, h2, rfl, h3, h4⟩
  hk := fun _ => rfl
  h1 := fun x u hu => by simp [encI] at hu; subst hu; rfl
  k0 := by decide
theorem blI (w : World) (x : Int) : Bl encI 1 3 (w.alloc (.cells #[.int .i64 x] 3)) w.heap.size 1 [x] := Bl.one (enc := encI) (k := 1) (fun _ => rfl) w _ rfl
theorem Clip_in (A : Option Addr) (c n : Nat) (w : World) (hn : n ≤ c) (hc : c ≤ maxLen) :
    Calls Try.prog 66 #[.slice A n c] w (Same w (.slice A n n)) := by
  unfold maxLen at hc
  go_enter Try.func66, Try.ntmps66
  go_wp2
  go_ret
  exact ⟨rfl, rfl⟩
set_option maxHeartbeats 2000000 in
theorem spec_ExpiredPorts (A : Option Addr) (c n : Nat) (l : List Mp) (now hold : Int) (w : World) (hn : n = l.length) (hl : l.length ≤ 2000000) (hs : Sl encM 4 w A c l) :
    Calls Try.prog 79 #[.slice A n c, .int .i64 now, .int .i64 hold] w (fun e w' => ∃ A' c', e = .returned (.slice A' (goneV l now hold).length c') ∧ Ow encI 1 3 w.heap.size w' A' c' (goneV l now hold) ∧ Below w.heap.size w w') := by
  subst hn
  obtain ⟨wa, hwq⟩ : ∃ x, x = w.alloc (.cells #[] 3) := ⟨_, rfl⟩
  have hq : Below w.heap.size w wa := by subst hwq; exact (Below.refl _ _).alloc (Nat.le_refl _) _
  have hwo : Ow encI 1 3 w.heap.size wa (some ⟨w.heap.size, 0, none⟩) 0 ([] : List Int) := by subst hwq; exact Ow.empty w (Nat.le_refl _)
  have HWO := Lib.hid hwo
  have SL := Lib.hid (fun W (h : Below w.heap.size w W) => hs.below h)
  have hk := hq
  have WQ := Lib.hid hwq
  clear hs hwo hwq
  cases h1 : vM l
  · have hr : goneV l now hold = [] := by unfold goneV tim; rw [h1]; rfl
    rw [hr]
    have H1 := Lib.hid h1
    clear h1 hr
    go_enter Try.func79, Try.ntmps79
    go_wp2_with fail
    rw [← WQ.out]
    refine (spec_validTable _ _ _ _ _ rfl hl (SL.out _ hk)).mono ?_
    rintro e w2 ⟨rfl, hb2⟩
    rw [H1.out]
    go_wp2
    go_ret
    exact ⟨none, 0, rfl, Ow.nil, bstep hq hb2 hq.size⟩
  cases h2 : (inR now 0 10000 && inR hold 1 500)
  · have hr : goneV l now hold = [] := by unfold goneV tim; rw [h1, h2]; rfl
    rw [hr]
    have H1 := Lib.hid h1
    have H2 := Lib.hid h2
    clear h1 h2 hr
    go_enter Try.func79, Try.ntmps79
    go_wp2_with fail
    rw [← WQ.out]
    refine (spec_validTable _ _ _ _ _ rfl hl (SL.out _ hk)).mono ?_
    rintro e w2 ⟨rfl, hb2⟩
    rw [H1.out]
    go_wp2_with (first | (go_at_call 98; refine (spec_validTimer _ _ _).mono ?_; rintro e w' ⟨rfl, rfl⟩; rw [H2.out]))
    go_ret
    exact ⟨none, 0, rfl, Ow.nil, bstep hq hb2 hq.size⟩
  have ht : tim l now hold = true := by unfold tim; rw [h1, h2]; rfl
  have hr : goneV l now hold = goneOf now hold l := by unfold goneV; rw [ht]; rfl
  rw [hr]
  obtain ⟨hv, ⟨hn0, hn1⟩, _⟩ := tim_iff.1 ht
  have HLL := Lib.hid (fun x hx => last_in hv (x := x) hx)
  have H1 := Lib.hid h1
  have H2 := Lib.hid h2
  clear h1 h2 hr hv ht
  go_enter Try.func79, Try.ntmps79
  go_wp2_with fail
  rw [← WQ.out]
  refine (spec_validTable _ _ _ _ _ rfl hl (SL.out _ hk)).mono ?_
  rintro e w2 ⟨rfl, hb2⟩
  rw [H1.out]
  have hwo2 := HWO.out.below (hb2.mono (Nat.le_refl _))
  have HW2 := Lib.hid hwo2
  have hB2 := bstep hq hb2 hq.size
  clear hwo2
  go_wp2_with (first | (go_at_call 98; refine (spec_validTimer _ _ _).mono ?_; rintro e w' ⟨rfl, rfl⟩; rw [H2.out]))
  go_loopw [7, 8] (fun out i wr => ∃ (n : Nat) (A' : Option Addr) (c' : Nat), n ≤ l.length ∧ i = .int .i64 n ∧ out = .slice A' (goneOf now hold (l.take n)).length c' ∧ Ow encI 1 3 w.heap.size wr A' c' (goneOf now hold (l.take n)) ∧ Below w.heap.size w wr) (fun _ i _ => l.length - (intOf i).toNat)
  case atStart => exact ⟨0, _, _, Nat.zero_le _, rfl, rfl, HW2.out, hB2⟩
  case round =>
    obtain ⟨n, A1, c1, hn, rfl, rfl, hown, hb⟩ := hrel
    have HO := Lib.hid hown
    clear hB2 hb2 hown
    by_cases hlt : n < l.length
    · obtain ⟨b, o, hAe, hbs, hc⟩ := (SL.out wr hb).base hlt
      subst hAe
      obtain ⟨a, q, p, t, hx⟩ := mt_at hlt
      obtain ⟨t0, t1⟩ := HLL.out _ (List.mem_of_getElem? hx)
      simp only at t0 t1
      obtain ⟨d0, d1, d2, d3⟩ := hc.mt (Below.refl _ _) hbs hx
      have hF := goneOf_snoc (now := now) (hold := hold) hx
      have hFl : (goneOf now hold (l.take n)).length ≤ (l.take n).length := goneOf_len _ _ _
      rw [List.length_take, Nat.min_eq_left hn] at hFl
      have KF := Lib.hid hF
      have X := Lib.hid hx
      have HC := Lib.hid hc
      clear hc hx hF
      cases hv : exq now hold ⟨a, q, p, t⟩
      · have HV := Lib.hid hv
        clear hv
        go_wp2_with (first | (go_at_call 76; refine (spec_expired _ _ _ _ _ _ _ hn0 hn1 t0 t1).mono ?_; rintro e w2 ⟨rfl, hb2⟩; rw [HV.out]))
        go_roundw
        case rel =>
          have hF := KF.out
          rw [HV.out] at hF
          simp only [Bool.false_eq_true, if_false, List.append_nil] at hF
          exact ⟨n + 1, A1, c1, by omega, by go_num, by rw [hF], by rw [hF]; exact HO.out.below hb2, bstep hb hb2 hb.size⟩
        case measure => simp [intOf]; omega
      · have HV := Lib.hid hv
        clear hv
        go_wp2_with (first | (go_at_call 76; refine (spec_expired _ _ _ _ _ _ _ hn0 hn1 t0 t1).mono ?_; rintro e w2 ⟨rfl, hb2⟩; rw [HV.out]; have hb3 := bstep hb hb2 hb.size; obtain ⟨e0, e1, e2, e3⟩ := HC.out.mt (hb2.mono (Nat.le_refl _)) hbs X.out; have hwb : Below w2.heap.size w2 (w2.alloc (.cells #[.int .i64 p] 3)) := (Below.refl _ _).alloc (Nat.le_refl _) _) | (with_reducible refine wpList_app elI rfl (.tmp 32) (.tmp 38) rfl w.heap.size _ _ _ (goneOf now hold (l.take n)) rfl rfl ((HO.out.below hb2).alloc _) _ _ _ [p] rfl rfl (blI w2 p).sl ?c1 (by decide) (Nat.le_trans hb3.size hwb.size) ?_))
        case c1 => first | omega | (simp; omega)
        intro A7 c7 w7 hown7 hg7 _
        have hb7 : Below w.heap.size w w7 := below_app (hb3.alloc hb3.size _) hg7 (Nat.le_trans hb3.size hwb.size) (fun g hg => (HO.out.blk g hg).1)
        go_wp2
        go_roundw
        case rel =>
          have hF := KF.out
          rw [HV.out] at hF
          simp only [if_true] at hF
          exact ⟨n + 1, A7, c7, by omega, by go_num, by rw [hF, List.length_append]; rfl, by rw [hF]; exact hown7, hb7⟩
        case measure => simp [intOf]; omega
    · have hnl : n = l.length := by omega
      have HN := Lib.hid hnl
      clear hnl
      go_wp2
      go_ret
      have h := HO.out
      rw [HN.out, List.take_length] at h
      exact ⟨A1, c1, by rw [HN.out, List.take_length]; rfl, h, hb⟩
set_option maxHeartbeats 2000000 in
theorem impl_ExpiredPorts (A : Option Addr) (c n : Nat) (l : List Mp) (now hold : Int) (w : World) (hn : n = l.length) (hl : l.length ≤ 2000000) (hs : Sl encM 4 w A c l) :
    Calls Try.prog 28 #[.slice A n c, .int .i64 now, .int .i64 hold] w (fun e w' => ∃ A', e = .returned (.slice A' (goneV l now hold).length (goneV l now hold).length) ∧ Out encI 1 w.heap.size w' A' (goneV l now hold).length (goneV l now hold) ∧ Below w.heap.size w w') := by
  subst hn
  have SL := Lib.hid (fun W (h : Below w.heap.size w W) => hs.below h)
  have hk : Below w.heap.size w w := Below.refl _ _
  clear hs
  cases ht : tim l now hold
  · have hr : goneV l now hold = [] := by unfold goneV; rw [ht]; rfl
    rw [hr]
    have HT := Lib.hid ht
    clear ht hr
    go_enter Try.func28, Try.ntmps28
    go_wp2_with (first | (go_at_call 34; refine (impl_timed _ _ _ _ _ _ _ rfl hl (SL.out _ hk)).mono ?_; rintro e w2 ⟨rfl, hb2⟩; rw [HT.out]))
    go_ret
    exact ⟨none, rfl, ⟨Sl.nil, Fr.nil⟩, hb2⟩
  have hr : goneV l now hold = goneOf now hold l := by unfold goneV; rw [ht]; rfl
  rw [hr]
  obtain ⟨hv, ⟨hn0, hn1⟩, _⟩ := tim_iff.1 ht
  have HLL := Lib.hid (fun x hx => last_in hv (x := x) hx)
  have HT := Lib.hid ht
  clear ht hr hv
  go_enter Try.func28, Try.ntmps28
  go_wp2_with (first | (go_at_call 34; refine (impl_timed _ _ _ _ _ _ _ rfl hl (SL.out _ hk)).mono ?_; rintro e w2 ⟨rfl, hb2⟩; rw [HT.out]))
  go_loopw [7, 17] (fun out i wr => ∃ (n : Nat) (A' : Option Addr) (c' : Nat), n ≤ l.length ∧ i = .int .i64 n ∧ out = .slice A' (goneOf now hold (l.take n)).length c' ∧ Ow encI 1 3 w.heap.size wr A' c' (goneOf now hold (l.take n)) ∧ Below w.heap.size w wr) (fun _ i _ => l.length - (intOf i).toNat)
  case atStart => exact ⟨0, _, _, Nat.zero_le _, rfl, rfl, Ow.nil, hb2⟩
  case round =>
    obtain ⟨n, A1, c1, hn, rfl, rfl, hown, hb⟩ := hrel
    have HO := Lib.hid hown
    clear hb2 hown hk
    have hFl : (goneOf now hold (l.take n)).length ≤ (l.take n).length := goneOf_len _ _ _
    rw [List.length_take, Nat.min_eq_left hn] at hFl
    by_cases hlt : n < l.length
    · obtain ⟨b, o, hAe, hbs, hc⟩ := (SL.out wr hb).base hlt
      subst hAe
      obtain ⟨a, q, p, t, hx⟩ := mt_at hlt
      obtain ⟨t0, t1⟩ := HLL.out _ (List.mem_of_getElem? hx)
      simp only at t0 t1
      obtain ⟨d0, d1, d2, d3⟩ := hc.mt (Below.refl _ _) hbs hx
      have hF := goneOf_snoc (now := now) (hold := hold) hx
      have hwx := wexq_eq (x := ⟨a, q, p, t⟩) (hold := hold) hn0 hn1 t0 t1
      have hwb : Below wr.heap.size wr (wr.alloc (.cells #[.int .i64 a, .int .i64 q, .int .i64 p, .int .i64 t] 64)) := (Below.refl _ _).alloc (Nat.le_refl _) _
      have HWB := Lib.hid hwb
      have KF := Lib.hid hF
      clear hc hx hF hwb
      cases hv : exq now hold ⟨a, q, p, t⟩
      · rw [hv] at hwx
        have HV := Lib.hid hv
        have HW := Lib.hid hwx
        clear hv hwx
        go_wp2_with (first | (go_at_call 39; refine (impl_expired _ _ _ _ _ _ _).mono ?_; rintro e w2 ⟨rfl, hb2⟩; rw [HW.out]))
        go_roundw
        case rel =>
          have hF := KF.out
          rw [HV.out] at hF
          simp only [Bool.false_eq_true, if_false, List.append_nil] at hF
          have hbb := hb.trans ((bstep HWB.out hb2 HWB.out.size).mono hb.size)
          exact ⟨n + 1, A1, c1, by omega, by go_num, by rw [hF], by rw [hF]; exact (HO.out.alloc _).below hb2, hbb⟩
        case measure => simp [intOf]; omega
      · rw [hv] at hwx
        have HV := Lib.hid hv
        have HW := Lib.hid hwx
        clear hv hwx
        go_wp2_with (first | (go_at_call 39; refine (impl_expired _ _ _ _ _ _ _).mono ?_; rintro e w2 ⟨rfl, hb2⟩; rw [HW.out]; have hb3 := hb.trans ((bstep HWB.out hb2 HWB.out.size).mono hb.size); obtain ⟨⟨e0, e1, e2, e3⟩, hz2⟩ := one_belowM hb2; have hwb : Below w2.heap.size w2 (w2.alloc (.cells #[.int .i64 p] 3)) := (Below.refl _ _).alloc (Nat.le_refl _) _) | (with_reducible refine wpList_app elI rfl (.tmp 25) (.tmp 28) rfl w.heap.size _ _ _ (goneOf now hold (l.take n)) rfl rfl (((HO.out.alloc _).below hb2).alloc _) _ _ _ [p] rfl rfl (blI w2 p).sl ?c1 (by decide) (Nat.le_trans hb3.size hwb.size) ?_))
        case c1 => first | omega | (simp; omega)
        intro A7 c7 w7 hown7 hg7 _
        have hb7 : Below w.heap.size w w7 := below_app (hb3.alloc hb3.size _) hg7 (Nat.le_trans hb3.size hwb.size) (fun g hg => (HO.out.blk g hg).1)
        go_wp2
        go_roundw
        case rel =>
          have hF := KF.out
          rw [HV.out] at hF
          simp only [if_true] at hF
          exact ⟨n + 1, A7, c7, by omega, by go_num, by rw [hF, List.length_append]; rfl, by rw [hF]; exact hown7, hb7⟩
        case measure => simp [intOf]; omega
    · have hnl : n = l.length := by omega
      subst hnl
      rw [List.take_length] at *
      have h := HO.out
      have hm := h.capm
      have hle := h.le
      have H := Lib.hid h
      clear h
      go_wp2_with (first | (go_at_call 66; refine (Clip_in _ _ _ _ hle hm).mono ?_; rintro e w' ⟨rfl, rfl⟩))
      go_ret
      exact ⟨A1, rfl, ⟨H.out.sl.cap, H.out.fr⟩, hb⟩
end Go.Proofs.Ytlgfmnognhojnaa

/- The statements' own helpers on slices of numbers: comparisons, marks. -/
namespace Go.Proofs.Ytlgfmnognhojnaa
open Go.RowKit
theorem Row.inn {w w' : World} {b o i B : Nat} {l : List Int} {x : Int} (h : Row encI 1 w b o l) (hb : Below B w w') (hB : b < B) (hi : l[i]? = some x) : w'.cell? ⟨b, o + i, none⟩ = some (.int .i64 x) := by
  have := (h.below hb hB) i x hi 0 _ rfl
  simpa using this
def markI (k : Int) : Nat → List Int
  | 0 => []
  | n + 1 => k :: markI (k + 1) n
theorem markI_len (k : Int) (n : Nat) : (markI k n).length = n := by
  induction n generalizing k with
  | zero => rfl
  | succ n ih => simp [markI, ih]
theorem markI_get (k : Int) (n i : Nat) (h : i < n) : (markI k n)[i]? = some (k + i) := by
  induction n generalizing k i with
  | zero => omega
  | succ n ih =>
    cases i with
    | zero => simp [markI]
    | succ i =>
      simp only [markI, List.getElem?_cons_succ]
      rw [ih _ _ (by omega)]
      congr 1
      push_cast
      omega
theorem markI_snoc (k : Int) (j : Nat) : markI k (j + 1) = markI k j ++ [k + j] := by
  induction j generalizing k with
  | zero => simp [markI]
  | succ j ih =>
    rw [markI, ih]
    conv => rhs; rw [markI]
    simp only [List.cons_append]
    congr 3
    push_cast
    omega
theorem markI_set0 {k : Int} {j : Nat} {l : List Int} {x : Int} (h : l[j]? = some x) : (markI k j ++ l.drop j)[j]? = some x := by
  rw [List.getElem?_append_right (by rw [markI_len]; omega), markI_len, Nat.sub_self, List.getElem?_drop]
  simpa using h
theorem markI_set {k : Int} {j : Nat} {l : List Int} (h : j < l.length) : (markI k j ++ l.drop j).set j (k + j) = markI k (j + 1) ++ l.drop (j + 1) := by
  rw [List.set_append_right j _ (by rw [markI_len]; omega), markI_len, Nat.sub_self, markI_snoc, List.append_assoc]
  congr 1
  rw [List.drop_eq_getElem_cons h]
  rfl
theorem Row.store1 {W : World} {b o i : Nat} {L : List Int} {x : Int} (h : Row encI 1 W b o L) (hi : L[i]? = some x) (y : Int) : Row encI 1 (W.setCell ⟨b, o + i, none⟩ (.int .i64 y)) b o (L.set i y) := by
  have := h.store (x := x) (x' := y) (u := .int .i64 y) (j := 0) (fun _ => rfl) hi (by decide) rfl
  simpa using this
end Go.Proofs.Ytlgfmnognhojnaa

/- The contracts on timers, as the statements' walks take them: each result under a name of its own. -/
namespace Go.Proofs.Ytlgfmnognhojnaa
open Go.RowKit
section
variable {A : Option Addr} {c n m : Nat} {l L : List Mp} {I : List Int} {w : World} {r : Bool} {now hold v port : Int}
theorem impl_ET (hR : expV l now hold = L) (hm : L.length = m) (hn : n = l.length) (hl : l.length ≤ 2000000) (hs : Sl encM 4 w A c l) :
    Calls Try.prog 13 #[.slice A n c, .int .i64 now, .int .i64 hold] w (fun e w' => ∃ A', e = .returned (.slice A' m m) ∧ Out encM 4 w.heap.size w' A' m L ∧ Below w.heap.size w w') := by
  subst hm
  subst hR
  exact impl_ExpireTable A c n l now hold w hn hl hs
theorem impl_EP (hR : goneV l now hold = I) (hm : I.length = m) (hn : n = l.length) (hl : l.length ≤ 2000000) (hs : Sl encM 4 w A c l) :
    Calls Try.prog 28 #[.slice A n c, .int .i64 now, .int .i64 hold] w (fun e w' => ∃ A', e = .returned (.slice A' m m) ∧ Out encI 1 w.heap.size w' A' m I ∧ Below w.heap.size w w') := by
  subst hm
  subst hR
  exact impl_ExpiredPorts A c n l now hold w hn hl hs
theorem spec_EP (hR : goneV l now hold = I) (hm : I.length = m) (hn : n = l.length) (hl : l.length ≤ 2000000) (hs : Sl encM 4 w A c l) :
    Calls Try.prog 79 #[.slice A n c, .int .i64 now, .int .i64 hold] w (fun e w' => ∃ A' c', e = .returned (.slice A' m c') ∧ Ow encI 1 3 w.heap.size w' A' c' I ∧ Below w.heap.size w w') := by
  subst hm
  subst hR
  exact spec_ExpiredPorts A c n l now hold w hn hl hs
end
theorem keep_get {f : Mp → Bool} {l : List Mp} {k : Nat} {x : Mp} (h : l[k]? = some x) (hf : f x = false) : (keep f l)[(keep f (l.take k)).length]? = some x := by
  have e : keep f l = keep f (l.take k) ++ x :: keep f (l.drop (k + 1)) := by
    conv => lhs; rw [← List.take_append_drop k l, drop_cons h]
    unfold keep
    rw [List.filter_append, List.filter_cons, hf]
    rfl
  rw [e, List.getElem?_append_right (Nat.le_refl _), Nat.sub_self]
  rfl
theorem touchV_len (l : List Mp) (p now : Int) : (touchV l p now).length ≤ l.length := by
  cases h : touchO l p now
  · unfold touchV; rw [h]; simp
  · rw [touch_len h]; exact Nat.le_refl _
end Go.Proofs.Ytlgfmnognhojnaa
