/- Plain laws of contacts: what the statements say of the functions that the walks show. -/
import Derived.Test.YtnkdhpbbiilekaaCp
namespace Go.Proofs.Ytnkdhpbbiilekaa
open Go.RowKit
theorem vC_iff (l : List Ct) : vC l = true ↔ l.length ≤ 10 ∧ l.Nodup ∧ ∀ x ∈ l, okC x = true := by
  unfold vC; exact decide_eq_true_iff
theorem vC_sub {l l' : List Ct} (h : vC l = true) (hs : l'.Sublist l) : vC l' = true := by
  rw [vC_iff] at h ⊢
  exact ⟨Nat.le_trans hs.length_le h.1, hs.nodup h.2.1, fun x hx => h.2.2 x (hs.subset hx)⟩
theorem cut_sublist {α : Type} (l : List α) (k : Nat) : (l.take k ++ l.drop (k + 1)).Sublist l := by
  have h : (l.take k ++ l.drop (k + 1)).Sublist (l.take k ++ l.drop k) := by
    refine List.Sublist.append (List.Sublist.refl _) ?_
    rw [show k + 1 = k + 1 from rfl, ← List.drop_drop]
    exact List.drop_sublist 1 _
  rwa [List.take_append_drop] at h
theorem vC_cut {l : List Ct} (h : vC l = true) (k : Nat) : vC (l.take k ++ l.drop (k + 1)) = true := vC_sub h (cut_sublist l k)
theorem vC_again {l : List Ct} {x : Ct} (h : l[0]? = some x) : vC (l ++ [x]) = false := by
  have h0 := lt_of_get h
  refine vC_dup (k := l.length) (m := 0) (x := x) ?_ h0 ?_
  · rw [List.getElem?_append_right (Nat.le_refl _), Nat.sub_self]; rfl
  · rw [List.getElem?_append_left h0]; exact h
theorem lets_mem {kind port fa fq : Int} {l : List Ct} {x : Ct} (h : x ∈ l) (hp : letP kind port fa fq x = true) : lets kind l port fa fq = true := by
  unfold lets
  rw [List.any_eq_true.2 ⟨x, h, hp⟩, Bool.or_true]
theorem letsIn_none (l : List Ct) (port fa fq : Int) (h : vC l = true) : letsIn 0 l port fa fq = true := by
  unfold letsIn lets; rw [h]; rfl
theorem letsIn_weak (l : List Ct) (port fa fq : Int) (h : letsIn 2 l port fa fq = true) : letsIn 1 l port fa fq = true := by
  unfold letsIn at h ⊢
  simp only [Bool.and_eq_true] at h ⊢
  refine ⟨rfl, h.2.1, ?_⟩
  have h2 := h.2.2
  unfold lets at h2
  simp only [show ((2 : Int) == 0) = false from rfl, Bool.false_or, List.any_eq_true] at h2
  obtain ⟨x, hx, hp⟩ := h2
  refine lets_mem hx ?_
  unfold letP at hp ⊢
  simp only [Bool.and_eq_true] at hp ⊢
  exact ⟨hp.1, hp.2.1, rfl⟩
theorem letsIn_own {l : List Ct} {x : Ct} (h : vC l = true) (hx : x ∈ l) : letsIn 2 l x.p x.a x.q = true := by
  unfold letsIn
  rw [h, lets_mem hx (by simp [letP])]
  rfl
theorem letsIn_addr {l : List Ct} {x : Ct} (h : vC l = true) (hx : x ∈ l) (q : Int) : letsIn 1 l x.p x.a q = true := by
  unfold letsIn
  rw [h, lets_mem hx (by simp [letP])]
  rfl
theorem letsIn_empty (kind port fa fq : Int) : letsIn kind [] port fa fq = (kind == 0) := by
  unfold letsIn lets
  have : vC [] = true := rfl
  rw [this]
  cases h : (kind == 0)
  · simp
  · have : kind = 0 := by simpa using h
    subst this; rfl
/-! ### noting -/
theorem keep_sublist {α : Type} (f : α → Bool) (l : List α) : (keep f l).Sublist l := List.filter_sublist
theorem mem_keep {α : Type} {f : α → Bool} {l : List α} {x : α} : x ∈ keep f l ↔ x ∈ l ∧ f x = false := by
  unfold keep; rw [List.mem_filter]; simp
theorem keep_full {α : Type} {f : α → Bool} {l : List α} (h : (keep f l).length = l.length) : keep f l = l := (keep_sublist f l).eq_of_length h
def offC (l : List Ct) (x : Ct) : List Ct := keep (fun y => decide (y = x)) l
theorem noteC_def (l : List Ct) (x : Ct) : noteC l x = (offC l x ++ [x]).drop ((offC l x ++ [x]).length - 10) := rfl
theorem offC_nodup {l : List Ct} {x : Ct} (h : vC l = true) : (offC l x ++ [x]).Nodup := by
  have := (vC_iff l).1 h
  rw [List.nodup_append]
  refine ⟨(keep_sublist _ l).nodup this.2.1, by simp, ?_⟩
  intro a ha b hb
  simp at hb
  subst hb
  have := (mem_keep.1 ha).2
  simpa using this
theorem noteC_good {l : List Ct} {x : Ct} (h : vC l = true) (hx : okC x = true) : vC (noteC l x) = true := by
  have h' := (vC_iff l).1 h
  rw [noteC_def, vC_iff]
  refine ⟨by rw [List.length_drop]; omega, (List.drop_sublist _ _).nodup (offC_nodup h), ?_⟩
  intro y hy
  rcases List.mem_append.1 (List.mem_of_mem_drop hy) with hy | hy
  · exact h'.2.2 y (mem_keep.1 hy).1
  · simp at hy; subst hy; exact hx
theorem noteC_len {l : List Ct} {x : Ct} : (noteC l x).length ≤ 10 ∧ 1 ≤ (noteC l x).length ∧ (noteC l x).length ≤ l.length + 1 := by
  have := keep_len (fun y => decide (y = x)) l
  have e : (offC l x).length = (keep (fun y => decide (y = x)) l).length := rfl
  rw [noteC_def, List.length_drop, List.length_append, List.length_singleton]
  omega
theorem noteC_last (l : List Ct) (x : Ct) : (noteC l x)[(noteC l x).length - 1]? = some x := by
  have h1 := noteC_len (l := l) (x := x)
  rw [noteC_def] at h1 ⊢
  rw [List.length_drop, List.length_append, List.length_singleton] at h1 ⊢
  rw [List.getElem?_drop, List.getElem?_append_right (by omega)]
  rw [show (offC l x).length + 1 - 10 + ((offC l x).length + 1 - ((offC l x).length + 1 - 10) - 1) - (offC l x).length = 0 from by omega]
  rfl
theorem noteC_mem (l : List Ct) (x : Ct) : x ∈ noteC l x := List.mem_of_getElem? (noteC_last l x)
theorem noteC_stay {l : List Ct} {x y : Ct} {i : Nat} (h : vC l = true) (hy : l[i]? = some y) (hi : 0 < i ∨ l.length < 10) : y ∈ noteC l x := by
  by_cases e : y = x
  · subst e; exact noteC_mem l y
  have hl := ((vC_iff l).1 h).1
  have hk : y ∈ offC l x := mem_keep.2 ⟨List.mem_of_getElem? hy, by simpa using e⟩
  have hle := keep_len (fun y => decide (y = x)) l
  have e1 : (offC l x).length = (keep (fun y => decide (y = x)) l).length := rfl
  rw [noteC_def, List.length_append, List.length_singleton]
  by_cases h9 : (offC l x).length + 1 - 10 = 0
  · rw [h9, List.drop_zero]
    exact List.mem_append_left _ hk
  · have hfull : offC l x = l := keep_full (by omega)
    rw [hfull] at h9 ⊢
    rw [show l.length + 1 - 10 = 1 from by omega]
    rcases hi with hi | hi
    · refine List.mem_of_getElem? (i := i - 1) ?_
      rw [List.getElem?_drop, show 1 + (i - 1) = i from by omega, List.getElem?_append_left (lt_of_get hy)]
      exact hy
    · omega
theorem noteC_twice {l : List Ct} {x : Ct} (h : vC l = true) : noteC (noteC l x) x = noteC l x := by
  have hn := offC_nodup (x := x) h
  have hle := keep_len (fun y => decide (y = x)) l
  have hl := ((vC_iff l).1 h).1
  have e1 : (offC l x).length = (keep (fun y => decide (y = x)) l).length := rfl
  have e2 : offC (noteC l x) x ++ [x] = noteC l x := by
    obtain ⟨d, hd, hdl⟩ : ∃ d, noteC l x = (offC l x).drop d ++ [x] ∧ d ≤ (offC l x).length := by
      refine ⟨(offC l x ++ [x]).length - 10, ?_, ?_⟩
      · rw [noteC_def, List.drop_append_of_le_length]
        rw [List.length_append, List.length_singleton]; omega
      · rw [List.length_append, List.length_singleton]; omega
    rw [hd]
    unfold offC keep
    rw [List.filter_append, List.filter_eq_self.2]
    · simp
    · intro y hy
      have := (mem_keep.1 (List.mem_of_mem_drop hy)).2
      simpa using this
  have hlen := noteC_len (l := l) (x := x)
  rw [noteC_def (noteC l x), e2, show (noteC l x).length - 10 = 0 from by omega, List.drop_zero]
/-! ### dropping -/
theorem dropC_sub (l : List Ct) (p : Int) : (dropC l p).Sublist l := keep_sublist _ _
theorem dropV_good {l : List Ct} {p : Int} (h : vC l = true) : dropV l p = dropC l p ∧ vC (dropC l p) = true := ⟨by rw [dropV, h]; rfl, vC_sub h (dropC_sub l p)⟩
theorem dropC_comm (l : List Ct) (p p' : Int) : dropC (dropC l p) p' = dropC (dropC l p') p := by
  unfold dropC keep
  rw [List.filter_filter, List.filter_filter]
  congr 1
  funext y
  rw [Bool.and_comm]
theorem dropC_twice (l : List Ct) (p : Int) : dropC (dropC l p) p = dropC l p := by
  unfold dropC keep
  rw [List.filter_filter]
  congr 1
  funext y
  rw [Bool.and_self]
theorem dropV_closed (l : List Ct) (port a q : Int) : letsIn 1 (dropV l port) port a q = false := by
  unfold dropV
  cases h : vC l
  · rfl
  unfold letsIn lets
  have : (dropC l port).any (letP 1 port a q) = false := by
    rw [List.any_eq_false]
    intro y hy
    have := (mem_keep.1 hy).2
    unfold letP
    rw [this]
    simp
  simp only [if_true]
  rw [this]
  simp
end Go.Proofs.Ytnkdhpbbiilekaa
