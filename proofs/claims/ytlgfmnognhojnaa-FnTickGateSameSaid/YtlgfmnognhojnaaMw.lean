/- Plain laws of tables: what the statements say of the functions that the walks show. -/
import Derived.Test.YtlgfmnognhojnaaMf
namespace Go.Proofs.Ytlgfmnognhojnaa
open Go.RowKit
theorem vM_sub {l l' : List Mp} (h : vM l = true) (hs : l'.Sublist l) : vM l' = true := by
  rw [vM_iff] at h ⊢
  obtain ⟨h1, h2, h3, h4⟩ := h
  exact ⟨Nat.le_trans hs.length_le h1, (hs.map _).nodup h2, (hs.map _).nodup h3, fun x hx => h4 x (hs.subset hx)⟩
theorem vM_cut {l : List Mp} (h : vM l = true) (k : Nat) : vM (l.take k ++ l.drop (k + 1)) = true := vM_sub h (cut_sublist l k)
theorem vM_nil : vM [] = true := rfl
theorem vM_again {l : List Mp} {x : Mp} (h : l[0]? = some x) : vM (l ++ [x]) = false := by
  have h0 := lt_of_get h
  refine vM_dupP (k := l.length) (m := 0) (x := x) (y := x) ?_ h0 ?_ (by simp [sameP])
  · rw [List.getElem?_append_right (Nat.le_refl _), Nat.sub_self]; rfl
  · rw [List.getElem?_append_left h0]; exact h
theorem find_uniq {α : Type} {p : α → Bool} {l : List α} {x : α} (hx : x ∈ l) (hp : p x = true) (hu : ∀ y ∈ l, p y = true → y = x) : l.find? p = some x := by
  cases h : l.find? p with
  | none => have := List.find?_eq_none.1 h x hx; rw [hp] at this; simp at this
  | some y => rw [hu y (List.mem_of_find?_eq_some h) (List.find?_some h)]
theorem nodup_inj {α β : Type} {f : α → β} {l : List α} (h : (l.map f).Nodup) {x y : α} (hx : x ∈ l) (hy : y ∈ l) (he : f x = f y) : x = y := by
  obtain ⟨i, hi⟩ := List.getElem?_of_mem hx
  obtain ⟨j, hj⟩ := List.getElem?_of_mem hy
  have gi : (l.map f)[i]? = some (f x) := by rw [List.getElem?_map, hi]; rfl
  have gj : (l.map f)[j]? = some (f y) := by rw [List.getElem?_map, hj]; rfl
  rcases Nat.lt_trichotomy i j with h1 | h1 | h1
  · exact absurd he (nodup_ne h gi gj h1)
  · subst h1; rw [hi] at hj; injection hj
  · exact absurd he.symm (nodup_ne h gj gi h1)
theorem uniqE {l : List Mp} (h : vM l = true) {x : Mp} (hx : x ∈ l) : l.find? (sameE x.a x.q) = some x := by
  have h2 := ((vM_iff l).1 h).2.1
  refine find_uniq hx (by simp [sameE]) ?_
  intro y hy hp
  simp only [sameE, Bool.and_eq_true, beq_iff_eq] at hp
  exact nodup_inj h2 hy hx (by simp [hp.1, hp.2])
theorem uniqP {l : List Mp} (h : vM l = true) {x : Mp} (hx : x ∈ l) : l.find? (sameP x.p) = some x := by
  have h2 := ((vM_iff l).1 h).2.2.1
  refine find_uniq hx (by simp [sameP]) ?_
  intro y hy hp
  simp only [sameP, beq_iff_eq] at hp
  exact nodup_inj h2 hy hx hp
theorem okM_port {l : List Mp} (h : vM l = true) {x : Mp} (hx : x ∈ l) : 1000 ≤ x.p ∧ x.p ≤ 1007 := by
  have := ((vM_iff l).1 h).2.2.2 x hx
  unfold okM at this
  simp only [Bool.and_eq_true] at this
  exact of_decide_eq_true this.2.1
theorem insO_used {l : List Mp} {p : Int} (h : vM l = true) : insO l p = used l p := by unfold insO; rw [h]; rfl
theorem ins_mem {l : List Mp} {p : Int} (h : insO l p = true) : vM l = true ∧ insE l p ∈ l ∧ (insE l p).p = p := by
  have h' := h
  unfold insO at h'
  simp only [Bool.and_eq_true] at h'
  obtain ⟨hv, hu⟩ := h'
  unfold used at hu
  obtain ⟨x, hx, hp⟩ := List.any_eq_true.1 hu
  have hp' : x.p = p := by simpa [sameP] using hp
  have he : insE l p = x := by
    unfold insE
    rw [h, ← hp', uniqP hv hx]
    rfl
  rw [he]
  exact ⟨hv, hx, hp'⟩
theorem outP_mem {l : List Mp} (h : vM l = true) {x : Mp} (hx : x ∈ l) : outP l x.a x.q = x.p := by
  unfold outP
  rw [h, uniqE h hx]
  rfl
theorem ins_mem' {l : List Mp} (h : vM l = true) {x : Mp} (hx : x ∈ l) : insO l x.p = true ∧ insE l x.p = x := by
  have h1 : insO l x.p = true := by
    unfold insO used
    rw [h, List.any_eq_true.2 ⟨x, hx, by simp [sameP]⟩]
    rfl
  refine ⟨h1, ?_⟩
  unfold insE
  rw [h1, uniqP h hx]
  rfl
theorem outP_pos {l : List Mp} {a q : Int} (h : 0 ≤ outP l a q) : vM l = true ∧ ∃ x ∈ l, x.a = a ∧ x.q = q ∧ outP l a q = x.p := by
  have hv : vM l = true := by
    cases hv : vM l
    · rw [outP_bad hv] at h; omega
    · rfl
  refine ⟨hv, ?_⟩
  unfold outP at h ⊢
  rw [hv] at h ⊢
  simp only [if_true] at h ⊢
  cases hf : l.find? (sameE a q) with
  | none => rw [hf] at h; simp at h
  | some x =>
    have hp := List.find?_some hf
    simp only [sameE, Bool.and_eq_true, beq_iff_eq] at hp
    exact ⟨x, List.mem_of_find?_eq_some hf, hp.1, hp.2, rfl⟩
theorem outP_any {l : List Mp} {a q : Int} (h : vM l = true) : decide (0 ≤ outP l a q) = l.any (sameE a q) := by
  cases hf : l.find? (sameE a q) with
  | none =>
    have h1 : l.any (sameE a q) = false := by rw [List.any_eq_false]; exact List.find?_eq_none.1 hf
    rw [h1]
    unfold outP
    rw [h, hf]
    rfl
  | some x =>
    have hx := List.mem_of_find?_eq_some hf
    rw [List.any_eq_true.2 ⟨x, hx, List.find?_some hf⟩]
    unfold outP
    rw [h, hf]
    have := okM_port h hx
    exact decide_eq_true (show 0 ≤ x.p by omega)
theorem outP_in {l : List Mp} {a q : Int} (h : 0 ≤ outP l a q) : insO l (outP l a q) = true ∧ (insE l (outP l a q)).a = a ∧ (insE l (outP l a q)).q = q ∧ 1000 ≤ outP l a q ∧ outP l a q ≤ 1007 := by
  obtain ⟨hv, x, hx, h1, h2, h3⟩ := outP_pos h
  rw [h3]
  obtain ⟨h4, h5⟩ := ins_mem' hv hx
  rw [h5]
  have := okM_port hv hx
  exact ⟨h4, h1, h2, this.1, this.2⟩
/-! ### free ports -/
theorem sub_length : ∀ (l l' : List Int), l.Nodup → (∀ x ∈ l, x ∈ l') → l.length ≤ l'.length
  | [], _, _, _ => by simp
  | x :: l, l', hn, hs => by
    have hx := hs x (by simp)
    have hn' := List.nodup_cons.1 hn
    have h1 := sub_length l (l'.erase x) hn'.2 (fun y hy => (List.mem_erase_of_ne (by rintro rfl; exact hn'.1 hy)).2 (hs y (by simp [hy])))
    rw [List.length_erase_of_mem hx] at h1
    have : 0 < l'.length := List.length_pos_of_mem hx
    rw [List.length_cons]
    omega
theorem used_iff {l : List Mp} {n : Int} : used l n = true ↔ n ∈ l.map (fun x => x.p) := by
  unfold used
  rw [List.any_eq_true, List.mem_map]
  constructor
  · rintro ⟨x, hx, hp⟩; exact ⟨x, hx, by simpa [sameP] using hp⟩
  · rintro ⟨x, hx, hp⟩; exact ⟨x, hx, by simpa [sameP] using hp⟩
theorem full_iff {l : List Mp} (h : vM l = true) : (∀ n ∈ ports, used l n = true) ↔ l.length = 8 := by
  obtain ⟨h1, h2, h3, h4⟩ := (vM_iff l).1 h
  constructor
  · intro hu
    have := sub_length ports (l.map fun x => x.p) (by decide) (fun n hn => used_iff.1 (hu n hn))
    rw [List.length_map] at this
    have : ports.length = 8 := rfl
    omega
  · intro h8 n hn
    cases hu : used l n
    · have hno : n ∉ l.map (fun x => x.p) := fun hm => by rw [used_iff.2 hm] at hu; cases hu
      have := sub_length (l.map fun x => x.p) (ports.erase n) h3 (fun y hy => by
        have hyp : y ∈ ports := by
          obtain ⟨x, hx, rfl⟩ := List.mem_map.1 hy
          exact mem_ports.2 (okM_port h hx)
        exact (List.mem_erase_of_ne (by rintro rfl; exact hno hy)).2 hyp)
      rw [List.length_map, List.length_erase_of_mem hn] at this
      have : ports.length = 8 := rfl
      omega
    · rfl
theorem freeP_cases (l : List Mp) (want : Int) : freeP l want = -1 ∧ (∀ n ∈ ports, used l n = true) ∨ freeP l want ∈ ports ∧ used l (freeP l want) = false := by
  unfold freeP
  split
  · next h =>
    simp only [Bool.and_eq_true] at h
    exact .inr ⟨mem_ports.2 (of_decide_eq_true h.1), by simpa using h.2⟩
  · cases h : ports.find? (fun n => par want n && !used l n) with
    | some n =>
      have hp := List.find?_some h
      simp only [Bool.and_eq_true] at hp
      exact .inr ⟨List.mem_of_find?_eq_some h, by simpa using hp.2⟩
    | none =>
      simp only []
      cases h2 : ports.find? (fun n => !used l n) with
      | some n => exact .inr ⟨List.mem_of_find?_eq_some h2, by simpa [first] using List.find?_some h2⟩
      | none =>
        refine .inl ⟨rfl, fun n hn => ?_⟩
        have := List.find?_eq_none.1 h2 n hn
        simpa using this
theorem freeP_neg {l : List Mp} {want : Int} (h : vM l = true) : (freeP l want = -1) ↔ l.length = 8 := by
  rw [← full_iff h]
  rcases freeP_cases l want with ⟨h1, h2⟩ | ⟨h1, h2⟩
  · exact ⟨fun _ => h2, fun _ => h1⟩
  · constructor
    · intro e; have := mem_ports.1 h1; omega
    · intro hu; rw [hu _ h1] at h2; cases h2
theorem freeP_pos {l : List Mp} {want : Int} (h : 0 ≤ freeP l want) : 1000 ≤ freeP l want ∧ freeP l want ≤ 1007 ∧ used l (freeP l want) = false := by
  rcases freeP_cases l want with ⟨h1, _⟩ | ⟨h1, h2⟩
  · omega
  · have := mem_ports.1 h1; exact ⟨this.1, this.2, h2⟩
theorem freeP_near {l : List Mp} {want : Int} (h1 : inR want 1000 1007 = true) (h2 : used l want = false) : freeP l want = want := freeP_want h1 h2
theorem freeP_even {l : List Mp} {want k : Int} (hk : k ∈ ports) (hp : par want k = true) (hu : used l k = false) : par want (freeP l want) = true := by
  unfold freeP
  split
  · simp [par]
  · cases h : ports.find? (fun n => par want n && !used l n) with
    | some n =>
      have hp := List.find?_some h
      simp only [Bool.and_eq_true] at hp
      exact hp.1
    | none =>
      have := List.find?_eq_none.1 h k hk
      simp [hp, hu] at this
end Go.Proofs.Ytlgfmnognhojnaa
