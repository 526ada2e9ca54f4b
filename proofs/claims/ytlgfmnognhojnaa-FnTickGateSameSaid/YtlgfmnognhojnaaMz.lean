/- MapEnd, TouchPort: the program's, walked. -/
import Derived.Test.YtlgfmnognhojnaaMk
namespace Go.Proofs.Ytlgfmnognhojnaa
open Go.RowKit
theorem Bl.outB {α : Type} {enc : α → List Value} {k B g m : Nat} {e : TypeId} {w : World} {L : List α} (h : Bl enc k e w g m L) (hB : B ≤ g) : Out enc k B w (some ⟨g, 0, none⟩) L.length L := ⟨h.sl, fun _ => ⟨g, 0, rfl, hB, h.lt, fun j => h.frozen j⟩⟩
theorem Ow.noneNil {α : Type} {enc : α → List Value} {k B c : Nat} {e : TypeId} {w : World} {A : Option Addr} {l : List α} (h : Ow enc k e B w A c l) : A = none → l = [] := by
  rintro rfl
  rcases h with ⟨_, _, h⟩ | ⟨g, h, _⟩
  · exact h
  · cases h
def touchR (l : List Mp) (p now : Int) : List Mp :=
  match l.findIdx? (sameP p) with
  | some k => l.set k ⟨((l[k]?).getD zeroMp).a, ((l[k]?).getD zeroMp).q, ((l[k]?).getD zeroMp).p, max ((l[k]?).getD zeroMp).l now⟩
  | none => []
def touchO (l : List Mp) (p now : Int) : Bool := vM l && (inR now 0 10000 && used l p)
def touchV (l : List Mp) (p now : Int) : List Mp := if touchO l p now then touchR l p now else []
theorem touch_found {l : List Mp} {p now : Int} {k : Nat} {x : Mp} (h : l[k]? = some x) (hp : sameP p x = true) (hn : ∀ y ∈ l.take k, sameP p y = false) : touchR l p now = l.set k ⟨x.a, x.q, x.p, max x.l now⟩ := by
  unfold touchR
  rw [findIdx_at h hp hn]
  simp only [h, Option.getD_some]
end Go.Proofs.Ytlgfmnognhojnaa

/- Plain laws of MapEnd and TouchPort. -/
namespace Go.Proofs.Ytlgfmnognhojnaa
open Go.RowKit
theorem set_map {α β : Type} (f : α → β) {l : List α} {k : Nat} {x y : α} (h : l[k]? = some x) (hf : f y = f x) : (l.set k y).map f = l.map f := by
  rw [List.map_set, hf]
  apply List.ext_getElem?
  intro i
  rw [List.getElem?_set]
  split
  · next e =>
    subst e
    rw [List.getElem?_map, h]
    have := lt_of_get h
    simp [this]
  · rfl
theorem vM_last {l : List Mp} {k : Nat} {x : Mp} {t : Int} (h : vM l = true) (hx : l[k]? = some x) (ht : inR t 0 10000 = true) : vM (l.set k ⟨x.a, x.q, x.p, t⟩) = true := by
  rw [vM_iff] at h ⊢
  obtain ⟨h1, h2, h3, h4⟩ := h
  refine ⟨by rw [List.length_set]; exact h1, ?_, ?_, ?_⟩
  · rw [set_map (y := (⟨x.a, x.q, x.p, t⟩ : Mp)) (fun y : Mp => (y.a, y.q)) hx rfl]; exact h2
  · rw [set_map (y := (⟨x.a, x.q, x.p, t⟩ : Mp)) (fun y : Mp => y.p) hx rfl]; exact h3
  · intro y hy
    rcases List.mem_or_eq_of_mem_set hy with hy | rfl
    · exact h4 y hy
    · have := h4 x (List.mem_of_getElem? hx)
      unfold okM at this ⊢
      simp only [Bool.and_eq_true] at this ⊢
      exact ⟨this.1, this.2.1, ht⟩
theorem vM_more {l : List Mp} {x : Mp} (h : vM l = true) (h8 : l.length ≠ 8) (ho : okM x = true) (hE : ∀ y ∈ l, sameE x.a x.q y = false) (hP : used l x.p = false) : vM (l ++ [x]) = true := by
  rw [vM_iff] at h ⊢
  obtain ⟨h1, h2, h3, h4⟩ := h
  refine ⟨by rw [List.length_append]; simp; omega, ?_, ?_, ?_⟩
  · rw [List.map_append]
    refine List.nodup_append.2 ⟨h2, by simp, ?_⟩
    intro u hu v hv
    obtain ⟨y, hy, rfl⟩ := List.mem_map.1 hu
    simp only [List.map_cons, List.map_nil, List.mem_singleton] at hv
    subst hv
    have := hE y hy
    intro e
    simp only [Prod.mk.injEq] at e
    simp [sameE, e.1, e.2] at this
  · rw [List.map_append]
    refine List.nodup_append.2 ⟨h3, by simp, ?_⟩
    intro u hu v hv
    simp only [List.map_cons, List.map_nil, List.mem_singleton] at hv
    subst hv
    intro e
    subst e
    rw [used_iff.2 hu] at hP
    cases hP
  · intro y hy
    rcases List.mem_append.1 hy with hy | hy
    · exact h4 y hy
    · rw [List.mem_singleton] at hy; subst hy; exact ho
theorem max_in {s t : Int} (h1 : inR s 0 10000 = true) (h2 : inR t 0 10000 = true) : inR (max s t) 0 10000 = true := by
  have := of_decide_eq_true h1
  have := of_decide_eq_true h2
  exact decide_eq_true (by omega)
theorem okM_time {x : Mp} (h : okM x = true) : inR x.l 0 10000 = true := by
  unfold okM at h
  simp only [Bool.and_eq_true] at h
  exact h.2.2
/-- What MapEnd returns, where it returns true. -/
theorem map_cases {l : List Mp} {a q now : Int} (h : (mapV l a q now).2.2 = true) : vM l = true ∧ (isW a && isW q) = true ∧ inR now 0 10000 = true ∧
    ((∃ k x, l[k]? = some x ∧ x.a = a ∧ x.q = q ∧ (∀ y ∈ l.take k, sameE a q y = false) ∧ mapV l a q now = (l.set k ⟨x.a, x.q, x.p, max x.l now⟩, x.p, true)) ∨
      ((∀ y ∈ l, sameE a q y = false) ∧ 0 ≤ freeP l q ∧ mapV l a q now = (l ++ [⟨a, q, freeP l q, now⟩], freeP l q, true))) := by
  cases hc : (vM l && ((isW a && isW q) && inR now 0 10000))
  · unfold mapV at h; rw [hc] at h; cases h
  have e : mapV l a q now = mapR l a q now := by unfold mapV; rw [hc]; rfl
  simp only [Bool.and_eq_true] at hc
  refine ⟨hc.1, by simp only [Bool.and_eq_true]; exact hc.2.1, hc.2.2, ?_⟩
  rw [e] at h ⊢
  by_cases h0 : 0 ≤ byE l a q
  · obtain ⟨k, x, _, hx, hp, hn⟩ := idx_pos (p := sameE a q) (l := l) (by unfold byE at h0; exact h0)
    simp only [sameE, Bool.and_eq_true, beq_iff_eq] at hp
    exact .inl ⟨k, x, hx, hp.1, hp.2, hn, map_found hx (by simp [sameE, hp.1, hp.2]) hn⟩
  · have h0 : byE l a q < 0 := by omega
    by_cases hf : freeP l q < 0
    · rw [map_none h0 hf] at h; cases h
    · exact .inr ⟨(idx_neg h0).2, by omega, map_new h0 (by omega)⟩
theorem isW_freeV {l : List Mp} {a q : Int} (hv : vM l = true) (hw : (isW a && isW q) = true) : freeV l q = freeP l q := by
  simp only [Bool.and_eq_true] at hw
  unfold freeV
  rw [hv, hw.2]
  rfl
theorem map_vM {l : List Mp} {a q now : Int} (h : (mapV l a q now).2.2 = true) : vM (mapV l a q now).1 = true := by
  obtain ⟨hv, hw, ht, ⟨k, x, hx, _, _, _, e⟩ | ⟨hE, hf, e⟩⟩ := map_cases h
  · rw [e]
    exact vM_last hv hx (max_in (okM_time (((vM_iff l).1 hv).2.2.2 x (List.mem_of_getElem? hx))) ht)
  · rw [e]
    obtain ⟨f0, f1, fu⟩ := freeP_pos hf
    refine vM_more hv (fun e8 => ?_) ?_ hE fu
    · have := (freeP_neg (want := q) hv).2 e8; omega
    · unfold okM
      have : inR (freeP l q) 1000 1007 = true := decide_eq_true (by omega)
      simp only [Bool.and_eq_true] at hw ⊢
      exact ⟨hw, this, ht⟩
/-- The end lies in what MapEnd returns, at the port it names. -/
theorem map_mem {l : List Mp} {a q now : Int} (h : (mapV l a q now).2.2 = true) : ∃ k x, (mapV l a q now).1[k]? = some x ∧ x.a = a ∧ x.q = q ∧ x.p = (mapV l a q now).2.1 ∧ now ≤ x.l ∧ ∀ y ∈ (mapV l a q now).1.take k, sameE a q y = false := by
  obtain ⟨hv, hw, ht, ⟨k, x, hx, ha, hq, hn, e⟩ | ⟨hE, hf, e⟩⟩ := map_cases h
  · rw [e]
    refine ⟨k, _, List.getElem?_set_self (lt_of_get hx), ha, hq, rfl, by show now ≤ max x.l now; omega, ?_⟩
    intro y hy
    rw [List.take_set_of_le (Nat.le_refl _)] at hy
    exact hn y hy
  · rw [e]
    refine ⟨l.length, ⟨a, q, freeP l q, now⟩, ?_, rfl, rfl, rfl, by show now ≤ now; omega, ?_⟩
    · rw [List.getElem?_append_right (Nat.le_refl _), Nat.sub_self]; rfl
    · intro y hy
      rw [List.take_left'  rfl] at hy
      exact hE y hy
theorem map_out {l : List Mp} {a q now : Int} (h : (mapV l a q now).2.2 = true) : outP (mapV l a q now).1 a q = (mapV l a q now).2.1 := by
  obtain ⟨k, x, hx, rfl, rfl, hp, _⟩ := map_mem h
  rw [← hp]
  exact outP_mem (map_vM h) (List.mem_of_getElem? hx)
theorem map_len {l : List Mp} {a q now : Int} (h : (mapV l a q now).2.2 = true) : l.length ≤ (mapV l a q now).1.length ∧ (mapV l a q now).1.length ≤ l.length + 1 := by
  obtain ⟨hv, hw, ht, ⟨k, x, hx, _, _, _, e⟩ | ⟨hE, hf, e⟩⟩ := map_cases h
  · rw [e]; simp
  · rw [e]; simp
theorem map_keep {l : List Mp} {a q now : Int} (h : (mapV l a q now).2.2 = true) {i : Nat} {y : Mp} (hy : l[i]? = some y) : ∃ z, (mapV l a q now).1[i]? = some z ∧ z.p = y.p ∧ z.a = y.a ∧ z.q = y.q ∧ (sameE a q y = false → z = y) := by
  have hi := lt_of_get hy
  obtain ⟨hv, hw, ht, ⟨k, x, hx, ha, hq, _, e⟩ | ⟨hE, hf, e⟩⟩ := map_cases h
  · rw [e]
    by_cases hk : k = i
    · subst hk
      rw [hx] at hy
      injection hy with hy
      subst hy
      refine ⟨_, List.getElem?_set_self hi, rfl, rfl, rfl, ?_⟩
      intro hs
      simp [sameE, ha, hq] at hs
    · exact ⟨y, by rw [List.getElem?_set_ne hk]; exact hy, rfl, rfl, rfl, fun _ => rfl⟩
  · rw [e]
    exact ⟨y, by rw [List.getElem?_append_left hi]; exact hy, rfl, rfl, rfl, fun _ => rfl⟩
theorem set_same {l : List Mp} {k : Nat} {x : Mp} (h : l[k]? = some x) (t : Int) (ht : t = x.l) : l.set k ⟨x.a, x.q, x.p, t⟩ = l := by
  subst ht
  have := lt_of_get h
  apply List.ext_getElem?
  intro i
  rw [List.getElem?_set]
  split
  · next e => subst e; rw [h]; try simp [this]
  · rfl
theorem map_twice {l : List Mp} {a q now : Int} (h : (mapV l a q now).2.2 = true) : mapV (mapV l a q now).1 a q now = ((mapV l a q now).1, (mapV l a q now).2.1, true) := by
  obtain ⟨k, x, hx, ha, hq, hp, hl, hn⟩ := map_mem h
  obtain ⟨hv, hw, ht, _⟩ := map_cases h
  have h2 := map_vM h
  generalize mapV l a q now = R at *
  obtain ⟨L, v, r⟩ := R
  simp only at *
  subst hp
  have e : mapV L a q now = mapR L a q now := by unfold mapV; rw [h2, hw, ht]; rfl
  rw [e, map_found hx (by simp [sameE, ha, hq]) hn, set_same hx _ (by omega)]
theorem map_old {l : List Mp} {a q now : Int} (h : (mapV l a q now).2.2 = true) : outP l a q = -1 ∨ outP l a q = (mapV l a q now).2.1 := by
  obtain ⟨hv, hw, ht, ⟨k, x, hx, rfl, rfl, _, e⟩ | ⟨hE, hf, e⟩⟩ := map_cases h
  · rw [e]; exact .inr (outP_mem hv (List.mem_of_getElem? hx))
  · refine .inl (outP_none ?_)
    unfold byE
    rw [idx_not hE]
    decide
theorem map_add {l : List Mp} {a q now : Int} (h : (mapV l a q now).2.2 = true) (hn : outP l a q < 0) : mapV l a q now = (l ++ [⟨a, q, freeV l q, now⟩], freeV l q, true) ∧ 1000 ≤ freeV l q := by
  obtain ⟨hv, hw, ht, ⟨k, x, hx, rfl, rfl, _, e⟩ | ⟨hE, hf, e⟩⟩ := map_cases h
  · have := outP_mem hv (List.mem_of_getElem? hx)
    have := okM_port hv (List.mem_of_getElem? hx)
    omega
  · rw [isW_freeV hv hw]
    exact ⟨e, (freeP_pos hf).1⟩
theorem map_here {l : List Mp} {q : Int} (h : 0 ≤ freeV l q) (hn : outP l 9 q < 0) : mapV l 9 q 5 = (l ++ [⟨9, q, freeV l q, 5⟩], freeV l q, true) ∧ freeV (l ++ [⟨9, q, freeV l q, 5⟩]) q ≠ freeV l q := by
  have hc : (vM l && isW q) = true := by
    cases hc : (vM l && isW q)
    · unfold freeV at h; rw [hc] at h; simp at h
    · rfl
  simp only [Bool.and_eq_true] at hc
  obtain ⟨hv, hw⟩ := hc
  have hw9 : (isW 9 && isW q) = true := by rw [hw]; rfl
  rw [isW_freeV hv hw9] at h ⊢
  have h0 : byE l 9 q < 0 := by
    have h1 := outP_any (a := 9) (q := q) hv
    rw [decide_eq_false (by omega)] at h1
    have h2 := idx_nonneg (sameE 9 q) l
    rw [← h1] at h2
    have := of_decide_eq_false h2
    unfold byE
    omega
  have e : mapV l 9 q 5 = mapR l 9 q 5 := by unfold mapV; rw [hv, hw9]; rfl
  refine ⟨by rw [e, map_new h0 h], ?_⟩
  intro e2
  have h3 : 0 ≤ freeV (l ++ [⟨9, q, freeP l q, 5⟩]) q := by omega
  have h4 : freeV (l ++ [⟨9, q, freeP l q, 5⟩]) q = freeP (l ++ [⟨9, q, freeP l q, 5⟩]) q := by
    unfold freeV at h3 ⊢
    split at h3
    · next hh => rw [if_pos hh]
    · omega
  rw [h4] at h3 e2
  have := (freeP_pos h3).2.2
  rw [e2] at this
  simp [used, sameP] at this
theorem touch_cases {l : List Mp} {p now : Int} (h : touchO l p now = true) : vM l = true ∧ inR now 0 10000 = true ∧ ∃ k x, l[k]? = some x ∧ x.p = p ∧ (∀ y ∈ l.take k, sameP p y = false) ∧ touchV l p now = l.set k ⟨x.a, x.q, x.p, max x.l now⟩ := by
  have h' := h
  unfold touchO at h'
  simp only [Bool.and_eq_true] at h'
  obtain ⟨hv, ht, hu⟩ := h'
  obtain ⟨k, x, hk, hp, hn, _⟩ := idx_found hu
  refine ⟨hv, ht, k, x, hk, by simpa [sameP] using hp, hn, ?_⟩
  unfold touchV
  rw [if_pos h, touch_found hk hp hn]
theorem map_last {l : List Mp} {a q now : Int} (h : (mapV l a q now).2.2 = true) : touchO (mapV l a q now).1 (mapV l a q now).2.1 now = true ∧ touchV (mapV l a q now).1 (mapV l a q now).2.1 now = (mapV l a q now).1 := by
  obtain ⟨k, x, hx, ha, hq, hp, hl, _⟩ := map_mem h
  obtain ⟨_, _, ht, _⟩ := map_cases h
  have h2 := map_vM h
  generalize mapV l a q now = R at *
  obtain ⟨L, v, r⟩ := R
  simp only at *
  subst hp
  have hx' := List.mem_of_getElem? hx
  have ho : touchO L x.p now = true := by
    unfold touchO used
    rw [h2, ht, List.any_eq_true.2 ⟨x, hx', by simp [sameP]⟩]
    rfl
  refine ⟨ho, ?_⟩
  obtain ⟨_, _, j, y, hy, hyp, _, e⟩ := touch_cases ho
  rw [e]
  have hxy : y = x := nodup_inj ((vM_iff L).1 h2).2.2.1 (List.mem_of_getElem? hy) hx' hyp
  subst hxy
  exact set_same hy _ (by omega)
end Go.Proofs.Ytlgfmnognhojnaa

/- TouchPort: the program's, walked. -/
namespace Go.Proofs.Ytlgfmnognhojnaa
open Go.RowKit
end Go.Proofs.Ytlgfmnognhojnaa

/- The reference's draws of MapEnd. -/
namespace Go.Proofs.Ytlgfmnognhojnaa
open Go.RowKit
theorem one_drew (g N : Nat) (l : List Int) {cs : Array Value} {t : TypeId} {b n : Nat} {w : World} (hcs : cs.toList = l.flatMap encI1) (hb : w.heap.size = b) (hn : l.length = n) (hl : l.length ≤ 1000) (hl1 : 1 ≤ l.length) (hN : N ≤ 1000000) (hr : Rd w g N) :
    Calls Try.prog 25 #[.pointer (some ⟨g, 0, none⟩), .slice (some ⟨b, 0, none⟩) n n] ((w.alloc (.cells cs t)).drew) (fun e w' => ∃ x : Int, e = .returned (.int .i64 x) ∧ x ∈ l ∧ Rd w' g (N + 1) ∧ w.grownBy w' (some g)) := by
  have e : (w.alloc (.cells cs t)).drew = w.drew.alloc (.cells cs t) := rfl
  rw [e]
  refine (one_lit (w := w.drew) g N l hcs hb hn hl hl1 hN (Rd.drew_ hr)).mono ?_
  rintro e w' ⟨x, h1, h2, h3, h4⟩
  exact ⟨x, h1, h2, h3, grown_undrew h4⟩
end Go.Proofs.Ytlgfmnognhojnaa

/- MapEnd, TouchPort: contracts in literal form. -/
namespace Go.Proofs.Ytlgfmnognhojnaa
open Go.RowKit
section
variable {A : Option Addr} {c n m : Nat} {l L : List Mp} {w : World} {r : Bool} {a q now v port : Int}
end
theorem map_fit {l L : List Mp} {a q now v : Int} {r : Bool} (h : mapV l a q now = (L, v, r)) (hl : l.length ≤ 10) : L.length ≤ 11 := by
  have := mapV_len l a q now
  rw [h] at this
  simp only at this
  omega
end Go.Proofs.Ytlgfmnognhojnaa
