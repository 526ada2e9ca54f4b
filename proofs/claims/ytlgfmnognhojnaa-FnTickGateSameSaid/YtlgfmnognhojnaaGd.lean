/- Gates, in plain terms: nets, when a gate is right, and what time does to it. -/
import Derived.Test.YtlgfmnognhojnaaTz
import Derived.Test.YtlgfmnognhojnaaCz
namespace Go.Proofs.Ytlgfmnognhojnaa
open Go.RowKit

/-- A gate: its net inside, its address outside, its table, its contacts, its filter, its hold time, its time. -/
@[ext] structure Gt where
  b : Int
  n : Int
  o : Int
  T : List Mp
  C : List Ct
  f : Int
  h : Int
  t : Int
/-- How many addresses a net has. -/
def pw (n : Int) : Int := 2 ^ (16 - n).toNat
def okN (b n : Int) : Bool := inR n 0 16 && (isW b && decide (b % pw n = 0))
def hasN (b n a : Int) : Bool := inR a b (b + pw n - 1)
def okMg (b n t h : Int) (x : Mp) : Bool := hasN b n x.a && (decide (x.l ≤ t) && !exq t h x)
def okCg (T : List Mp) (x : Ct) : Bool := used T x.p
def headG (G : Gt) : Bool := okN G.b G.n && (isW G.o && (!hasN G.b G.n G.o && (vM G.T && (vC G.C && (inR G.f 0 2 && (inR G.h 1 500 && inR G.t 0 10000))))))
def okG (G : Gt) : Bool := headG G && (G.T.all (okMg G.b G.n G.t G.h) && G.C.all (okCg G.T))
def dropAll (ps : List Int) (C : List Ct) : List Ct := ps.foldl dropC C
def tickG (G : Gt) (now : Int) : Gt := ⟨G.b, G.n, G.o, keep (exq now G.h) G.T, dropAll (goneOf now G.h G.T) G.C, G.f, G.h, now⟩
def tickO (G : Gt) (now : Int) : Bool := okG G && inR now G.t 10000
def zeroG : Gt := ⟨0, 0, 0, [], [], 0, 0, 0⟩
def tickV (G : Gt) (now : Int) : Gt := if tickO G now then tickG G now else zeroG

theorem pw_range {n : Int} (h0 : 0 ≤ n) (h1 : n ≤ 16) : 1 ≤ pw n ∧ pw n ≤ 65536 := by
  obtain ⟨k, rfl⟩ : ∃ k : Nat, n = (k : Int) := ⟨n.toNat, by omega⟩
  have hk : k ≤ 16 := by omega
  match k, hk with
  | 0, _ => decide
  | 1, _ => decide
  | 2, _ => decide
  | 3, _ => decide
  | 4, _ => decide
  | 5, _ => decide
  | 6, _ => decide
  | 7, _ => decide
  | 8, _ => decide
  | 9, _ => decide
  | 10, _ => decide
  | 11, _ => decide
  | 12, _ => decide
  | 13, _ => decide
  | 14, _ => decide
  | 15, _ => decide
  | 16, _ => decide
structure Head (G : Gt) : Prop where
  net : okN G.b G.n = true
  o : isW G.o = true
  far : hasN G.b G.n G.o = false
  T : vM G.T = true
  C : vC G.C = true
  f : inR G.f 0 2 = true
  h : inR G.h 1 500 = true
  t : inR G.t 0 10000 = true
theorem head_iff {G : Gt} : headG G = true ↔ Head G := by
  unfold headG
  simp only [Bool.and_eq_true, Bool.not_eq_true']
  exact ⟨fun ⟨a, b, c, d, e, f, g, h⟩ => ⟨a, b, c, d, e, f, g, h⟩, fun H => ⟨H.net, H.o, H.far, H.T, H.C, H.f, H.h, H.t⟩⟩
theorem okG_iff {G : Gt} : okG G = true ↔ Head G ∧ (∀ x ∈ G.T, okMg G.b G.n G.t G.h x = true) ∧ ∀ x ∈ G.C, okCg G.T x = true := by
  unfold okG
  simp only [Bool.and_eq_true, head_iff, List.all_eq_true]
theorem okN_bits {b n : Int} (h : okN b n = true) : 0 ≤ n ∧ n ≤ 16 := by
  unfold okN at h
  simp only [Bool.and_eq_true] at h
  exact inR_iff.1 h.1
theorem okN_base {b n : Int} (h : okN b n = true) : 0 ≤ b ∧ b ≤ 65535 := by
  unfold okN at h
  simp only [Bool.and_eq_true] at h
  have := h.2.1
  unfold isW at this
  exact of_decide_eq_true this
theorem okG_tim {G : Gt} (h : okG G = true) {now : Int} (hn : inR now G.t 10000 = true) : tim G.T now G.h = true := by
  have H := (okG_iff.1 h).1
  have h1 := inR_iff.1 H.t
  have h2 := inR_iff.1 H.h
  have h3 := inR_iff.1 hn
  exact tim_iff.2 ⟨H.T, ⟨by omega, h3.2⟩, h2⟩
/-! ### dropping -/
theorem dropAll_snoc (ps : List Int) (p : Int) (C : List Ct) : dropAll (ps ++ [p]) C = dropC (dropAll ps C) p := by
  unfold dropAll
  rw [List.foldl_append]
  rfl
theorem dropAll_sub : ∀ (ps : List Int) (C : List Ct), (dropAll ps C).Sublist C
  | [], C => List.Sublist.refl _
  | p :: ps, C => (dropAll_sub ps (dropC C p)).trans (dropC_sub C p)
theorem mem_dropAll : ∀ {ps : List Int} {C : List Ct} {x : Ct}, x ∈ dropAll ps C ↔ x ∈ C ∧ x.p ∉ ps
  | [], C, x => by simp [dropAll]
  | p :: ps, C, x => by
    show x ∈ dropAll ps (dropC C p) ↔ _
    rw [mem_dropAll]
    unfold dropC
    rw [mem_keep]
    simp
    constructor
    · rintro ⟨⟨h1, h2⟩, h3⟩; exact ⟨h1, fun e => h2 e, h3⟩
    · rintro ⟨h1, h2, h3⟩; exact ⟨⟨h1, h2⟩, h3⟩
theorem dropAll_vC {ps : List Int} {C : List Ct} (h : vC C = true) : vC (dropAll ps C) = true := vC_sub h (dropAll_sub ps C)
theorem dropAll_len (ps : List Int) (C : List Ct) : (dropAll ps C).length ≤ C.length := (dropAll_sub ps C).length_le
/-! ### the laws -/
theorem used_mem {T : List Mp} {p : Int} : used T p = true ↔ ∃ x ∈ T, x.p = p := by
  unfold used sameP
  simp [List.any_eq_true]
theorem mem_gone {now hold p : Int} {T : List Mp} : p ∈ goneOf now hold T ↔ ∃ x ∈ T, exq now hold x = true ∧ x.p = p := by
  unfold goneOf
  simp only [List.mem_map, List.mem_filter]
  constructor
  · rintro ⟨x, ⟨h1, h2⟩, h3⟩; exact ⟨x, h1, h2, h3⟩
  · rintro ⟨x, h1, h2, h3⟩; exact ⟨x, ⟨h1, h2⟩, h3⟩
theorem tick_ok {G : Gt} {now : Int} (h : tickO G now = true) : okG (tickG G now) = true := by
  unfold tickO at h
  simp only [Bool.and_eq_true] at h
  obtain ⟨h, hn⟩ := h
  obtain ⟨H, hT, hC⟩ := okG_iff.1 h
  have hnn := inR_iff.1 hn
  have htt := inR_iff.1 H.t
  refine okG_iff.2 ⟨⟨H.net, H.o, H.far, vM_sub H.T (keep_sublist _ _), dropAll_vC H.C, H.f, H.h, inR_iff.2 ⟨by show 0 ≤ now; omega, hnn.2⟩⟩, ?_, ?_⟩
  · intro x hx
    have hx' := mem_keep.1 (show x ∈ keep (exq now G.h) G.T from hx)
    have := hT x hx'.1
    unfold okMg at this ⊢
    simp only [Bool.and_eq_true, decide_eq_true_iff] at this ⊢
    refine ⟨this.1, ?_, ?_⟩
    · show x.l ≤ now
      have := this.2.1
      omega
    · show (!exq now G.h x) = true
      rw [hx'.2]
      rfl
  · intro x hx
    have hx' := mem_dropAll.1 (show x ∈ dropAll (goneOf now G.h G.T) G.C from hx)
    obtain ⟨m, hm, hp⟩ := used_mem.1 (hC x hx'.1)
    refine used_mem.2 ⟨m, ?_, hp⟩
    show m ∈ keep (exq now G.h) G.T
    rw [mem_keep]
    refine ⟨hm, ?_⟩
    cases he : exq now G.h m
    · rfl
    · exact absurd (mem_gone.2 ⟨m, hm, he, hp⟩) hx'.2
theorem tick_exp {G : Gt} {now : Int} (h : tickO G now = true) : (tickG G now).T = expV G.T now G.h := by
  unfold tickO at h
  simp only [Bool.and_eq_true] at h
  exact (exp_eq (okG_tim h.1 h.2)).symm
theorem tick_all {G : Gt} (h : okG G = true) (hn : G.t + G.h ≤ 10000) : tickO G (G.t + G.h) = true ∧ (tickG G (G.t + G.h)).T = [] ∧ (tickG G (G.t + G.h)).C = [] := by
  obtain ⟨H, hT, hC⟩ := okG_iff.1 h
  have hh := inR_iff.1 H.h
  have hex : ∀ x ∈ G.T, exq (G.t + G.h) G.h x = true := by
    intro x hx
    have := hT x hx
    unfold okMg at this
    simp only [Bool.and_eq_true, decide_eq_true_iff] at this
    unfold exq
    have := this.2.1
    exact decide_eq_true (by omega)
  refine ⟨?_, ?_, ?_⟩
  · unfold tickO
    rw [h, inR_iff.2 ⟨by omega, hn⟩]
    rfl
  · show keep (exq (G.t + G.h) G.h) G.T = []
    refine List.eq_nil_iff_forall_not_mem.2 fun x hx => ?_
    have hx' := mem_keep.1 hx
    rw [hex x hx'.1] at hx'
    exact absurd hx'.2 (by simp)
  · show dropAll (goneOf (G.t + G.h) G.h G.T) G.C = []
    refine List.eq_nil_iff_forall_not_mem.2 fun x hx => ?_
    have hx' := mem_dropAll.1 hx
    obtain ⟨m, hm, hp⟩ := used_mem.1 (hC x hx'.1)
    exact hx'.2 (mem_gone.2 ⟨m, hm, hex m hm, hp⟩)
theorem tick_same {G : Gt} (h : okG G = true) : tickO G G.t = true ∧ tickG G G.t = G := by
  obtain ⟨H, hT, hC⟩ := okG_iff.1 h
  have htt := inR_iff.1 H.t
  have hex : ∀ x ∈ G.T, exq G.t G.h x = false := by
    intro x hx
    have := hT x hx
    unfold okMg at this
    simp only [Bool.and_eq_true] at this
    have := this.2.2
    cases he : exq G.t G.h x
    · rfl
    · rw [he] at this; cases this
  refine ⟨?_, ?_⟩
  · unfold tickO
    rw [h, inR_iff.2 ⟨Int.le_refl _, htt.2⟩]
    rfl
  · have h1 : keep (exq G.t G.h) G.T = G.T := keep_all hex
    have h2 : goneOf G.t G.h G.T = [] := by
      refine List.eq_nil_iff_forall_not_mem.2 fun p hp => ?_
      obtain ⟨x, hx, he, _⟩ := mem_gone.1 hp
      rw [hex x hx] at he
      cases he
    unfold tickG
    rw [h1, h2]
    rfl
theorem tick_back (G : Gt) : tickO G (G.t - 1) = false := by
  unfold tickO
  have : inR (G.t - 1) G.t 10000 = false := by
    unfold inR
    exact decide_eq_false (by omega)
  rw [this]
  cases okG G <;> rfl
theorem okG_empty {G : Gt} (h : okG G = true) : okG ⟨G.b, G.n, G.o, [], [], G.f, G.h, G.t⟩ = true := by
  obtain ⟨H, hT, hC⟩ := okG_iff.1 h
  exact okG_iff.2 ⟨⟨H.net, H.o, H.far, rfl, rfl, H.f, H.h, H.t⟩, by simp, by simp⟩
end Go.Proofs.Ytlgfmnognhojnaa
