/- Packets and sums in plain terms, and their laws. -/
import Derived.Test.YtlgfmnognhojnaaData
namespace Go.Proofs.Ytlgfmnognhojnaa
open Go.RowKit
@[ext] structure Pk where
  k : Int
  fa : Int
  fp : Int
  ta : Int
  tp : Int
  d : List Int
  deriving DecidableEq
def okPk (x : Pk) : Bool := inR x.k 0 2 && ((isW x.fa && isW x.fp) && ((isW x.ta && isW x.tp) && (decide (x.d.length ≤ 12) && x.d.all isW)))
def addW (a b : Int) : Int := if 65535 < a + b then a + b - 65535 else a + b
def tot (l : List Int) : Int := l.foldl addW 0
def wordsP (x : Pk) (c : Int) : List Int := [x.k, c, x.fa, x.ta, x.fp, x.tp] ++ x.d
def chk (x : Pk) : Int := 65535 - tot (wordsP x 0)
def packV (x : Pk) : List Int := if okPk x then wordsP x (chk x) else []
def checkV (x : Pk) : Int := if okPk x then chk x else -1
def mkPk (l : List Int) : Pk := ⟨(l[0]?).getD 0, (l[2]?).getD 0, (l[4]?).getD 0, (l[3]?).getD 0, (l[5]?).getD 0, l.drop 6⟩
def zeroPk : Pk := ⟨0, 0, 0, 0, 0, []⟩
def unpackO (l : List Int) : Bool := decide (6 ≤ l.length) && (okPk (mkPk l) && decide (packV (mkPk l) = l))
def unpackP (l : List Int) : Pk := if unpackO l then mkPk l else zeroPk
def swapPk (x : Pk) : Pk := ⟨x.k, x.ta, x.tp, x.fa, x.fp, x.d⟩
def revV (x : Pk) : Pk := if okPk x then swapPk x else zeroPk

theorem isW_iff {n : Int} : isW n = true ↔ 0 ≤ n ∧ n ≤ 65535 := by unfold isW; exact decide_eq_true_iff
theorem inR_iffK {n a b : Int} : inR n a b = true ↔ a ≤ n ∧ n ≤ b := by unfold inR; exact decide_eq_true_iff
theorem okPk_iff {x : Pk} : okPk x = true ↔ (0 ≤ x.k ∧ x.k ≤ 2) ∧ ((0 ≤ x.fa ∧ x.fa ≤ 65535) ∧ (0 ≤ x.fp ∧ x.fp ≤ 65535)) ∧ ((0 ≤ x.ta ∧ x.ta ≤ 65535) ∧ (0 ≤ x.tp ∧ x.tp ≤ 65535)) ∧ x.d.length ≤ 12 ∧ x.d.all isW = true := by
  unfold okPk
  simp only [Bool.and_eq_true, inR_iffK, isW_iff, decide_eq_true_iff]

/-! ### sums in a circle -/
def rep (n : Int) : Int := if n = 0 then 0 else (n - 1) % 65535 + 1
theorem rep_small {n : Int} (h0 : 0 ≤ n) (h1 : n ≤ 65535) : rep n = n := by
  unfold rep
  split <;> omega
theorem addW_rep {a b : Int} (ha : 0 ≤ a) (hb0 : 0 ≤ b) (hb1 : b ≤ 65535) : addW (rep a) b = rep (a + b) := by
  unfold addW rep
  split <;> split <;> split <;> omega
def sumI (l : List Int) : Int := l.foldl (· + ·) 0
theorem foldl_add (l : List Int) (s : Int) : l.foldl (· + ·) s = s + sumI l := by
  unfold sumI
  induction l generalizing s with
  | nil => simp
  | cons x l ih => rw [List.foldl_cons, List.foldl_cons, ih, ih (0 + x)]; omega
theorem sumI_cons (x : Int) (l : List Int) : sumI (x :: l) = x + sumI l := by
  conv => lhs; unfold sumI
  rw [List.foldl_cons, foldl_add]
  omega
theorem sumI_nonneg {l : List Int} (h : ∀ x ∈ l, 0 ≤ x ∧ x ≤ 65535) : 0 ≤ sumI l := by
  induction l with
  | nil => decide
  | cons x l ih =>
    rw [sumI_cons]
    have := ih (fun y hy => h y (by simp [hy]))
    have := h x (by simp)
    omega
theorem foldl_rep {l : List Int} (h : ∀ x ∈ l, 0 ≤ x ∧ x ≤ 65535) (s : Int) (hs : 0 ≤ s) : l.foldl addW (rep s) = rep (s + sumI l) := by
  induction l generalizing s with
  | nil => unfold sumI; simp
  | cons x l ih =>
    have hx := h x (by simp)
    rw [List.foldl_cons, addW_rep hs hx.1 hx.2, ih (fun y hy => h y (by simp [hy])) _ (by omega), sumI_cons]
    congr 1
    omega
theorem tot_rep {l : List Int} (h : ∀ x ∈ l, 0 ≤ x ∧ x ≤ 65535) : tot l = rep (sumI l) := by
  have := foldl_rep h 0 (Int.le_refl _)
  rw [rep_small (Int.le_refl _) (by decide)] at this
  unfold tot
  rw [this]
  congr 1
  omega
theorem rep_range {n : Int} (h : 0 ≤ n) : 0 ≤ rep n ∧ rep n ≤ 65535 := by
  unfold rep
  split <;> omega
theorem tot_range {l : List Int} (h : ∀ x ∈ l, 0 ≤ x ∧ x ≤ 65535) : 0 ≤ tot l ∧ tot l ≤ 65535 := by
  rw [tot_rep h]
  exact rep_range (sumI_nonneg h)
theorem tot_snoc (l : List Int) (x : Int) : tot (l ++ [x]) = addW (tot l) x := by
  unfold tot
  rw [List.foldl_append]
  rfl
theorem all_words {l : List Int} (h : l.all isW = true) : ∀ x ∈ l, 0 ≤ x ∧ x ≤ 65535 := fun x hx => isW_iff.1 (List.all_eq_true.1 h x hx)
theorem wordsP_in {x : Pk} (h : okPk x = true) {c : Int} (h0 : 0 ≤ c) (h1 : c ≤ 65535) : ∀ y ∈ wordsP x c, 0 ≤ y ∧ y ≤ 65535 := by
  obtain ⟨g1, g2, g3, _, g5⟩ := okPk_iff.1 h
  intro y hy
  unfold wordsP at hy
  rcases List.mem_append.1 hy with hy | hy
  · simp only [List.mem_cons, List.not_mem_nil, or_false] at hy
    rcases hy with rfl | rfl | rfl | rfl | rfl | rfl <;> omega
  · exact all_words g5 y hy
theorem sum_words (x : Pk) (c : Int) : sumI (wordsP x c) = x.k + c + x.fa + x.ta + x.fp + x.tp + sumI x.d := by
  unfold wordsP
  simp only [List.cons_append, List.nil_append, sumI_cons]
  omega
theorem sum_d {x : Pk} (h : okPk x = true) : 0 ≤ sumI x.d := sumI_nonneg (all_words (okPk_iff.1 h).2.2.2.2)
theorem chk_range {x : Pk} (h : okPk x = true) : 0 ≤ chk x ∧ chk x ≤ 65535 := by
  have := tot_range (wordsP_in h (c := 0) (by omega) (by omega))
  unfold chk
  omega
theorem wordsP_len (x : Pk) (c : Int) : (wordsP x c).length = 6 + x.d.length := by
  unfold wordsP
  rw [List.length_append]
  rfl
theorem pack_len (x : Pk) : (packV x).length ≤ 18 := by
  unfold packV
  split
  · next h =>
    rw [wordsP_len]
    have := (okPk_iff.1 h).2.2.2.1
    omega
  · simp
theorem checkV_neg {x : Pk} (h : okPk x = false) : checkV x = -1 := by unfold checkV; rw [h]; rfl
theorem checkV_ok {x : Pk} (h : okPk x = true) : checkV x = chk x := by unfold checkV; rw [h]; rfl
theorem packV_ok {x : Pk} (h : okPk x = true) : packV x = wordsP x (chk x) := by unfold packV; rw [h]; rfl
theorem packV_bad {x : Pk} (h : okPk x = false) : packV x = [] := by unfold packV; rw [h]; rfl
theorem tot_right {x : Pk} (h : okPk x = true) : tot (wordsP x (chk x)) = 65535 := by
  obtain ⟨h0, h1⟩ := chk_range h
  rw [tot_rep (wordsP_in h h0 h1), sum_words]
  unfold chk
  rw [tot_rep (wordsP_in h (c := 0) (by omega) (by omega)), sum_words]
  have := sum_d h
  obtain ⟨g1, g2, g3, _, _⟩ := okPk_iff.1 h
  generalize sumI x.d = S at *
  unfold rep
  split <;> split <;> omega
theorem mk_words (x : Pk) (c : Int) : mkPk (wordsP x c) = x := by
  unfold mkPk wordsP
  cases x
  rfl
theorem unpack_pack {x : Pk} (h : okPk x = true) : unpackO (packV x) = true ∧ unpackP (packV x) = x := by
  have e : mkPk (packV x) = x := by rw [packV_ok h, mk_words]
  have ho : unpackO (packV x) = true := by
    unfold unpackO
    rw [e, h, decide_eq_true rfl, packV_ok h, wordsP_len]
    exact (by rw [decide_eq_true (by omega)]; rfl)
  exact ⟨ho, by unfold unpackP; rw [ho, if_pos rfl, e]⟩
theorem unpack_some {l : List Int} (h : unpackO l = true) : okPk (unpackP l) = true ∧ packV (unpackP l) = l := by
  unfold unpackP
  rw [if_pos h]
  unfold unpackO at h
  simp only [Bool.and_eq_true, decide_eq_true_iff] at h
  exact ⟨h.2.1, h.2.2⟩
/-- The reference's way: the second number is the check. -/
theorem words_mk {l : List Int} (h : 6 ≤ l.length) : wordsP (mkPk l) ((l[1]?).getD 0) = l := by
  match l, h with
  | a :: b :: c :: d :: e :: f :: r, _ => rfl
theorem unpackO_spec {l : List Int} (h : 6 ≤ l.length) (hk : okPk (mkPk l) = true) : unpackO l = decide ((l[1]?).getD 0 = chk (mkPk l)) := by
  unfold unpackO
  rw [hk, packV_ok hk, decide_eq_true h]
  simp only [Bool.true_and]
  refine decide_eq_decide.2 ?_
  constructor
  · intro e
    conv => lhs; rw [← e]
    rfl
  · intro e
    rw [← e]
    exact words_mk h
theorem rev_ok {x : Pk} (h : okPk x = true) : okPk (swapPk x) = true ∧ chk (swapPk x) = chk x := by
  have h' := okPk_iff.1 h
  have h2 : okPk (swapPk x) = true := okPk_iff.2 ⟨h'.1, h'.2.2.1, h'.2.1, h'.2.2.2⟩
  refine ⟨h2, ?_⟩
  unfold chk
  rw [tot_rep (wordsP_in h (c := 0) (by omega) (by omega)), tot_rep (wordsP_in h2 (c := 0) (by omega) (by omega)), sum_words, sum_words]
  congr 2
  show x.k + 0 + x.ta + x.fa + x.tp + x.fp + sumI x.d = _
  omega
/-! ### checks turned -/
def updV (c o n : Int) : Int := if isW c && (isW o && isW n) then 65535 - tot [65535 - c, 65535 - o, n] else -1
theorem upd_tot {c o n : Int} (hc : isW c = true) (ho : isW o = true) (hn : isW n = true) : updV c o n = 65535 - rep (65535 - c + (65535 - o) + n) ∧ isW (updV c o n) = true := by
  rw [isW_iff] at hc ho hn
  have e : updV c o n = 65535 - rep (65535 - c + (65535 - o) + n) := by
    unfold updV
    rw [isW_iff.2 hc, isW_iff.2 ho, isW_iff.2 hn]
    simp only [Bool.and_self, if_true]
    rw [tot_rep (by
      intro x hx
      simp only [List.mem_cons, List.not_mem_nil, or_false] at hx
      rcases hx with rfl | rfl | rfl <;> omega)]
    simp only [sumI_cons, show sumI [] = 0 from rfl]
    congr 2
    omega
  refine ⟨e, isW_iff.2 ?_⟩
  rw [e]
  have := rep_range (n := 65535 - c + (65535 - o) + n) (by omega)
  omega
theorem chk_update {x : Pk} (h : okPk x = true) {a p : Int} (ha : 0 < a) (ha1 : a ≤ 65535) (hp : 0 < p) (hp1 : p ≤ 65535) : updV (updV (chk x) x.fa a) x.fp p = checkV ⟨x.k, a, p, x.ta, x.tp, x.d⟩ ∧ isW (updV (chk x) x.fa a) = true := by
  have h' := okPk_iff.1 h
  have h2 : okPk ⟨x.k, a, p, x.ta, x.tp, x.d⟩ = true := okPk_iff.2 ⟨h'.1, ⟨⟨by show 0 ≤ a; omega, ha1⟩, by show 0 ≤ p; omega, hp1⟩, h'.2.2⟩
  obtain ⟨e1, w1⟩ := upd_tot (isW_iff.2 (chk_range h)) (isW_iff.2 h'.2.1.1) (isW_iff.2 (show 0 ≤ a ∧ a ≤ 65535 by omega))
  obtain ⟨e2, _⟩ := upd_tot w1 (isW_iff.2 h'.2.1.2) (isW_iff.2 (show 0 ≤ p ∧ p ≤ 65535 by omega))
  refine ⟨?_, w1⟩
  rw [e2, e1, checkV_ok h2]
  unfold chk
  rw [tot_rep (wordsP_in h (c := 0) (by omega) (by omega)), tot_rep (wordsP_in h2 (c := 0) (by omega) (by omega)), sum_words, sum_words]
  have := sum_d h
  obtain ⟨g1, g2, g3, _, _⟩ := h'
  simp only
  generalize sumI x.d = S at *
  unfold rep
  split <;> split <;> split <;> split <;> omega
/-- One more in the last number: no packet's numbers. -/
theorem torn {x : Pk} (h : okPk x = true) {l : List Int} {y : Int} (hl : packV x = l ++ [y]) : unpackO (l ++ [y + 1]) = false := by
  cases ho : unpackO (l ++ [y + 1])
  · rfl
  exfalso
  obtain ⟨h1, h2⟩ := unpack_some ho
  have t1 := tot_right h
  have t2 := tot_right h1
  rw [← packV_ok h, hl, tot_snoc] at t1
  rw [← packV_ok h1, h2, tot_snoc] at t2
  have hb : ∀ z ∈ l ++ [y], 0 ≤ z ∧ z ≤ 65535 := by
    rw [← hl, packV_ok h]
    exact wordsP_in h (chk_range h).1 (chk_range h).2
  have hb2 : ∀ z ∈ l ++ [y + 1], 0 ≤ z ∧ z ≤ 65535 := by
    rw [← h2, packV_ok h1]
    exact wordsP_in h1 (chk_range h1).1 (chk_range h1).2
  have r := tot_range (l := l) (fun z hz => hb z (by simp [hz]))
  have r1 := hb y (by simp)
  have r2 := hb2 (y + 1) (by simp)
  generalize tot l = T at *
  unfold addW at t1 t2
  split at t1 <;> split at t2 <;> omega
end Go.Proofs.Ytlgfmnognhojnaa
