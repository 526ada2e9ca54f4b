/- No function of the program leads back to itself: each call leads to one of a lesser height. -/
import Derived.Test.YtlgfmnognhojnaaChecked
import Derived.JoinedOf
namespace Go.Proofs.Ytlgfmnognhojnaa
open Go
theorem via_low {P : Program} {rk : Nat → Nat} (hd : ∀ g fn, P.funcs[g]? = some fn → ∀ h ∈ P.leadsTo fn, rk h < rk g) :
    ∀ (n : Nat) (todo seen : List FuncId) (x : FuncId), x ∈ P.closureVia n todo seen → x ∈ seen ∨ ∃ t ∈ todo, rk x ≤ rk t := by
  intro n
  induction n with
  | zero =>
    intro todo seen x hx
    simp only [Program.closureVia, List.mem_reverse] at hx
    exact .inl hx
  | succ n ih =>
    intro todo seen x hx
    cases todo with
    | nil =>
      simp only [Program.closureVia, List.mem_reverse] at hx
      exact .inl hx
    | cons f todo =>
      simp only [Program.closureVia] at hx
      split at hx
      · rcases ih _ _ _ hx with h | ⟨t, ht, h⟩
        · exact .inl h
        · exact .inr ⟨t, by simp [ht], h⟩
      · rcases ih _ _ _ hx with h | ⟨t, ht, h⟩
        · rcases List.mem_cons.1 h with rfl | h
          · exact .inr ⟨x, by simp, Nat.le_refl _⟩
          · exact .inl h
        · rcases List.mem_append.1 ht with ht | ht
          · cases hf : P.funcs[f]? with
            | none => rw [hf] at ht; simp at ht
            | some fn =>
              rw [hf] at ht
              have := hd f fn hf t (by simpa using ht)
              exact .inr ⟨f, by simp, by omega⟩
          · exact .inr ⟨t, by simp [ht], h⟩
theorem not_round {P : Program} {rk : Nat → Nat} (hd : ∀ g fn, P.funcs[g]? = some fn → ∀ h ∈ P.leadsTo fn, rk h < rk g) (f : FuncId) : P.recurses f = P.unfollowed f := by
  unfold Program.recurses
  have : ((P.closure f).any fun g => ((P.funcs[g]?).elim [] P.leadsTo).any fun h => (P.closure h).contains g) = false := by
    rw [List.any_eq_false]
    intro g _ hc
    obtain ⟨h, hh, hg⟩ := List.any_eq_true.1 hc
    cases hf : P.funcs[g]? with
    | none => rw [hf] at hh; simp at hh
    | some fn =>
      rw [hf] at hh
      have h1 := hd g fn hf h (by simpa using hh)
      have h2 : g ∈ P.closure h := by simpa using hg
      unfold Program.closure at h2
      rcases via_low hd _ _ _ _ h2 with h3 | ⟨t, ht, h3⟩
      · simp at h3
      · simp at ht
        subst ht
        omega
  rw [this, Bool.or_false]
def heights : List Nat := [0, 0, 2, 11, 11, 11, 8, 11, 10, 8, 7, 2, 1, 7, 7, 2, 6, 4, 4, 10, 5, 6, 4, 1, 9, 2, 1, 3, 7, 3, 5, 1, 6, 1, 6, 1, 2, 1, 2, 1, 3, 2, 2, 2, 3, 2, 3, 2, 1, 1, 1, 3, 3, 1, 3, 3, 4, 2, 2, 2, 5, 2, 8, 1, 2, 2, 1, 1, 2, 1, 1, 3, 2, 2, 4, 4, 1, 1, 1, 5, 5, 2, 1, 1, 1, 1, 2, 2, 2, 2, 3, 1, 1, 7, 3, 3, 1, 3, 2, 1, 1, 6, 4, 4, 3, 1, 2, 2, 1, 2, 1, 1, 0, 0, 0, 0, 0, 0, 0, 0, 0, 0, 0, 0, 0, 0, 0, 0]
theorem heights_low : ((List.range 128).all fun g => ((Try.prog.funcs[g]?).elim [] Try.prog.leadsTo).all fun h => decide (heights.getD h 0 < heights.getD g 0)) = true := by kernel_rfl
theorem funcs_few : Try.prog.funcs.size = 128 := by kernel_rfl
theorem no_round (f : FuncId) : Try.prog.recurses f = Try.prog.unfollowed f := by
  refine not_round (rk := fun g => heights.getD g 0) ?_ f
  intro g fn hg h hh
  have hlt : g < 128 := by rw [← funcs_few]; exact (Array.getElem?_eq_some_iff.1 hg).1
  have := List.all_eq_true.1 heights_low g (List.mem_range.2 hlt)
  rw [hg] at this
  exact of_decide_eq_true (List.all_eq_true.1 this h (by simpa using hh))
/-! ### the dump's word on its make, read once -/
def sp : Char := Char.ofNat 32
theorem words_one : ∀ (a : List Char), (∀ c ∈ a, c ≠ sp) → wordsSigns a = [a]
  | [], _ => rfl
  | c :: r, h => by
    have ih := words_one r (fun x hx => h x (by simp [hx]))
    have hc : c ≠ sp := h c (by simp)
    rw [wordsSigns.eq_3 c r (by intro e; exact hc e), ih]
theorem words_more : ∀ (a r : List Char), (∀ c ∈ a, c ≠ sp) → wordsSigns (a ++ sp :: r) = a :: wordsSigns r
  | [], r, _ => rfl
  | c :: a, r, h => by
    have ih := words_more a r (fun x hx => h x (by simp [hx]))
    have hc : c ≠ sp := h c (by simp)
    rw [List.cons_append, wordsSigns.eq_3 c (a ++ sp :: r) (by intro e; exact hc e), ih]
def joined : List (List Char) → List Char
  | [] => []
  | [w] => w
  | w :: v :: r => w ++ sp :: joined (v :: r)
theorem words_joined : ∀ (ws : List (List Char)), ws ≠ [] → (∀ w ∈ ws, ∀ c ∈ w, c ≠ sp) → wordsSigns (joined ws) = ws
  | [], h, _ => absurd rfl h
  | [w], _, h => words_one w (h w (by simp))
  | w :: v :: r, _, h => by
    show wordsSigns (w ++ sp :: joined (v :: r)) = _
    rw [words_more w _ (h w (by simp)), words_joined (v :: r) (by simp) (fun x hx => h x (by simp [hx]))]
def theWords : List (List Char) := ([[104, 97, 114, 110, 101, 115, 115], [99, 56, 54, 52, 102, 100, 102, 100, 100, 57, 99, 49, 54, 51, 54, 57, 99, 55, 48, 57, 102, 51, 102, 98, 53, 51, 100, 98, 48, 57, 56, 54, 98, 52, 56, 98, 55, 52, 55, 56, 54, 50, 54, 101, 48, 97, 49, 49, 56, 50, 53, 99, 57, 56, 54, 51, 49, 102, 98, 54, 54, 99, 55, 53], [99, 117, 116], [97, 116], [108, 111, 111, 112, 46, 101, 120, 97, 109, 112, 108, 101, 47, 112, 111, 114, 116, 109, 97, 112, 112, 101, 114, 47, 108, 97, 119, 115, 46, 70, 110, 84, 105, 99, 107, 71, 97, 116, 101], [108, 111, 111, 112, 46, 101, 120, 97, 109, 112, 108, 101, 47, 112, 111, 114, 116, 109, 97, 112, 112, 101, 114, 47, 108, 97, 119, 115, 46, 70, 110, 84, 105, 99, 107, 71, 97, 116, 101, 65, 108, 108], [108, 111, 111, 112, 46, 101, 120, 97, 109, 112, 108, 101, 47, 112, 111, 114, 116, 109, 97, 112, 112, 101, 114, 47, 108, 97, 119, 115, 46, 70, 110, 84, 105, 99, 107, 71, 97, 116, 101, 83, 97, 109, 101], [108, 111, 111, 112, 46, 101, 120, 97, 109, 112, 108, 101, 47, 112, 111, 114, 116, 109, 97, 112, 112, 101, 114, 47, 108, 97, 119, 115, 46, 70, 110, 69, 120, 97, 99, 116, 86, 97, 108, 105, 100, 71, 97, 116, 101], [108, 111, 111, 112, 46, 101, 120, 97, 109, 112, 108, 101, 47, 112, 111, 114, 116, 109, 97, 112, 112, 101, 114, 47, 108, 97, 119, 115, 46, 70, 110, 86, 97, 108, 105, 100, 71, 97, 116, 101]] : List (List Nat)).map (fun l => l.map Char.ofNat)
theorem order_words : wordsSigns Try.prog.initOrder.toList = theWords := by
  have h : Try.prog.initOrder = String.ofList (joined theWords) := by kernel_rfl
  rw [h, String.toList_ofList]
  refine words_joined theWords (by simp [theWords]) ?_
  have hall : (theWords.all fun w => w.all fun c => c != sp) = true := by kernel_rfl
  intro w hw c hc
  have := List.all_eq_true.1 (List.all_eq_true.1 hall w hw) c hc
  simpa using this
theorem make_words {P : Program} {rest : List (List Char)} (h : behindMainWord (wordsSigns P.initOrder.toList) = "cut".toList :: rest) : P.make = some .cut := by
  unfold Program.make
  rw [h]
  rfl
theorem lifts_words {P : Program} {ws : List (List Char)} (h : behindMainWord (wordsSigns P.initOrder.toList) = ws) (h1 : (stripLifts liftWords ws).1 = []) : P.headLifts = [] := by
  unfold Program.headLifts
  rw [h]
  simp only [h1]
  split <;> rfl
theorem final_words {P : Program} {rest : List (List Char)} (h : behindMainWord (wordsSigns P.initOrder.toList) = "cut".toList :: rest) (h1 : P.headLifts = []) : P.liftsFinal = false := by
  unfold Program.liftsFinal
  rw [h, h1]
  rfl
theorem may_words {P : Program} {rest : List (List Char)} (h : behindMainWord (wordsSigns P.initOrder.toList) = "cut".toList :: rest) (h1 : P.laysLater = false) (h2 : P.bearsReflect = false) (h3 : P.doorFits [] = true)
    (h4 : (stripLifts liftWords ("cut".toList :: rest)).1 = []) (h5 : (stripLifts liftWords ("cut".toList :: rest)).2.head? = some "cut".toList) : P.mayEnter = true := by
  unfold Program.mayEnter
  rw [h]
  simp only [h1, h2, h3, h4, h5]
  rfl
theorem behind : behindMainWord (wordsSigns Try.prog.initOrder.toList) = "cut".toList :: theWords.drop 3 := by
  rw [order_words]
  kernel_rfl
theorem strip1 : (stripLifts liftWords ("cut".toList :: theWords.drop 3)).1 = [] := by kernel_rfl
theorem strip2 : (stripLifts liftWords ("cut".toList :: theWords.drop 3)).2.head? = some "cut".toList := by kernel_rfl
theorem head_lifts : Try.prog.headLifts = [] := lifts_words behind strip1
theorem may_enter : Try.prog.mayEnter = true := may_words behind (by kernel_rfl) (by kernel_rfl) (by kernel_rfl) strip1 strip2
theorem lifts_final : Try.prog.liftsFinal = false := final_words behind head_lifts
theorem make_cut : Try.prog.make = some .cut := make_words behind
end Go.Proofs.Ytlgfmnognhojnaa
