/- The functions on contacts, walked. -/
import Derived.Test.YtlgfmnognhojnaaBase
namespace Go.Proofs.Ytlgfmnognhojnaa
open Go.RowKit

/-- The first place at which p holds, or -1. -/
def idx {α : Type} (p : α → Bool) (l : List α) : Int := match l.findIdx? p with | some i => (i : Int) | none => -1
theorem idx_at {α : Type} {p : α → Bool} {l : List α} {k : Nat} {x : α} (h : l[k]? = some x) (hp : p x = true) (hn : ∀ y ∈ l.take k, p y = false) : idx p l = k := by
  have hk := lt_of_get h
  have : l.findIdx? p = some k := by
    rw [List.findIdx?_eq_some_iff_getElem]
    refine ⟨hk, ?_, ?_⟩
    · rw [List.getElem?_eq_getElem hk] at h; injection h with h; rw [h]; exact hp
    · intro j hj
      have hy : l[j]'(by omega) ∈ l.take k := by
        rw [List.mem_take_iff_getElem]
        exact ⟨j, by omega, rfl⟩
      rw [hn _ hy]; simp
  simp [idx, this]
theorem idx_not {α : Type} {p : α → Bool} {l : List α} (hn : ∀ y ∈ l, p y = false) : idx p l = -1 := by
  have : l.findIdx? p = none := by
    rw [List.findIdx?_eq_none_iff]
    intro x hx
    exact hn x hx
  simp [idx, this]
theorem idx_nonneg {α : Type} (p : α → Bool) (l : List α) : decide (0 ≤ idx p l) = l.any p := by
  cases h : l.any p
  · rw [List.any_eq_false] at h
    rw [idx_not (fun y hy => by simpa using h y hy)]; rfl
  · rw [List.any_eq_true] at h
    obtain ⟨x, hx, hp⟩ := h
    unfold idx
    cases hf : l.findIdx? p with
    | none => rw [List.findIdx?_eq_none_iff] at hf; have := hf x hx; rw [hp] at this; cases this
    | some i => simp
theorem idx_found {α : Type} {p : α → Bool} {l : List α} (h : l.any p = true) : ∃ k x, l[k]? = some x ∧ p x = true ∧ (∀ y ∈ l.take k, p y = false) ∧ idx p l = k := by
  rw [List.any_eq_true] at h
  obtain ⟨x, hx, hp⟩ := h
  cases hf : l.findIdx? p with
  | none => rw [List.findIdx?_eq_none_iff] at hf; have := hf x hx; rw [hp] at this; cases this
  | some i =>
    rw [List.findIdx?_eq_some_iff_getElem] at hf
    obtain ⟨hi, h1, h2⟩ := hf
    refine ⟨i, l[i], List.getElem?_eq_getElem hi, h1, ?_, ?_⟩
    · intro y hy
      obtain ⟨j, hj, hjy⟩ := mem_take_of hy
      have := h2 j hj
      rw [List.getElem?_eq_getElem (by omega)] at hjy
      injection hjy with hjy
      rw [hjy] at this
      simpa using this
    · exact idx_at (List.getElem?_eq_getElem hi) h1 (by
        intro y hy
        obtain ⟨j, hj, hjy⟩ := mem_take_of hy
        have := h2 j hj
        rw [List.getElem?_eq_getElem (by omega)] at hjy
        injection hjy with hjy
        rw [hjy] at this
        simpa using this)
theorem none_step {α : Type} {p : α → Bool} {l : List α} {k : Nat} {x : α} (h : l[k]? = some x) (hx : p x = false) (hn : ∀ y ∈ l.take k, p y = false) : ∀ y ∈ l.take (k + 1), p y = false := by
  rw [take_succ h]
  intro y hy
  rcases List.mem_append.1 hy with hy | hy
  · exact hn y hy
  · simp at hy; subst hy; exact hx
theorem eqinCt (x y : Ct) (w : World) : (Op.equalIn 10000 75 (.agg #[.int .i64 x.p, .int .i64 x.a, .int .i64 x.q]) (.agg #[.int .i64 y.p, .int .i64 y.a, .int .i64 y.q])).run Try.prog w = .ok (decide (x = y)) w := by
  have u3 := Try.underlying3
  have a3 := Try.isAgg3
  have z3 := Try.sizeOf3
  have u27 := Try.underlying62
  have a27 := Try.isAgg62
  have z27 := Try.sizeOf62
  have hS : Try.prog.underlying 75 = some (.struct (Try.prog.fieldsOf 75)) := by kernel_rfl
  have hp : Try.prog.stoodInHeld 75 = false := by kernel_rfl
  have hS2 : Try.prog.underlying 62 = some (.struct (Try.prog.fieldsOf 62)) := by kernel_rfl
  have hp2 : Try.prog.stoodInHeld 62 = false := by kernel_rfl
  rw [show (10000 : Nat) = 9999 + 1 from rfl, run_equalIn_agg w 9999 75 _ _ hS hp]
  simp only [Program.fieldsOf, Try.underlying75]
  go_simp
  by_cases h1 : x.p = y.p <;> by_cases h2 : x.a = y.a <;> by_cases h3 : x.q = y.q <;> simp [h1, h2, h3, Ct.ext_iff]
theorem eqCt (p a q p' a' q' : Int) {r : Bool} (h : decide ((⟨p, a, q⟩ : Ct) = ⟨p', a', q'⟩) = r) (w : World) : (binOp .eql 75 (.agg #[.int .i64 p, .int .i64 a, .int .i64 q]) (.agg #[.int .i64 p', .int .i64 a', .int .i64 q'])).run Try.prog w = .ok (.bool r) w := by
  rw [run_eql_struct, eqinCt ⟨p, a, q⟩ ⟨p', a', q'⟩ w, h]; rfl
theorem neqCt (p a q p' a' q' : Int) {r : Bool} (h : decide ((⟨p, a, q⟩ : Ct) = ⟨p', a', q'⟩) = r) (w : World) : (binOp .neq 75 (.agg #[.int .i64 p, .int .i64 a, .int .i64 q]) (.agg #[.int .i64 p', .int .i64 a', .int .i64 q'])).run Try.prog w = .ok (.bool (!r)) w := by
  rw [run_neq_struct, eqinCt ⟨p, a, q⟩ ⟨p', a', q'⟩ w, h]; rfl
set_option maxHeartbeats 1000000 in
theorem Index_ct (A : Option Addr) (c : Nat) (l : List Ct) (p a q : Int) (w : World) (hl : l.length ≤ 2000000) (hs : Sl encC 3 w A c l) :
    Calls Try.prog 92 #[.slice A l.length c, .agg #[.int .i64 p, .int .i64 a, .int .i64 q]] w (Ret w (.int .i64 (idx (fun x => decide ((⟨p, a, q⟩ : Ct) = x)) l))) := by
  go_enter Try.func92, Try.ntmps92
  go_wp2
  go_loopw [8] (fun i wr => ∃ k : Nat, k ≤ l.length ∧ i = .int .i64 k ∧ Below (w.heap.size + 1) (w.alloc (.cells #[.int .i64 p, .int .i64 a, .int .i64 q] 75)) wr ∧ ∀ y ∈ l.take k, decide ((⟨p, a, q⟩ : Ct) = y) = false) (fun i _ => l.length - (intOf i).toNat)
  case atStart => exact ⟨0, Nat.zero_le _, rfl, Below.refl _ _, by simp⟩
  case round =>
    obtain ⟨k, hk, rfl, hb, hn⟩ := hrel
    have HN := Lib.hid hn
    clear hn
    have hb0 : Below w.heap.size w wr := ((Below.refl _ _).alloc (Nat.le_refl _) _).trans (hb.mono (by omega))
    have b0 : wr.cell? ⟨w.heap.size, 0, none⟩ = some (.int .i64 p) := bcell hb (by simp) (cell_of_row _ _ _ _ _ _ (heap_alloc_new w _))
    have b1 : wr.cell? ⟨w.heap.size, 1, none⟩ = some (.int .i64 a) := bcell hb (by simp) (cell_of_row _ _ _ _ _ _ (heap_alloc_new w _))
    have b2 : wr.cell? ⟨w.heap.size, 2, none⟩ = some (.int .i64 q) := bcell hb (by simp) (cell_of_row _ _ _ _ _ _ (heap_alloc_new w _))
    by_cases hlt : k < l.length
    · obtain ⟨b, o, rfl, hbs, hc⟩ := hs.base hlt
      obtain ⟨p', a', q', hx⟩ := ct_at hlt
      obtain ⟨d0, d1, d2⟩ := hc.ct hb0 hbs hx
      have X := Lib.hid hx
      clear hs hc hx
      cases he : decide ((⟨p, a, q⟩ : Ct) = ⟨p', a', q'⟩)
      all_goals
        have HE := Lib.hid he
        have E := eqCt _ _ _ _ _ _ he
        clear he
        go_wp2
        go_quiet (fail)
        go_wp2
      · go_roundw
        case rel => exact ⟨k + 1, by omega, by go_num, bdrewN hb _, none_step X.out HE.out HN.out⟩
        case measure => simp [intOf]; omega
      · go_ret
        exact ⟨by rw [idx_at X.out HE.out HN.out]; rfl, bdrewN hb0 _⟩
    · go_wp2
      go_ret
      have := HN.out
      rw [List.take_of_length_le (by omega)] at this
      exact ⟨by rw [idx_not this]; rfl, hb0⟩
theorem Contains_ct (A : Option Addr) (c n : Nat) (l : List Ct) (p a q : Int) (w : World) (hn : l.length = n) (hl : n ≤ 2000000) (hs : Sl encC 3 w A c l) :
    Calls Try.prog 61 #[.slice A n c, .agg #[.int .i64 p, .int .i64 a, .int .i64 q]] w (Ret w (.bool (decide ((⟨p, a, q⟩ : Ct) ∈ l)))) := by
  subst hn
  have hi := idx_nonneg (fun x => decide ((⟨p, a, q⟩ : Ct) = x)) l
  have e : l.any (fun x => decide ((⟨p, a, q⟩ : Ct) = x)) = decide ((⟨p, a, q⟩ : Ct) ∈ l) := by
    rw [Bool.eq_iff_iff]; simp
  have HI := Lib.hid (hi.trans e)
  have hs' := (hs.below ((Below.refl _ _).alloc (Nat.le_refl _) (.cells #[.int .i64 p, .int .i64 a, .int .i64 q] 75)))
  have HS := Lib.hid hs'
  clear hi e hs hs'
  go_enter Try.func61, Try.ntmps61
  go_wp2_with (go_at_call 92; refine (Index_ct _ _ _ _ _ _ _ hl HS.out).mono ?_; rintro e w2 ⟨rfl, hb2⟩)
  go_ret
  refine ⟨?_, bstep ((Below.refl _ _).alloc (Nat.le_refl _) _) hb2 (by simp)⟩
  rw [← HI.out]; rfl
set_option maxHeartbeats 1000000 in
theorem impl_Contact_valid (p a q : Int) (w : World) : Calls Try.prog 60 #[.agg #[.int .i64 p, .int .i64 a, .int .i64 q]] w (Ret w (.bool (okC ⟨p, a, q⟩))) := by
  unfold okC
  cases h1 : inR p 1000 1007
  all_goals
    have H1 := Lib.hid h1
    clear h1
    go_enter Try.func60, Try.ntmps60
    go_wp2_with (first | (go_at_call 57; refine (impl_isOutside _ _).mono ?_; rintro e w' ⟨rfl, rfl⟩; rw [H1.out]) | (go_at_call 56; refine (impl_End_valid _ _ _).mono ?_; rintro e w2 ⟨rfl, hb2⟩))
    go_ret
  · exact ⟨by simp, (Below.refl _ _).alloc (Nat.le_refl _) _⟩
  · exact ⟨by simp, bstep ((Below.refl _ _).alloc (Nat.le_refl _) _) hb2 (by simp)⟩
end Go.Proofs.Ytlgfmnognhojnaa
