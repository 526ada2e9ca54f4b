/- Copies of contacts, contacts without some; NoteContact, DropContacts: the program's and the reference's, walked. -/
import Derived.Test.YtlgfmnognhojnaaCl
import Derived.Test.YtlgfmnognhojnaaCm
namespace Go.Proofs.Ytlgfmnognhojnaa
open Go.RowKit

/-- A result: it reads as l, lies in memory of its own from B on, and may be written. -/
def Out {α : Type} (enc : α → List Value) (k B : Nat) (w : World) (A : Option Addr) (c : Nat) (l : List α) : Prop := Sl enc k w A c l ∧ Fr B w A l.length
theorem Ow.out {α : Type} {enc : α → List Value} {k : Nat} {e : TypeId} {B c : Nat} {w : World} {A : Option Addr} {l : List α} (h : Ow enc k e B w A c l) : Out enc k B w A c l := ⟨h.sl, h.fr⟩
theorem Out.below {α : Type} {enc : α → List Value} {k B c : Nat} {w w' : World} {A : Option Addr} {l : List α} (h : Out enc k B w A c l) (hb : Below w.heap.size w w') : Out enc k B w' A c l := ⟨h.1.below hb, h.2.below hb⟩
theorem Out.mono {α : Type} {enc : α → List Value} {k B B' c : Nat} {w : World} {A : Option Addr} {l : List α} (h : Out enc k B w A c l) (hB : B' ≤ B) : Out enc k B' w A c l := ⟨h.1, h.2.mono hB⟩
theorem Sl.cap {α : Type} {enc : α → List Value} {k c : Nat} {w : World} {A : Option Addr} {l : List α} (h : Sl enc k w A c l) : Sl enc k w A l.length l := ⟨Nat.le_refl _, h.2⟩
theorem Ow.empty {α : Type} {enc : α → List Value} {k : Nat} {e : TypeId} {B : Nat} (w : World) (hB : B ≤ w.heap.size) : Ow enc k e B (w.alloc (.cells #[] e)) (some ⟨w.heap.size, 0, none⟩) 0 ([] : List α) :=
  .inr ⟨_, rfl, hB, Nat.le_refl _, Nat.zero_le _, #[], heap_alloc_new w _, by simp, by simp, by simp⟩
theorem Clip_ct (A : Option Addr) (c n : Nat) (w : World) (hn : n ≤ c) (hc : c ≤ maxLen) :
    Calls Try.prog 67 #[.slice A n c] w (Same w (.slice A n n)) := by
  unfold maxLen at hc
  go_enter Try.func67, Try.ntmps67
  go_wp2
  go_ret
  exact ⟨rfl, rfl⟩
set_option maxHeartbeats 1000000 in
theorem Clone_ct (A : Option Addr) (c n : Nat) (l : List Ct) (w : World) (hn : n = l.length) (hl : l.length ≤ 2000000) (hs : Sl encC 3 w A c l) :
    Calls Try.prog 69 #[.slice A n c] w (fun e w' => ∃ A' c', e = .returned (.slice A' n c') ∧ Ow encC 3 75 w.heap.size w' A' c' l ∧ Below w.heap.size w w') := by
  subst hn
  rcases A with _ | ad
  · have hl0 : l = [] := by
      by_cases h : l = []
      · exact h
      · obtain ⟨b, o, h1, _⟩ := hs.2 h
        cases h1
    subst hl0
    have hnil := fun W => Lib.run_eql_slice_nil (P := Try.prog) W 26 75 none 0 c 0 0 Try.underlying26
    go_enter Try.func69, Try.ntmps69
    go_wp2
    go_ret
    exact ⟨none, 0, rfl, Ow.nil, Below.refl _ _⟩
  · have hnil := fun W => Lib.run_eql_slice_nil (P := Try.prog) W 26 75 (some ad) l.length c 0 0 Try.underlying26
    have HS := Lib.hid (hs.below ((Below.refl _ _).alloc (Nat.le_refl _) (.cells #[] 75)))
    clear hs
    go_enter Try.func69, Try.ntmps69
    go_wp2_with (at_builtin; refine wpList_app elC rfl (.tmp 5) (.tmp 6) rfl w.heap.size _ _ _ [] rfl rfl (Ow.empty w (Nat.le_refl _)) _ _ _ l rfl rfl HS.out (by simp; omega) (by decide) (by simp) ?_; intro A' c' w2 hown hg _; simp only [List.nil_append] at hown ⊢)
    go_ret
    exact ⟨A', c', rfl, hown, below_app ((Below.refl _ _).alloc (Nat.le_refl _) _) hg (by simp) (fun g h => (by simp [blk] at h; omega))⟩
theorem clone_ct (A : Option Addr) (c n : Nat) (l : List Ct) (w : World) (hn : n = l.length) (hl : l.length ≤ 2000000) (hs : Sl encC 3 w A c l) :
    Calls Try.prog 65 #[.slice A n c] w (fun e w' => ∃ A', e = .returned (.slice A' n n) ∧ Out encC 3 w.heap.size w' A' n l ∧ Below w.heap.size w w') := by
  subst hn
  go_enter Try.func65, Try.ntmps65
  go_wp2_with (first | (go_at_call 69; refine (Clone_ct _ _ _ _ _ rfl hl hs).mono ?_; rintro e w2 ⟨A', c', rfl, hown, hb⟩; have hm := hown.capm; have hle := hown.le) | (go_at_call 67; refine (Clip_ct _ _ _ _ hle hm).mono ?_; rintro e w' ⟨rfl, rfl⟩))
  go_ret
  exact ⟨A', rfl, ⟨hown.sl.cap, hown.fr⟩, hb⟩
/-- Those for which f does not hold. -/
def keep {α : Type} (f : α → Bool) (l : List α) : List α := l.filter fun x => !f x
theorem drop_cons {α : Type} {l : List α} {k : Nat} {x : α} (h : l[k]? = some x) : l.drop k = x :: l.drop (k + 1) := by
  have hk := lt_of_get h
  rw [List.drop_eq_getElem_cons hk]
  rw [List.getElem?_eq_getElem hk] at h
  injection h with h
  rw [h]
theorem keep_snoc {α : Type} {f : α → Bool} {l : List α} {k : Nat} {x : α} (h : l[k]? = some x) : keep f (l.take (k + 1)) = keep f (l.take k) ++ (if f x then [] else [x]) := by
  rw [take_succ h]
  unfold keep
  rw [List.filter_append]
  cases hf : f x <;> simp [hf]
theorem keep_start {α : Type} {f : α → Bool} {l : List α} {k : Nat} {x : α} (h : l[k]? = some x) (hf : f x = true) (hn : ∀ y ∈ l.take k, f y = false) : keep f (l.take (k + 1)) = l.take k := by
  rw [keep_snoc h, hf, if_pos rfl, List.append_nil]
  unfold keep
  rw [List.filter_eq_self]
  intro y hy
  rw [hn y hy]
  rfl
theorem mid_get {α : Type} {F X l : List α} {n m : Nat} {x : α} (h1 : m = F.length) (h2 : m + X.length = n) (h : l[n]? = some x) : (F ++ X ++ l.drop n)[n]? = some x := by
  rw [List.getElem?_append_right (by rw [List.length_append]; omega), List.length_append, List.getElem?_drop]
  rw [show n + (n - (F.length + X.length)) = n from by omega]
  exact h
theorem mid_at {F X : List Ct} {m : Nat} (h1 : m = F.length) (h2 : 0 < X.length) (R : List Ct) : ∃ p a q, (F ++ X ++ R)[m]? = some ⟨p, a, q⟩ := ct_at (by rw [List.length_append, List.length_append]; omega)
theorem mid_set {F X l : List Ct} {n m : Nat} {x : Ct} (h1 : m = F.length) (hX : X ≠ []) (h : l[n]? = some x) : (F ++ X ++ l.drop n).set m x = F ++ [x] ++ (X.tail ++ [x]) ++ l.drop (n + 1) := by
  obtain ⟨y, X', rfl⟩ := List.exists_cons_of_ne_nil hX
  rw [List.append_assoc, List.set_append_right m _ (by omega), h1, Nat.sub_self, drop_cons h]
  simp
theorem one_below {w w' : World} {p a q : Int} {t : TypeId} (hb : Below (w.alloc (.cells #[.int .i64 p, .int .i64 a, .int .i64 q] t)).heap.size (w.alloc (.cells #[.int .i64 p, .int .i64 a, .int .i64 q] t)) w') :
    (w'.cell? ⟨w.heap.size, 0, none⟩ = some (.int .i64 p) ∧ w'.cell? ⟨w.heap.size, 1, none⟩ = some (.int .i64 a) ∧ w'.cell? ⟨w.heap.size, 2, none⟩ = some (.int .i64 q)) ∧ w.heap.size < w'.heap.size := by
  have hz := hb.size
  rw [alloc_size] at hz
  exact ⟨⟨bcell hb (by rw [alloc_size]; exact Nat.lt_succ_self _) (cell_of_row _ _ _ _ _ _ (heap_alloc_new w _)), bcell hb (by rw [alloc_size]; exact Nat.lt_succ_self _) (cell_of_row _ _ _ _ _ _ (heap_alloc_new w _)), bcell hb (by rw [alloc_size]; exact Nat.lt_succ_self _) (cell_of_row _ _ _ _ _ _ (heap_alloc_new w _))⟩, hz⟩
set_option maxHeartbeats 4000000 in
theorem DeleteFunc_ct (A : Option Addr) (c B : Nat) (l : List Ct) (g : FuncId) (cb : Array Value) (f : Ct → Bool) (w : World) (hl : l.length ≤ 2000000) (hs : Ow encC 3 75 B w A c l) (hB : B ≤ w.heap.size)
    (eg : ∀ args W, (callFunc g args).run Try.prog W = .ok (.enter g args) W) (hp : ∀ p a q W, w.grownBy W (blk A) → Calls Try.prog g (#[.agg #[.int .i64 p, .int .i64 a, .int .i64 q]] ++ cb) W (Ret W (.bool (f ⟨p, a, q⟩)))) :
    Calls Try.prog 68 #[.slice A l.length c, .func (.func g) #[] cb] w
      (fun e w' => e = .returned (.slice A (keep f l).length c) ∧ Ow encC 3 75 B w' A c (keep f l) ∧ w.grownBy w' (blk A)) := by
  have HP := Lib.hid hp
  have EG := Lib.hid eg
  have HPB := Lib.hid (fun p a q W (h : Below w.heap.size w W) => hp p a q W (grown_of_below h))
  have HSL := Lib.hid hs.sl
  clear hp
  cases hany : l.any f
  · have hi := idx_nonneg f l
    rw [hany] at hi
    have hi1 : idx f l = -1 := idx_not (by
      intro y hy
      rw [List.any_eq_false] at hany
      simpa using hany y hy)
    have hfl : (keep f l) = l := by
      unfold keep
      rw [List.filter_eq_self]
      intro y hy
      rw [List.any_eq_false] at hany
      simpa using hany y hy
    rw [hfl]
    have HI := Lib.hid hi1
    have HS := Lib.hid hs
    clear hi hi1 hfl hany hs eg
    go_enter Try.func68, Try.ntmps68
    go_wp2_with (go_at_call 84; refine (IndexFunc_ct _ _ _ _ _ f _ hl HSL.out EG.out HPB.out).mono ?_; rintro e w2 ⟨rfl, hb2⟩; rw [HI.out])
    go_ret
    exact ⟨rfl, HS.out.below hb2, grown_of_below hb2⟩
  · obtain ⟨k, x, hk, hfx, hkn, hki⟩ := idx_found hany
    have hne : l ≠ [] := by rintro rfl; simp at hk
    obtain ⟨gb, rfl, hgB, hlc, hcm, hbl⟩ := hs.resolve_left (by rintro ⟨_, _, h⟩; exact hne h)
    have hkl := lt_of_get hk
    have hm : c ≤ 9223372036854775807 := by unfold maxLen at hcm; omega
    have HK := Lib.hid hk
    have HF := Lib.hid hfx
    have HN := Lib.hid hkn
    have HI := Lib.hid hki
    have HBL := Lib.hid hbl
    have hgl := hbl.lt
    have hk1 : ((k : Int) == -1) = false := by rw [beq_eq_false_iff_ne]; omega
    clear hany hk hfx hkn hki hbl hs hne
    go_enter Try.func68, Try.ntmps68
    go_wp2_with (go_at_call 84; refine (IndexFunc_ct _ _ _ _ _ f _ hl HSL.out EG.out HPB.out).mono ?_; rintro e w2 ⟨rfl, hb2⟩; rw [HI.out])
    go_loopw [5, 6] (fun i j wr => ∃ (n m : Nat) (X : List Ct), n ≤ l.length ∧ j = .int .i64 n ∧ i = .int .i64 m ∧ m = (keep f (l.take n)).length ∧ m + X.length = n ∧ X ≠ [] ∧ Bl encC 3 75 wr gb (c * 3) (keep f (l.take n) ++ X ++ l.drop n) ∧ w.grownBy wr (some gb)) (fun _ j _ => l.length - (intOf j).toNat)
    case atStart =>
      refine ⟨k + 1, k, [x], by omega, by go_num, rfl, ?_, by simp, by simp, ?_, grown_of_below hb2⟩
      · rw [keep_start HK.out HF.out HN.out, List.length_take]; omega
      · have := HBL.out.below hb2 hgl
        rw [keep_start HK.out HF.out HN.out, List.append_assoc, List.singleton_append, ← drop_cons HK.out, List.take_append_drop]
        exact this
    case round =>
      obtain ⟨n, m, X, hn, rfl, rfl, hmF, hmX, hX, hB3, hg3⟩ := hrel
      have HMF := Lib.hid hmF
      have HMX := Lib.hid hmX
      have HX := Lib.hid hX
      have HB3 := Lib.hid hB3
      have HG3 := Lib.hid hg3
      have hX0 : 0 < X.length := List.length_pos_iff.2 hX
      have hgl3 := hB3.lt
      have hmn : m < n := by omega
      clear hb2 hmF hmX hX hB3 hg3
      by_cases hlt : n < l.length
      · obtain ⟨p, a, q, hx⟩ := ct_at hlt
        have hy := mid_get HMF.out HMX.out hx
        obtain ⟨⟨d0, d1, d2⟩, _⟩ := HB3.out.ctAt hy
        have XX := Lib.hid hx
        have hwa : Below wr.heap.size wr (wr.alloc (.cells #[.int .i64 p, .int .i64 a, .int .i64 q] 75)) := (Below.refl _ _).alloc (Nat.le_refl _) _
        have C := Lib.hid (HP.out p a q _ (grown_below HG3.out hwa))
        have HWA := Lib.hid hwa
        clear hx hy hwa
        cases hv : f ⟨p, a, q⟩
        · have HV := Lib.hid hv
          clear hv
          obtain ⟨p', a', q', hz⟩ := mid_at HMF.out hX0 (l.drop n)
          have Z := Lib.hid hz
          clear hz
          go_wp2_with fail
          refine (HV.out ▸ C.out).mono ?_
          rintro e w4 ⟨rfl, hb4⟩
          obtain ⟨⟨e0, e1, e2⟩, f0, f1, f2⟩ := ((HB3.out.alloc _).below hb4 (by simp; omega)).ctAt Z.out
          obtain ⟨⟨x0, x1, x2⟩, hz4⟩ := one_below hb4
          go_wp2
          go_roundw
          case rel =>
            have hkp := keep_snoc (f := f) XX.out
            rw [HV.out] at hkp
            simp only [Bool.false_eq_true, if_false] at hkp
            refine ⟨n + 1, m + 1, X.tail ++ [⟨p, a, q⟩], by omega, by go_num, by go_num, ?_, ?_, by simp, ?_, ?_⟩
            · rw [hkp, List.length_append, ← HMF.out]; rfl
            · have := HMX.out
              rw [List.length_append, List.length_tail]; simp; omega
            · have := ((HB3.out.alloc _).below hb4 (by simp; omega)).store3 Z.out p a q
              rw [mid_set HMF.out HX.out XX.out] at this
              rw [hkp]
              exact this
            · refine grown_setCell (grown_setCell (grown_setCell (grown_below (grown_below HG3.out HWA.out) hb4) ?_ _) ?_ _) ?_ _ <;> exact .inl rfl
          case measure => simp [intOf]; omega
        · have HV := Lib.hid hv
          clear hv
          go_wp2_with fail
          refine (HV.out ▸ C.out).mono ?_
          rintro e w4 ⟨rfl, hb4⟩
          go_wp2
          go_roundw
          case rel =>
            have hkp := keep_snoc (f := f) XX.out
            rw [HV.out, if_pos rfl, List.append_nil] at hkp
            refine ⟨n + 1, m, X ++ [⟨p, a, q⟩], by omega, by go_num, rfl, by rw [hkp]; exact HMF.out, ?_, by simp, ?_, grown_below (grown_below HG3.out HWA.out) hb4⟩
            · have := HMX.out
              rw [List.length_append]; simp; omega
            · have := (HB3.out.alloc _).below hb4 (by simp; omega)
              rw [hkp]
              rw [drop_cons XX.out, List.append_assoc] at this
              simpa using this
          case measure => simp [intOf]; omega
      · have hnl : n = l.length := by omega
        have hmc : m < c := by omega
        have hmF := HMF.out
        have hB3 := HB3.out
        have hmX := HMX.out
        rw [hnl, List.take_length] at hmF
        rw [hnl, List.take_length, List.drop_length, List.append_nil] at hB3
        rw [hnl] at hmX
        have HM2 := Lib.hid hmF
        have HB4 := Lib.hid hB3
        have HX2 := Lib.hid hmX
        have HNL := Lib.hid hnl
        clear hmF hB3 hmX hnl
        go_wp2_with (with_reducible refine wpList_clear elC rfl (.tmp 38) rfl gb (c * 3) m (l.length - m) (c - m) (keep f l ++ X) HB4.out rfl ?c1 ?c2 ?_)
        case c1 => have h1 := HM2.out; have h2 := HX2.out; rw [List.length_append]; omega
        case c2 => omega
        intro w5 hb5 hg5
        go_wp2
        go_ret
        have hm2 := HM2.out
        have hb6 : Bl encC 3 75 w5 gb (c * 3) (keep f l) := by
          rw [hm2, List.take_left] at hb5
          exact hb5
        refine ⟨by rw [← hm2]; rfl, .inr ⟨gb, rfl, hgB, by omega, hcm, hb6⟩, grown_trans HG3.out hg5 (.inl rfl)⟩
end Go.Proofs.Ytlgfmnognhojnaa
