/- Sums, copies and joins of numbers, walked. -/
import Derived.Test.YtlgfmnognhojnaaKa
import Derived.Lib.AppendZerosOnto
namespace Go.Proofs.Ytlgfmnognhojnaa
open Go.RowKit
theorem tot_take {l : List Int} {k : Nat} {x : Int} (h : l[k]? = some x) : tot (l.take (k + 1)) = addW (tot (l.take k)) x := by rw [take_succ h, tot_snoc]
theorem tot_take_in {l : List Int} (h : ∀ x ∈ l, 0 ≤ x ∧ x ≤ 65535) (k : Nat) : 0 ≤ tot (l.take k) ∧ tot (l.take k) ≤ 65535 := tot_range (fun x hx => h x (List.mem_of_mem_take hx))
set_option maxHeartbeats 400000 in
theorem spec_allIn (A : Option Addr) (c n : Nat) (l : List Int) (w : World) (hn : n = l.length) (hl : l.length ≤ 2000000) (hs : Sl encI 1 w A c l) :
    Calls Try.prog 107 #[.slice A n c, .int .i64 0, .int .i64 65535] w (Same w (.bool (l.all isW))) := by
  subst hn
  go_enter Try.func107, Try.ntmps107
  go_wp2
  go_loop [7] (fun i => ∃ k : Nat, k ≤ l.length ∧ i = .int .i64 k ∧ (l.take k).all isW = true) (fun i => l.length - (intOf i).toNat)
  case atStart => exact ⟨0, Nat.zero_le _, rfl, rfl⟩
  case round =>
    obtain ⟨k, hk, rfl, hall⟩ := hrel
    have HA := Lib.hid hall
    clear hall
    by_cases hlt : k < l.length
    · obtain ⟨b, o, rfl, hbs, hc⟩ := hs.base hlt
      obtain ⟨x, hx⟩ : ∃ x, l[k]? = some x := ⟨_, List.getElem?_eq_getElem hlt⟩
      have d0 := hc.inn (Below.refl _ _) hbs hx
      have X := Lib.hid hx
      clear hs hc hx
      cases hv : isW x
      · have HV := Lib.hid hv
        clear hv
        go_wp2_with (go_at_call 31; refine (spec_inRange _ _ _ _).mono ?_; rintro e w' ⟨rfl, rfl⟩; rw [inR_word, HV.out])
        go_ret
        refine ⟨?_, rfl⟩
        rw [show l.all isW = false from by rw [List.all_eq_false]; exact ⟨x, List.mem_of_getElem? X.out, by rw [HV.out]; simp⟩]
        rfl
      · have HV := Lib.hid hv
        clear hv
        go_wp2_with (go_at_call 31; refine (spec_inRange _ _ _ _).mono ?_; rintro e w' ⟨rfl, rfl⟩; rw [inR_word, HV.out])
        go_round
        case rel => exact ⟨k + 1, by omega, by go_num, by rw [take_succ X.out, List.all_append, HA.out]; simp [HV.out]⟩
        case measure => simp [intOf]; omega
    · go_wp2
      go_ret
      refine ⟨?_, rfl⟩
      have := HA.out
      rw [List.take_of_length_le (by omega)] at this
      rw [this]
      rfl
set_option maxHeartbeats 1000000 in
theorem spec_copyInts (A : Option Addr) (c n : Nat) (l : List Int) (w : World) (hn : n = l.length) (hl : l.length ≤ 2000000) (hs : Sl encI 1 w A c l) :
    Calls Try.prog 110 #[.slice A n c] w (fun e w' => ∃ A' c', e = .returned (.slice A' n c') ∧ Ow encI 1 3 w.heap.size w' A' c' l ∧ Below w.heap.size w w') := by
  subst hn
  have HS := Lib.hid (hs.below ((Below.refl _ _).alloc (Nat.le_refl _) (.cells #[] 3)))
  clear hs
  go_enter Try.func110, Try.ntmps110
  go_wp2_with (at_builtin; refine wpList_app elI rfl (.tmp 3) (.tmp 4) rfl w.heap.size _ _ _ [] rfl rfl (Ow.empty w (Nat.le_refl _)) _ _ _ l rfl rfl HS.out (by simp; omega) (by decide) (by simp) ?_; intro A' c' w2 hown hg _; simp only [List.nil_append] at hown ⊢)
  go_ret
  exact ⟨A', c', rfl, hown, below_app ((Below.refl _ _).alloc (Nat.le_refl _) _) hg (by simp) (fun g h => (by simp [blk] at h; omega))⟩
theorem run_zeros (w : World) (ty : TypeId) (k : Nat) (h0 : 0 < k) (hk : k ≤ 4000000) :
    ∃ c' w', (Builtin.append_ #[54, 3] ty #[.slice none 0 0, .int .i64 k]).run Try.prog w = .ok (.slice (some ⟨w.heap.size, 0, none⟩) k c') w' ∧ Ow encI 1 3 w.heap.size w' (some ⟨w.heap.size, 0, none⟩) c' ([] : List Int) ∧ k ≤ c' ∧ c' ≤ maxLen ∧ Below w.heap.size w w' := by
  obtain ⟨i, zv, hi, hz, hzv, hsz, hby⟩ := elI.hi
  have hzs : zv.cells.size = 1 := by rw [← Array.length_toList, hzv]; rfl
  have hr := Lib.run_append_grow_zeros (P := Try.prog) w 54 3 ty 3 i zv .i64 .i64 elI.ht Try.underlying3 hi hz none 0 0 [] (by simp [Builtin.firstCells, loadCells, loadCellsFrom]) k h0 (by rw [hsz]; decide) (by omega) (by omega) (by rw [hby]; omega) (by rw [hby]; exact growslice_fits (by omega) (by omega))
  have h1 := grownCap_ge w (0 + k) 0 3
  have h3 := grownCap_le_maxLen w (0 + k) 0 3 (by unfold maxLen; omega)
  refine ⟨_, _, by simpa using hr, ?_, by simpa using h1, by simpa using h3, (Below.refl _ _).drew.alloc (Nat.le_refl _) _⟩
  simp only [Nat.zero_add] at h1 h3 ⊢
  refine .inr ⟨w.heap.size, rfl, Nat.le_refl _, Nat.zero_le _, h3, _, heap_alloc_new w.drew _, ?_, by simp, by simp⟩
  rw [Array.size_append, size_zeroCells, size_zeroCells, hzs]
  omega
theorem wpList_zeros {w : World} {ops : Array Oper} {rest : List Oper} {o : Oper} {a : Act} {Q : Exit → Act → World → Prop} (hgd : o.guard = none) (s x : Operand)
    (ho : o.op = .call { callee := .builtin .append, args := #[s, x], argTypes := #[54, 3] }) (k : Nat) (hs : a.eval s = .slice none 0 0) (hx : a.eval x = .int .i64 k) (h0 : 0 < k) (hk : k ≤ 4000000)
    (h : ∀ A' c' w', Ow encI 1 3 w.heap.size w' A' c' ([] : List Int) → A' ≠ none → k ≤ c' → c' ≤ maxLen → Below w.heap.size w w' → wpList Try.prog ops Q rest (a.put o.dst (.slice A' k c')) w') : wpList Try.prog ops Q (o :: rest) a w := by
  obtain ⟨c', w', hrun, h2, h3, h4, h5⟩ := run_zeros w o.type k h0 hk
  refine wpList_plain hgd fun K hK => ?_
  unfold Oper.wp execOp
  simp only [ho, resolve, invoke, builtin, Sem.run_bind, Sem.run_pure, Result.andThen_ok, List.map_toArray, List.map_cons, List.map_nil, hs, hx, hrun]
  exact hK _ _ (h _ c' w' h2 (by simp) h3 h4 h5)
end Go.Proofs.Ytlgfmnognhojnaa
