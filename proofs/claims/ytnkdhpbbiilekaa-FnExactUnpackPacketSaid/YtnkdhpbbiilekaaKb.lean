/- Sums, copies and joins of numbers, walked. -/
import Derived.Test.YtnkdhpbbiilekaaKa
import Derived.Lib.AppendZerosOnto
namespace Go.Proofs.Ytnkdhpbbiilekaa
open Go.RowKit
theorem impl_add (a b : Int) (w : World) (ha0 : 0 ≤ a) (ha1 : a ≤ 65535) (hb0 : 0 ≤ b) (hb1 : b ≤ 65535) :
    Calls Try.prog 69 #[.int .i64 a, .int .i64 b] w (Same w (.int .i64 (addW a b))) := by
  unfold addW
  by_cases h : 65535 < a + b
  · rw [if_pos h]
    go_enter Try.func69, Try.ntmps69
    go_wp2
    go_ret
    exact ⟨rfl, rfl⟩
  · rw [if_neg h]
    go_enter Try.func69, Try.ntmps69
    go_wp2
    go_ret
    exact ⟨rfl, rfl⟩
theorem spec_addWord (a b : Int) (w : World) (ha0 : 0 ≤ a) (ha1 : a ≤ 65535) (hb0 : 0 ≤ b) (hb1 : b ≤ 65535) :
    Calls Try.prog 70 #[.int .i64 a, .int .i64 b] w (Same w (.int .i64 (addW a b))) := by
  unfold addW
  by_cases h : 65535 < a + b
  · rw [if_pos h]
    go_enter Try.func70, Try.ntmps70
    go_wp2
    go_ret
    exact ⟨rfl, rfl⟩
  · rw [if_neg h]
    go_enter Try.func70, Try.ntmps70
    go_wp2
    go_ret
    exact ⟨rfl, rfl⟩
theorem tot_take {l : List Int} {k : Nat} {x : Int} (h : l[k]? = some x) : tot (l.take (k + 1)) = addW (tot (l.take k)) x := by rw [take_succ h, tot_snoc]
theorem tot_take_in {l : List Int} (h : ∀ x ∈ l, 0 ≤ x ∧ x ≤ 65535) (k : Nat) : 0 ≤ tot (l.take k) ∧ tot (l.take k) ≤ 65535 := tot_range (fun x hx => h x (List.mem_of_mem_take hx))
set_option maxHeartbeats 1000000 in
theorem impl_total (A : Option Addr) (c n : Nat) (l : List Int) (w : World) (hn : n = l.length) (hl : l.length ≤ 2000000) (hall : ∀ x ∈ l, 0 ≤ x ∧ x ≤ 65535) (hs : Sl encI 1 w A c l) :
    Calls Try.prog 47 #[.slice A n c] w (Same w (.int .i64 (tot l))) := by
  subst hn
  have HA := Lib.hid hall
  clear hall
  go_enter Try.func47, Try.ntmps47
  go_wp2
  go_loop [3, 8] (fun s i => ∃ (k : Nat) (T : Int), k ≤ l.length ∧ i = .int .i64 k ∧ s = .int .i64 T ∧ T = tot (l.take k)) (fun _ i => l.length - (intOf i).toNat)
  case atStart => exact ⟨0, 0, Nat.zero_le _, rfl, rfl, rfl⟩
  case round =>
    obtain ⟨k, T, hk, rfl, rfl, hT⟩ := hrel
    have HT := Lib.hid hT
    have hTi : 0 ≤ T ∧ T ≤ 65535 := by rw [hT]; exact tot_take_in HA.out k
    obtain ⟨hT0, hT1⟩ := hTi
    clear hT
    by_cases hlt : k < l.length
    · obtain ⟨b, o, rfl, hbs, hc⟩ := hs.base hlt
      obtain ⟨x, hx⟩ : ∃ x, l[k]? = some x := ⟨_, List.getElem?_eq_getElem hlt⟩
      obtain ⟨x0, x1⟩ := HA.out x (List.mem_of_getElem? hx)
      have d0 := hc.inn (Below.refl _ _) hbs hx
      have X := Lib.hid hx
      clear hs hc hx
      go_wp2_with (first | (go_at_call 69; refine (impl_add _ _ _ hT0 hT1 x0 x1).mono ?_; rintro e w' ⟨rfl, rfl⟩))
      go_round
      case rel => exact ⟨k + 1, _, by omega, by go_num, rfl, by rw [tot_take X.out, ← HT.out]⟩
      case measure => simp [intOf]; omega
    · go_wp2
      go_ret
      have hT := HT.out
      rw [List.take_of_length_le (by omega)] at hT
      exact ⟨by rw [hT]; rfl, rfl⟩
set_option maxHeartbeats 1000000 in
theorem spec_sumOf (A : Option Addr) (c n : Nat) (l : List Int) (w : World) (hn : n = l.length) (hl : l.length ≤ 2000000) (hall : ∀ x ∈ l, 0 ≤ x ∧ x ≤ 65535) (hs : Sl encI 1 w A c l) :
    Calls Try.prog 49 #[.slice A n c] w (Same w (.int .i64 (tot l))) := by
  subst hn
  have HA := Lib.hid hall
  clear hall
  go_enter Try.func49, Try.ntmps49
  go_wp2
  go_loop [3, 4] (fun s i => ∃ (k : Nat) (T : Int), k ≤ l.length ∧ i = .int .i64 k ∧ s = .int .i64 T ∧ T = tot (l.take k)) (fun _ i => l.length - (intOf i).toNat)
  case atStart => exact ⟨0, 0, Nat.zero_le _, rfl, rfl, rfl⟩
  case round =>
    obtain ⟨k, T, hk, rfl, rfl, hT⟩ := hrel
    have HT := Lib.hid hT
    have hTi : 0 ≤ T ∧ T ≤ 65535 := by rw [hT]; exact tot_take_in HA.out k
    obtain ⟨hT0, hT1⟩ := hTi
    clear hT
    by_cases hlt : k < l.length
    · obtain ⟨b, o, rfl, hbs, hc⟩ := hs.base hlt
      obtain ⟨x, hx⟩ : ∃ x, l[k]? = some x := ⟨_, List.getElem?_eq_getElem hlt⟩
      obtain ⟨x0, x1⟩ := HA.out x (List.mem_of_getElem? hx)
      have d0 := hc.inn (Below.refl _ _) hbs hx
      have X := Lib.hid hx
      clear hs hc hx
      go_wp2_with (first | (go_at_call 70; refine (spec_addWord _ _ _ hT0 hT1 x0 x1).mono ?_; rintro e w' ⟨rfl, rfl⟩))
      go_round
      case rel => exact ⟨k + 1, _, by omega, by go_num, rfl, by rw [tot_take X.out, ← HT.out]⟩
      case measure => simp [intOf]; omega
    · go_wp2
      go_ret
      have hT := HT.out
      rw [List.take_of_length_le (by omega)] at hT
      exact ⟨by rw [hT]; rfl, rfl⟩
set_option maxHeartbeats 400000 in
theorem spec_allIn (A : Option Addr) (c n : Nat) (l : List Int) (w : World) (hn : n = l.length) (hl : l.length ≤ 2000000) (hs : Sl encI 1 w A c l) :
    Calls Try.prog 67 #[.slice A n c, .int .i64 0, .int .i64 65535] w (Same w (.bool (l.all isW))) := by
  subst hn
  go_enter Try.func67, Try.ntmps67
  go_wp2
  go_loop [7] (fun i => ∃ k : Nat, k ≤ l.length ∧ i = .int .i64 k ∧ (l.take k).all isW = true) (fun i => l.length - (intOf i).toNat)
  case atStart => exact ⟨0, Nat.zero_le _, rfl, rfl⟩
  case round =>
    obtain ⟨k, hk, rfl, hall⟩ := hrel
    have HA := Lib.hid hall
    clear hall
    by_cases hlt : k < l.length
    · obtain ⟨b, o, rfl, hbs, hc⟩ := hs.base hlt
      obtain ⟨x, hx⟩ : ∃ x, l[k]? = some x := ⟨_, List.getElem?_eq_getElem hlt⟩
      have d0 := hc.inn (Below.refl _ _) hbs hx
      have X := Lib.hid hx
      clear hs hc hx
      cases hv : isW x
      · have HV := Lib.hid hv
        clear hv
        go_wp2_with (go_at_call 65; refine (spec_inRange _ _ _ _).mono ?_; rintro e w' ⟨rfl, rfl⟩; rw [inR_word, HV.out])
        go_ret
        refine ⟨?_, rfl⟩
        rw [show l.all isW = false from by rw [List.all_eq_false]; exact ⟨x, List.mem_of_getElem? X.out, by rw [HV.out]; simp⟩]
        rfl
      · have HV := Lib.hid hv
        clear hv
        go_wp2_with (go_at_call 65; refine (spec_inRange _ _ _ _).mono ?_; rintro e w' ⟨rfl, rfl⟩; rw [inR_word, HV.out])
        go_round
        case rel => exact ⟨k + 1, by omega, by go_num, by rw [take_succ X.out, List.all_append, HA.out]; simp [HV.out]⟩
        case measure => simp [intOf]; omega
    · go_wp2
      go_ret
      refine ⟨?_, rfl⟩
      have := HA.out
      rw [List.take_of_length_le (by omega)] at this
      rw [this]
      rfl
set_option maxHeartbeats 1000000 in
theorem spec_copyInts (A : Option Addr) (c n : Nat) (l : List Int) (w : World) (hn : n = l.length) (hl : l.length ≤ 2000000) (hs : Sl encI 1 w A c l) :
    Calls Try.prog 60 #[.slice A n c] w (fun e w' => ∃ A' c', e = .returned (.slice A' n c') ∧ Ow encI 1 3 w.heap.size w' A' c' l ∧ Below w.heap.size w w') := by
  subst hn
  have HS := Lib.hid (hs.below ((Below.refl _ _).alloc (Nat.le_refl _) (.cells #[] 3)))
  clear hs
  go_enter Try.func60, Try.ntmps60
  go_wp2_with (at_builtin; refine wpList_app elI rfl (.tmp 3) (.tmp 4) rfl w.heap.size _ _ _ [] rfl rfl (Ow.empty w (Nat.le_refl _)) _ _ _ l rfl rfl HS.out (by simp; omega) (by decide) (by simp) ?_; intro A' c' w2 hown hg _; simp only [List.nil_append] at hown ⊢)
  go_ret
  exact ⟨A', c', rfl, hown, below_app ((Below.refl _ _).alloc (Nat.le_refl _) _) hg (by simp) (fun g h => (by simp [blk] at h; omega))⟩
set_option maxHeartbeats 1000000 in
theorem Clone_in (A : Option Addr) (c n : Nat) (l : List Int) (w : World) (hn : n = l.length) (hl : l.length ≤ 2000000) (hs : Sl encI 1 w A c l) :
    Calls Try.prog 72 #[.slice A n c] w (fun e w' => ∃ A' c', e = .returned (.slice A' n c') ∧ Ow encI 1 3 w.heap.size w' A' c' l ∧ Below w.heap.size w w') := by
  subst hn
  rcases A with _ | ad
  · have hl0 : l = [] := by
      by_cases h : l = []
      · exact h
      · obtain ⟨b, o, h1, _⟩ := hs.2 h
        cases h1
    subst hl0
    have hnil := fun W => Lib.run_eql_slice_nil (P := Try.prog) W 25 3 none 0 c 0 0 Try.underlying25
    go_enter Try.func72, Try.ntmps72
    go_wp2
    go_ret
    exact ⟨none, 0, rfl, Ow.nil, Below.refl _ _⟩
  · have hnil := fun W => Lib.run_eql_slice_nil (P := Try.prog) W 25 3 (some ad) l.length c 0 0 Try.underlying25
    have HS := Lib.hid (hs.below ((Below.refl _ _).alloc (Nat.le_refl _) (.cells #[] 3)))
    clear hs
    go_enter Try.func72, Try.ntmps72
    go_wp2_with (at_builtin; refine wpList_app elI rfl (.tmp 5) (.tmp 6) rfl w.heap.size _ _ _ [] rfl rfl (Ow.empty w (Nat.le_refl _)) _ _ _ l rfl rfl HS.out (by simp; omega) (by decide) (by simp) ?_; intro A' c' w2 hown hg _; simp only [List.nil_append] at hown ⊢)
    go_ret
    exact ⟨A', c', rfl, hown, below_app ((Below.refl _ _).alloc (Nat.le_refl _) _) hg (by simp) (fun g h => (by simp [blk] at h; omega))⟩
theorem clone_in (A : Option Addr) (c n : Nat) (l : List Int) (w : World) (hn : n = l.length) (hl : l.length ≤ 2000000) (hs : Sl encI 1 w A c l) :
    Calls Try.prog 55 #[.slice A n c] w (fun e w' => ∃ A', e = .returned (.slice A' n n) ∧ Out encI 1 w.heap.size w' A' n l ∧ Below w.heap.size w w') := by
  subst hn
  go_enter Try.func55, Try.ntmps55
  go_wp2_with (first | (go_at_call 72; refine (Clone_in _ _ _ _ _ rfl hl hs).mono ?_; rintro e w2 ⟨A', c', rfl, hown, hb⟩; have hm := hown.capm; have hle := hown.le) | (go_at_call 48; refine (Clip_in _ _ _ _ hle hm).mono ?_; rintro e w' ⟨rfl, rfl⟩))
  go_ret
  exact ⟨A', rfl, ⟨hown.sl.cap, hown.fr⟩, hb⟩
theorem run_zeros (w : World) (ty : TypeId) (k : Nat) (h0 : 0 < k) (hk : k ≤ 4000000) :
    ∃ c' w', (Builtin.append_ #[25, 3] ty #[.slice none 0 0, .int .i64 k]).run Try.prog w = .ok (.slice (some ⟨w.heap.size, 0, none⟩) k c') w' ∧ Ow encI 1 3 w.heap.size w' (some ⟨w.heap.size, 0, none⟩) c' ([] : List Int) ∧ k ≤ c' ∧ c' ≤ maxLen ∧ Below w.heap.size w w' := by
  obtain ⟨i, zv, hi, hz, hzv, hsz, hby⟩ := elI.hi
  have hzs : zv.cells.size = 1 := by rw [← Array.length_toList, hzv]; rfl
  have hr := Lib.run_append_grow_zeros (P := Try.prog) w 25 3 ty 3 i zv .i64 .i64 elI.ht Try.underlying3 hi hz none 0 0 [] (by simp [Builtin.firstCells, loadCells, loadCellsFrom]) k h0 (by rw [hsz]; decide) (by omega) (by omega) (by rw [hby]; omega) (by rw [hby]; exact growslice_fits (by omega) (by omega))
  have h1 := grownCap_ge w (0 + k) 0 3
  have h3 := grownCap_le_maxLen w (0 + k) 0 3 (by unfold maxLen; omega)
  refine ⟨_, _, by simpa using hr, ?_, by simpa using h1, by simpa using h3, (Below.refl _ _).drew.alloc (Nat.le_refl _) _⟩
  simp only [Nat.zero_add] at h1 h3 ⊢
  refine .inr ⟨w.heap.size, rfl, Nat.le_refl _, Nat.zero_le _, h3, _, heap_alloc_new w.drew _, ?_, by simp, by simp⟩
  rw [Array.size_append, size_zeroCells, size_zeroCells, hzs]
  omega
theorem wpList_zeros {w : World} {ops : Array Oper} {rest : List Oper} {o : Oper} {a : Act} {Q : Exit → Act → World → Prop} (hgd : o.guard = none) (s x : Operand)
    (ho : o.op = .call { callee := .builtin .append, args := #[s, x], argTypes := #[25, 3] }) (k : Nat) (hs : a.eval s = .slice none 0 0) (hx : a.eval x = .int .i64 k) (h0 : 0 < k) (hk : k ≤ 4000000)
    (h : ∀ A' c' w', Ow encI 1 3 w.heap.size w' A' c' ([] : List Int) → A' ≠ none → k ≤ c' → c' ≤ maxLen → Below w.heap.size w w' → wpList Try.prog ops Q rest (a.put o.dst (.slice A' k c')) w') : wpList Try.prog ops Q (o :: rest) a w := by
  obtain ⟨c', w', hrun, h2, h3, h4, h5⟩ := run_zeros w o.type k h0 hk
  refine wpList_plain hgd fun K hK => ?_
  unfold Oper.wp execOp
  simp only [ho, resolve, invoke, builtin, Sem.run_bind, Sem.run_pure, Result.andThen_ok, List.map_toArray, List.map_cons, List.map_nil, hs, hx, hrun]
  exact hK _ _ (h _ c' w' h2 (by simp) h3 h4 h5)
theorem Grow_in (k : Nat) (w : World) (h0 : 0 < k) (hk : k ≤ 4000000) :
    Calls Try.prog 68 #[.slice none 0 0, .int .i64 k] w (fun e w' => ∃ A' c', e = .returned (.slice A' 0 c') ∧ Ow encI 1 3 w.heap.size w' A' c' ([] : List Int) ∧ Below w.heap.size w w') := by
  have hki : ¬ ((k : Int) < 0) := by omega
  have hk0 : (0 : Int) < (k : Int) := by omega
  go_enter Try.func68, Try.ntmps68
  go_wp2_with (at_builtin; refine wpList_zeros rfl (.tmp 20) (.tmp 21) rfl k rfl rfl h0 hk ?_; intro A' c' w2 hown hne hkc hcm hb; have hcm2 : c' ≤ 9223372036854775807 := by (unfold maxLen at hcm; omega))
  go_ret
  exact ⟨A', c', rfl, hown, hb⟩
set_option maxHeartbeats 1000000 in
theorem Concat_in (g : Nat) (A1 A2 : Option Addr) (c1 c2 n1 n2 : Nat) (l1 l2 : List Int) (w : World) (hn1 : n1 = l1.length) (hn2 : n2 = l2.length) (hl1 : l1.length ≤ 1000000) (hl2 : l2.length ≤ 1000000) (hpos : 0 < l1.length + l2.length)
    (h0 : w.cell? ⟨g, 0, none⟩ = some (.slice A1 n1 c1)) (h1 : w.cell? ⟨g, 1, none⟩ = some (.slice A2 n2 c2)) (hs1 : Sl encI 1 w A1 c1 l1) (hs2 : Sl encI 1 w A2 c2 l2) :
    Calls Try.prog 46 #[.slice (some ⟨g, 0, none⟩) 2 2] w (fun e w' => ∃ A' c', e = .returned (.slice A' (l1 ++ l2).length c') ∧ Ow encI 1 3 w.heap.size w' A' c' (l1 ++ l2) ∧ Below w.heap.size w w') := by
  subst hn1
  subst hn2
  have hg : g < w.heap.size := by have := World.block_lt_of_cell? _ _ h0; simpa using this
  have S1 := Lib.hid (fun W (h : Below w.heap.size w W) => hs1.below h)
  have S2 := Lib.hid (fun W (h : Below w.heap.size w W) => hs2.below h)
  have C0 := Lib.hid (fun W (h : Below w.heap.size w W) => bcell h hg h0)
  have C1 := Lib.hid (fun W (h : Below w.heap.size w W) => bcell h hg h1)
  clear hs1 hs2
  go_enter Try.func46, Try.ntmps46
  go_wp2
  go_loop [3, 11] (fun s i => (i = .int .i64 0 ∧ s = .int .i64 0) ∨ (i = .int .i64 1 ∧ s = .int .i64 l1.length) ∨ (i = .int .i64 2 ∧ s = .int .i64 ((l1.length : Int) + l2.length))) (fun _ i => 2 - (intOf i).toNat)
  case atStart => exact .inl ⟨rfl, rfl⟩
  case round =>
    rcases hrel with ⟨rfl, rfl⟩ | ⟨rfl, rfl⟩ | ⟨rfl, rfl⟩
    · go_wp2
      go_round
      case rel => exact .inr (.inl ⟨by go_num, by go_num⟩)
      case measure => simp [intOf]
    · go_wp2
      go_round
      case rel => exact .inr (.inr ⟨by go_num, by go_num⟩)
      case measure => simp [intOf]
    · have HE := Lib.hid (show (l1.length : Int) + (l2.length : Int) = ((l1.length + l2.length : Nat) : Int) by push_cast; rfl)
      go_wp2_with fail
      rw [HE.out]
      refine (Grow_in _ _ hpos (by omega)).mono ?_
      rintro e w2 ⟨A3, c3, rfl, hown, hb2⟩
      have HO := Lib.hid hown
      clear hown h0 h1
      go_wp2
      go_loopw [6, 27] (fun ns i wr => ∃ (j : Nat) (A' : Option Addr) (c' : Nat) (L : List Int), ((j = 0 ∧ L = []) ∨ (j = 1 ∧ L = l1) ∨ (j = 2 ∧ L = l1 ++ l2)) ∧ i = .int .i64 j ∧ ns = .slice A' L.length c' ∧ Ow encI 1 3 w.heap.size wr A' c' L ∧ Below w.heap.size w wr) (fun _ i _ => 2 - (intOf i).toNat)
      case atStart => exact ⟨0, A3, c3, [], .inl ⟨rfl, rfl⟩, rfl, rfl, HO.out, hb2⟩
      case round =>
        obtain ⟨j, A', c', L, hj, rfl, rfl, hown, hb⟩ := hrel
        have HW := Lib.hid hown
        clear hown hb2
        rcases hj with ⟨rfl, rfl⟩ | ⟨rfl, rfl⟩ | ⟨rfl, rfl⟩
        · have d0 := C0.out wr hb
          go_wp2_with (at_builtin; refine wpList_app elI rfl (.tmp 31) (.tmp 32) rfl w.heap.size _ _ _ [] rfl rfl HW.out _ _ _ l1 rfl rfl (S1.out _ hb) (by simp; omega) (by decide) hb.size ?_; intro A7 c7 w7 hown7 hg7 _)
          have hb7 : Below w.heap.size w w7 := below_app hb hg7 hb.size (fun g hg => (HW.out.blk g hg).1)
          go_roundw
          case rel => exact ⟨1, A7, c7, l1, .inr (.inl ⟨rfl, rfl⟩), by go_num, by simp, by simpa using hown7, hb7⟩
          case measure => simp [intOf]
        · have d1 := C1.out wr hb
          go_wp2_with (at_builtin; refine wpList_app elI rfl (.tmp 31) (.tmp 32) rfl w.heap.size _ _ _ L rfl rfl HW.out _ _ _ l2 rfl rfl (S2.out _ hb) (by omega) (by decide) hb.size ?_; intro A7 c7 w7 hown7 hg7 _)
          have hb7 : Below w.heap.size w w7 := below_app hb hg7 hb.size (fun g hg => (HW.out.blk g hg).1)
          go_roundw
          case rel => exact ⟨2, A7, c7, L ++ l2, .inr (.inr ⟨rfl, rfl⟩), by go_num, by simp, hown7, hb7⟩
          case measure => simp [intOf]
        · go_wp2
          go_ret
          exact ⟨A', c', rfl, HW.out, hb⟩
set_option maxHeartbeats 1000000 in
theorem Equal_in (A A' : Option Addr) (c c' : Nat) (l l' : List Int) (w : World) (hl : l.length ≤ 4000000) (hl' : l'.length ≤ 4000000) (hs : Sl encI 1 w A c l) (hs' : Sl encI 1 w A' c' l') :
    Calls Try.prog 56 #[.slice A l.length c, .slice A' l'.length c'] w (Ret w (.bool (decide (l = l')))) := by
  by_cases hne : l.length = l'.length
  · have hb : ((l.length : Int) != (l'.length : Int)) = false := by rw [bne_eq_false_iff_eq]; omega
    have HNE := Lib.hid hne
    clear hne
    go_enter Try.func56, Try.ntmps56
    go_wp2
    go_loopw [13] (fun i wr => ∃ k : Nat, k ≤ l.length ∧ i = .int .i64 k ∧ Below w.heap.size w wr ∧ ∀ j, j < k → l[j]? = l'[j]?) (fun i _ => l.length - (intOf i).toNat)
    case atStart => exact ⟨0, Nat.zero_le _, rfl, Below.refl _ _, by simp⟩
    case round =>
      obtain ⟨k, hk, rfl, hb2, hn⟩ := hrel
      have HN := Lib.hid hn
      clear hn
      by_cases hlt : k < l.length
      · have hlt' : k < l'.length := by rw [← HNE.out]; exact hlt
        obtain ⟨b, o, rfl, hbs, hc⟩ := hs.base hlt
        obtain ⟨b', o', rfl, hbs', hc'⟩ := hs'.base hlt'
        obtain ⟨x, hx⟩ : ∃ x, l[k]? = some x := ⟨_, List.getElem?_eq_getElem hlt⟩
        obtain ⟨y, hy⟩ : ∃ y, l'[k]? = some y := ⟨_, List.getElem?_eq_getElem hlt'⟩
        have d0 := hc.inn hb2 hbs hx
        have e0 := hc'.inn hb2 hbs' hy
        have X := Lib.hid hx
        have Y := Lib.hid hy
        clear hs hc hx hs' hc' hy
        by_cases he : x = y
        · subst he
          go_wp2
          go_quiet (fail)
          go_wp2
          go_roundw
          case rel => exact ⟨k + 1, by omega, by go_num, bdrewN hb2 _, same_step X.out Y.out HN.out⟩
          case measure => simp [intOf]; omega
        · have hne : (x != y) = true := by simpa using he
          have HE := Lib.hid he
          clear he
          go_wp2
          go_quiet (fail)
          go_wp2
          go_ret
          exact ⟨by rw [decide_eq_false (list_ne X.out Y.out HE.out)]; rfl, bdrewN hb2 _⟩
      · go_wp2
        go_ret
        exact ⟨by rw [decide_eq_true (list_eq_of HNE.out (fun j hj => HN.out j (by omega)))]; rfl, hb2⟩
  · have hb : ((l.length : Int) != (l'.length : Int)) = true := by rw [bne_iff_ne]; omega
    have HNE := Lib.hid hne
    clear hne
    go_enter Try.func56, Try.ntmps56
    go_wp2
    go_ret
    exact ⟨by rw [decide_eq_false (by intro h; exact HNE.out (by rw [h]))]; rfl, Below.refl _ _⟩
end Go.Proofs.Ytnkdhpbbiilekaa
