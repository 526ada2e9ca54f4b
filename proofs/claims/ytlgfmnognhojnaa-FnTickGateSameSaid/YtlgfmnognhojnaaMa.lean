/- The statements' own helpers on mappings: copies, comparisons, marks; append onto a clipped slice. -/
import Derived.Test.YtlgfmnognhojnaaMp
namespace Go.Proofs.Ytlgfmnognhojnaa
open Go.RowKit
theorem Row.store4 {W : World} {b o i : Nat} {L : List Mp} {a q p t : Int} (h : Row encM 4 W b o L) (hi : L[i]? = some ⟨a, q, p, t⟩) (a' q' p' t' : Int) :
    Row encM 4 ((((W.setCell ⟨b, o + i * 4, none⟩ (.int .i64 a')).setCell ⟨b, o + i * 4 + 1, none⟩ (.int .i64 q')).setCell ⟨b, o + i * 4 + 1 + 1, none⟩ (.int .i64 p')).setCell ⟨b, o + i * 4 + 1 + 1 + 1, none⟩ (.int .i64 t')) b o (L.set i ⟨a', q', p', t'⟩) := by
  have hil := lt_of_get hi
  have h1 := h.store (x' := ⟨a', q, p, t⟩) (u := .int .i64 a') (j := 0) (fun _ => rfl) hi (by decide) rfl
  have h2 := h1.store (x' := ⟨a', q', p, t⟩) (u := .int .i64 q') (j := 1) (fun _ => rfl) (List.getElem?_set_self hil) (by decide) rfl
  have h3 := h2.store (x' := ⟨a', q', p', t⟩) (u := .int .i64 p') (j := 2) (fun _ => rfl) (List.getElem?_set_self (by simpa using hil)) (by decide) rfl
  have h4 := h3.store (x' := ⟨a', q', p', t'⟩) (u := .int .i64 t') (j := 3) (fun _ => rfl) (List.getElem?_set_self (by simpa using hil)) (by decide) rfl
  simpa using h4
theorem Bl.store4 {e : TypeId} {W : World} {g m i : Nat} {L : List Mp} {a q p t : Int} (h : Bl encM 4 e W g m L) (hi : L[i]? = some ⟨a, q, p, t⟩) (a' q' p' t' : Int) :
    Bl encM 4 e ((((W.setCell ⟨g, i * 4, none⟩ (.int .i64 a')).setCell ⟨g, i * 4 + 1, none⟩ (.int .i64 q')).setCell ⟨g, i * 4 + 2, none⟩ (.int .i64 p')).setCell ⟨g, i * 4 + 3, none⟩ (.int .i64 t')) g m (L.set i ⟨a', q', p', t'⟩) := by
  have hil := lt_of_get hi
  have h1 := h.store (x' := ⟨a', q, p, t⟩) (u := .int .i64 a') (j := 0) (fun _ => rfl) hi (by decide) rfl
  have h2 := h1.store (x' := ⟨a', q', p, t⟩) (u := .int .i64 q') (j := 1) (fun _ => rfl) (List.getElem?_set_self hil) (by decide) rfl
  have h3 := h2.store (x' := ⟨a', q', p', t⟩) (u := .int .i64 p') (j := 2) (fun _ => rfl) (List.getElem?_set_self (by simpa using hil)) (by decide) rfl
  have h4 := h3.store (x' := ⟨a', q', p', t'⟩) (u := .int .i64 t') (j := 3) (fun _ => rfl) (List.getElem?_set_self (by simpa using hil)) (by decide) rfl
  simpa using h4
theorem Bl.mtAt {e : TypeId} {w : World} {g m i : Nat} {a q p t : Int} {L : List Mp} (h : Bl encM 4 e w g m L) (hi : L[i]? = some ⟨a, q, p, t⟩) :
    (w.cell? ⟨g, i * 4, none⟩ = some (.int .i64 a) ∧ w.cell? ⟨g, i * 4 + 1, none⟩ = some (.int .i64 q) ∧ w.cell? ⟨g, i * 4 + 2, none⟩ = some (.int .i64 p) ∧ w.cell? ⟨g, i * 4 + 3, none⟩ = some (.int .i64 t)) ∧
    w.frozen? ⟨g, i * 4, none⟩ = false ∧ w.frozen? ⟨g, i * 4 + 1, none⟩ = false ∧ w.frozen? ⟨g, i * 4 + 2, none⟩ = false ∧ w.frozen? ⟨g, i * 4 + 3, none⟩ = false := by
  have h0 := h.row i _ hi 0 _ rfl
  have h1 := h.row i _ hi 1 _ rfl
  have h2 := h.row i _ hi 2 _ rfl
  have h3 := h.row i _ hi 3 _ rfl
  rw [Nat.zero_add] at h0 h1 h2 h3
  exact ⟨⟨h0, h1, h2, h3⟩, h.frozen _, h.frozen _, h.frozen _, h.frozen _⟩
theorem Bl.mt4 {e : TypeId} {w : World} {g m : Nat} {a q p t : Int} {L : List Mp} (h : Bl encM 4 e w g m (⟨a, q, p, t⟩ :: L)) :
    (w.cell? ⟨g, 0, none⟩ = some (.int .i64 a) ∧ w.cell? ⟨g, 1, none⟩ = some (.int .i64 q) ∧ w.cell? ⟨g, 2, none⟩ = some (.int .i64 p) ∧ w.cell? ⟨g, 3, none⟩ = some (.int .i64 t)) ∧
    w.frozen? ⟨g, 0, none⟩ = false ∧ w.frozen? ⟨g, 1, none⟩ = false ∧ w.frozen? ⟨g, 2, none⟩ = false ∧ w.frozen? ⟨g, 3, none⟩ = false :=
  ⟨⟨h.row 0 _ rfl 0 _ rfl, h.row 0 _ rfl 1 _ rfl, h.row 0 _ rfl 2 _ rfl, h.row 0 _ rfl 3 _ rfl⟩, h.frozen 0, h.frozen 1, h.frozen 2, h.frozen 3⟩
/-- n mappings that hold k, k + 1, .. -/
def markM (k : Int) : Nat → List Mp
  | 0 => []
  | n + 1 => ⟨k, k + 1, k + 2, k + 3⟩ :: markM (k + 4) n
theorem markM_len (k : Int) (n : Nat) : (markM k n).length = n := by
  induction n generalizing k with
  | zero => rfl
  | succ n ih => simp [markM, ih]
theorem markM_get (k : Int) (n i : Nat) (h : i < n) : (markM k n)[i]? = some ⟨k + 4 * i, k + 4 * i + 1, k + 4 * i + 2, k + 4 * i + 3⟩ := by
  induction n generalizing k i with
  | zero => omega
  | succ n ih =>
    cases i with
    | zero => simp [markM]
    | succ i =>
      simp only [markM, List.getElem?_cons_succ]
      rw [ih _ _ (by omega)]
      congr 2 <;> (push_cast; omega)
theorem markM_set0 {k : Int} {j : Nat} {l : List Mp} {a q p t : Int} (h : l[j]? = some ⟨a, q, p, t⟩) : (markM k j ++ l.drop j)[j]? = some ⟨a, q, p, t⟩ := by
  rw [List.getElem?_append_right (by rw [markM_len]; omega), markM_len, Nat.sub_self, List.getElem?_drop]
  simpa using h
theorem markM_snoc (k : Int) (j : Nat) : markM k (j + 1) = markM k j ++ [⟨k + 4 * j, k + 4 * j + 1, k + 4 * j + 2, k + 4 * j + 3⟩] := by
  induction j generalizing k with
  | zero => simp [markM]
  | succ j ih =>
    rw [markM, ih]
    conv => rhs; rw [markM]
    simp only [List.cons_append]
    congr 3 <;> (push_cast; congr 1 <;> omega)
theorem markM_set {k : Int} {j : Nat} {l : List Mp} (h : j < l.length) : (markM k j ++ l.drop j).set j ⟨k + 4 * j, k + 4 * j + 1, k + 4 * j + 2, k + 4 * j + 3⟩ = markM k (j + 1) ++ l.drop (j + 1) := by
  rw [List.set_append_right j _ (by rw [markM_len]; omega), markM_len, Nat.sub_self, markM_snoc, List.append_assoc]
  congr 1
  rw [List.drop_eq_getElem_cons h]
  rfl

/-! ### append onto a slice whose capacity is its length: a new block -/
section
variable {P : Program} {t e : TypeId} {α : Type} {enc : α → List Value} {k bytes : Nat} {z : α}
theorem flat_cells (hk : ∀ x, (enc x).length = k) {w : World} {b o : Nat} {l : List α} (hr : Row enc k w b o l) (k0 : 0 < k) : ∀ j u, (l.flatMap enc)[j]? = some u → w.cell? ((⟨b, o, none⟩ : Addr).add j) = some u := by
  intro j u hu
  have hq : j / k < l.length := by
    rw [Nat.div_lt_iff_lt_mul k0, ← flatMap_len hk]; exact (List.getElem?_eq_some_iff.1 hu).1
  have hrk : j % k < k := Nat.mod_lt _ k0
  have et : j / k * k + j % k = j := by rw [Nat.mul_comm]; exact Nat.div_add_mod j k
  have e1 := flatMap_get hk l (j / k) (j % k) hrk
  rw [et, hu, List.getElem?_eq_getElem hq] at e1
  simp only [Option.bind_some] at e1
  have := hr (j / k) _ (List.getElem?_eq_getElem hq) (j % k) u e1.symm
  rw [Addr.add_lit, ← this]
  congr 2
  omega
theorem run_grow (w : World) (T : ElT P t e enc k bytes z) (ty : TypeId) (A : Option Addr) (l : List α) (hs : Sl enc k w A l.length l) (hA : A = none → l = []) (A2 : Option Addr) (c2 : Nat) (l2 : List α) (h2 : l2 ≠ []) (hsl : Sl enc k w A2 c2 l2)
    (hlen : l.length + l2.length ≤ 4000000) (hb : bytes ≤ 1000) :
    ∃ A' c' w', (Builtin.append_ #[t, t] ty #[.slice A l.length l.length, .slice A2 l2.length c2]).run P w = .ok (.slice A' (l ++ l2).length c') w' ∧ Ow enc k e w.heap.size w' A' c' (l ++ l2) ∧ Below w.heap.size w w' := by
  obtain ⟨i, zv, hi, hz, hzv, hsz, hby⟩ := T.hi
  have hzs : zv.cells.size = k := by rw [← Array.length_toList, hzv, T.hk]
  have hpos : 0 < l2.length := List.length_pos_iff.2 h2
  obtain ⟨b2, o2, rfl, _, hr2⟩ := hsl.2 h2
  have hnews := flat_cells T.hk hr2 T.k0
  have hln := flatMap_len T.hk l2
  have hfit : (l.length + l2.length) * bytes ≤ 140737488355328 := by
    have := Nat.mul_le_mul hlen hb
    omega
  have own : ∀ cap : Nat, l.length + l2.length ≤ cap → cap ≤ maxLen → Ow enc k e w.heap.size (w.drew.alloc (.cells ((l.flatMap enc).toArray ++ (l2.flatMap enc).toArray ++ Builtin.zeroCells zv.cells (cap - (l.length + l2.length))) e)) (some ⟨w.heap.size, 0, none⟩) cap (l ++ l2) := by
    intro cap h1 h3
    refine .inr ⟨w.heap.size, rfl, Nat.le_refl _, by rw [List.length_append]; exact h1, h3, _, heap_alloc_new w.drew _, ?_, ?_, ?_⟩
    · rw [Array.size_append, Array.size_append, size_zeroCells, hzs, List.size_toArray, List.size_toArray, flatMap_len T.hk, flatMap_len T.hk, ← Nat.add_mul, ← Nat.add_mul]
      congr 1
      omega
    · rw [List.length_append]; exact Nat.mul_le_mul_right _ h1
    · intro j x hx q u hu
      have hq : q < k := by rw [← T.hk x]; exact (List.getElem?_eq_some_iff.1 hu).1
      have hj := lt_of_get hx
      have e1 := flatMap_get T.hk (l ++ l2) j q hq
      rw [hx] at e1
      simp only [Option.bind_some] at e1
      rw [hu, List.flatMap_append] at e1
      have hlt := (List.getElem?_eq_some_iff.1 e1).1
      rw [Array.getElem?_append_left (by rw [Array.size_append, List.size_toArray, List.size_toArray, ← List.length_append]; exact hlt)]
      rw [← e1]
      simp
  by_cases h1 : l = []
  · subst h1
    rcases A with _ | ad
    · have hr := run_append_nil (P := P) w t ty e i zv T.ht hi hz ⟨b2, o2, none⟩ l2.length c2 (l2.flatMap enc) (by rw [hsz]; exact hln) hnews hpos (by omega) (by rw [hby]; simp only [List.length_nil, Nat.zero_add] at hfit; omega)
      have ho := own (grownCap w l2.length 0 e) (by simpa using grownCap_ge w l2.length 0 e) (grownCap_le_maxLen w _ _ e (by unfold maxLen; omega))
      refine ⟨_, _, _, hr, by simpa using ho, (Below.refl _ _).drew.alloc (Nat.le_refl _) _⟩
    · have hr := run_append_grow (P := P) w t ty e i zv T.ht hi hz ad 0 0 [] (by simp) (by simp) ⟨b2, o2, none⟩ l2.length c2 (l2.flatMap enc) (by rw [hsz]; exact hln) hnews (by omega) (by omega) (by rw [hby]; exact growslice_fits (by omega) (by simpa using hfit))
      have ho := own (grownCap w (0 + l2.length) 0 e) (by simpa using grownCap_ge w (0 + l2.length) 0 e) (grownCap_le_maxLen w _ _ e (by unfold maxLen; omega))
      simp only [Nat.zero_add] at hr ho
      refine ⟨_, _, _, hr, by simpa using ho, (Below.refl _ _).drew.alloc (Nat.le_refl _) _⟩
  · obtain ⟨b, o, rfl, _, hr1⟩ := hs.2 h1
    have holds := flat_cells T.hk hr1 T.k0
    have hr := run_append_grow (P := P) w t ty e i zv T.ht hi hz ⟨b, o, none⟩ l.length l.length (l.flatMap enc) (by rw [hsz]; exact flatMap_len T.hk l) holds ⟨b2, o2, none⟩ l2.length c2 (l2.flatMap enc) (by rw [hsz]; exact hln) hnews (by omega) (by push_cast; omega) (by rw [hby]; exact growslice_fits (by omega) hfit)
    have ho := own (grownCap w (l.length + l2.length) l.length e) (grownCap_ge w _ _ e) (grownCap_le_maxLen w _ _ e (by unfold maxLen; omega))
    refine ⟨_, _, _, by rw [List.length_append]; exact hr, ho, (Below.refl _ _).drew.alloc (Nat.le_refl _) _⟩
theorem wpList_grow {w : World} {ops : Array Oper} {rest : List Oper} {o : Oper} {a : Act} {Q : Exit → Act → World → Prop} (T : ElT P t e enc k bytes z) (hgd : o.guard = none) (s x : Operand)
    (ho : o.op = .call { callee := .builtin .append, args := #[s, x], argTypes := #[t, t] }) (A : Option Addr) (n : Nat) (l : List α) (hs : a.eval s = .slice A n n) (hn : n = l.length) (hsl : Sl enc k w A n l) (hA : A = none → l = [])
    (A2 : Option Addr) (c2 n2 : Nat) (l2 : List α) (h2 : l2 ≠ []) (hx : a.eval x = .slice A2 n2 c2) (hn2 : n2 = l2.length) (hsl2 : Sl enc k w A2 c2 l2)
    (hlen : l.length + l2.length ≤ 4000000) (hb : bytes ≤ 1000)
    (h : ∀ A' c' w', Ow enc k e w.heap.size w' A' c' (l ++ l2) → Below w.heap.size w w' → wpList P ops Q rest (a.put o.dst (.slice A' (l ++ l2).length c')) w') : wpList P ops Q (o :: rest) a w := by
  subst hn
  subst hn2
  obtain ⟨A', c', w', hrun, h3, h4⟩ := run_grow (P := P) w T o.type A l hsl hA A2 c2 l2 h2 hsl2 hlen hb
  refine wpList_plain hgd fun K hK => ?_
  unfold Oper.wp execOp
  simp only [ho, resolve, invoke, builtin, Sem.run_bind, Sem.run_pure, Result.andThen_ok, List.map_toArray, List.map_cons, List.map_nil, hs, hx, hrun]
  exact hK _ _ (h A' c' w' h3 h4)
end
theorem elM : ElT Try.prog 25 64 encM 4 32 zeroMp where
  ht := Try.underlying25
  hi := by
    obtain ⟨i, h1, h2, h3, h4⟩ := info_parts (P := Try.prog) (e := 64) (z := .agg #[.int .i64 0, .int .i64 0, .int .i64 0, .int .i64 0]) (size := 4) (bytes := 32) (by kernel_rfl)
    exact ⟨i, _, h1, h2, rfl, h3, h4⟩
  hk := fun _ => rfl
  h1 := fun x u hu => by simp [encM] at hu; rcases hu with rfl | rfl | rfl | rfl <;> rfl
  k0 := by decide
theorem blM (w : World) (a q p t : Int) : Bl encM 4 64 (w.alloc (.cells #[.int .i64 a, .int .i64 q, .int .i64 p, .int .i64 t] 64)) w.heap.size 4 [⟨a, q, p, t⟩] := Bl.one (enc := encM) (k := 4) (fun _ => rfl) w _ rfl
theorem eqinMp (x y : Mp) (w : World) : (Op.equalIn 10000 64 (.agg #[.int .i64 x.a, .int .i64 x.q, .int .i64 x.p, .int .i64 x.l]) (.agg #[.int .i64 y.a, .int .i64 y.q, .int .i64 y.p, .int .i64 y.l])).run Try.prog w = .ok (decide (x = y)) w := by
  have u3 := Try.underlying3
  have a3 := Try.isAgg3
  have z3 := Try.sizeOf3
  have u27 := Try.underlying62
  have a27 := Try.isAgg62
  have z27 := Try.sizeOf62
  have hS : Try.prog.underlying 64 = some (.struct (Try.prog.fieldsOf 64)) := by kernel_rfl
  have hp : Try.prog.stoodInHeld 64 = false := by kernel_rfl
  have hS2 : Try.prog.underlying 62 = some (.struct (Try.prog.fieldsOf 62)) := by kernel_rfl
  have hp2 : Try.prog.stoodInHeld 62 = false := by kernel_rfl
  rw [show (10000 : Nat) = 9999 + 1 from rfl, run_equalIn_agg w 9999 64 _ _ hS hp]
  simp only [Program.fieldsOf, Try.underlying64]
  go_simp
  by_cases h1 : x.a = y.a <;> by_cases h2 : x.q = y.q <;> by_cases h3 : x.p = y.p <;> by_cases h4 : x.l = y.l <;> simp [h1, h2, h3, h4, Mp.ext_iff]
theorem eqMp (a q p t a' q' p' t' : Int) {r : Bool} (h : decide ((⟨a, q, p, t⟩ : Mp) = ⟨a', q', p', t'⟩) = r) (w : World) : (binOp .eql 64 (.agg #[.int .i64 a, .int .i64 q, .int .i64 p, .int .i64 t]) (.agg #[.int .i64 a', .int .i64 q', .int .i64 p', .int .i64 t'])).run Try.prog w = .ok (.bool r) w := by
  rw [run_eql_struct, eqinMp ⟨a, q, p, t⟩ ⟨a', q', p', t'⟩ w, h]; rfl
theorem neqMp (a q p t a' q' p' t' : Int) {r : Bool} (h : decide ((⟨a, q, p, t⟩ : Mp) = ⟨a', q', p', t'⟩) = r) (w : World) : (binOp .neq 64 (.agg #[.int .i64 a, .int .i64 q, .int .i64 p, .int .i64 t]) (.agg #[.int .i64 a', .int .i64 q', .int .i64 p', .int .i64 t'])).run Try.prog w = .ok (.bool (!r)) w := by
  rw [run_neq_struct, eqinMp ⟨a, q, p, t⟩ ⟨a', q', p', t'⟩ w, h]; rfl
theorem Clip_mt (A : Option Addr) (c n : Nat) (w : World) (hn : n ≤ c) (hc : c ≤ maxLen) :
    Calls Try.prog 35 #[.slice A n c] w (Same w (.slice A n n)) := by
  unfold maxLen at hc
  go_enter Try.func35, Try.ntmps35
  go_wp2
  go_ret
  exact ⟨rfl, rfl⟩
set_option maxHeartbeats 1000000 in
theorem Clone_mt (A : Option Addr) (c n : Nat) (l : List Mp) (w : World) (hn : n = l.length) (hl : l.length ≤ 2000000) (hs : Sl encM 4 w A c l) :
    Calls Try.prog 37 #[.slice A n c] w (fun e w' => ∃ A' c', e = .returned (.slice A' n c') ∧ Ow encM 4 64 w.heap.size w' A' c' l ∧ Below w.heap.size w w') := by
  subst hn
  rcases A with _ | ad
  · have hl0 : l = [] := by
      by_cases h : l = []
      · exact h
      · obtain ⟨b, o, h1, _⟩ := hs.2 h
        cases h1
    subst hl0
    have hnil := fun W => Lib.run_eql_slice_nil (P := Try.prog) W 25 64 none 0 c 0 0 Try.underlying25
    go_enter Try.func37, Try.ntmps37
    go_wp2
    go_ret
    exact ⟨none, 0, rfl, Ow.nil, Below.refl _ _⟩
  · have hnil := fun W => Lib.run_eql_slice_nil (P := Try.prog) W 25 64 (some ad) l.length c 0 0 Try.underlying25
    have HS := Lib.hid (hs.below ((Below.refl _ _).alloc (Nat.le_refl _) (.cells #[] 64)))
    clear hs
    go_enter Try.func37, Try.ntmps37
    go_wp2_with (at_builtin; refine wpList_app elM rfl (.tmp 5) (.tmp 6) rfl w.heap.size _ _ _ [] rfl rfl (Ow.empty w (Nat.le_refl _)) _ _ _ l rfl rfl HS.out (by simp; omega) (by decide) (by simp) ?_; intro A' c' w2 hown hg _; simp only [List.nil_append] at hown ⊢)
    go_ret
    exact ⟨A', c', rfl, hown, below_app ((Below.refl _ _).alloc (Nat.le_refl _) _) hg (by simp) (fun g h => (by simp [blk] at h; omega))⟩
/-- A clone, clipped: it lies in a block of its own. -/
theorem clone_mt (A : Option Addr) (c n : Nat) (l : List Mp) (w : World) (hn : n = l.length) (hl : l.length ≤ 2000000) (hs : Sl encM 4 w A c l) :
    Calls Try.prog 64 #[.slice A n c] w (fun e w' => ∃ A' c', e = .returned (.slice A' n n) ∧ Ow encM 4 64 w.heap.size w' A' c' l ∧ Below w.heap.size w w') := by
  subst hn
  go_enter Try.func64, Try.ntmps64
  go_wp2_with (first | (go_at_call 37; refine (Clone_mt _ _ _ _ _ rfl hl hs).mono ?_; rintro e w2 ⟨A', c', rfl, hown, hb⟩; have hm := hown.capm; have hle := hown.le) | (go_at_call 35; refine (Clip_mt _ _ _ _ hle hm).mono ?_; rintro e w' ⟨rfl, rfl⟩))
  go_ret
  exact ⟨A', c', rfl, hown, hb⟩
set_option maxHeartbeats 1000000 in
theorem laws_toMapping (a q p t : Int) (w : World) : Calls Try.prog 86 #[.agg #[.int .i64 a, .int .i64 q, .int .i64 p, .int .i64 t]] w (Ret w (.agg #[.int .i64 a, .int .i64 q, .int .i64 p, .int .i64 t])) := by
  obtain ⟨wa, hwa⟩ : ∃ x, x = w.alloc (.cells #[.int .i64 a, .int .i64 q, .int .i64 p, .int .i64 t] 101) := ⟨_, rfl⟩
  have ha : Below w.heap.size w wa := by subst hwa; exact (Below.refl _ _).alloc (Nat.le_refl _) _
  have hza : wa.heap.size = w.heap.size + 1 := by subst hwa; exact alloc_size _ _
  have A0 : Bl encM 4 101 wa w.heap.size 4 [⟨a, q, p, t⟩] := by subst hwa; exact Bl.one (enc := encM) (k := 4) (fun _ => rfl) w ⟨a, q, p, t⟩ rfl
  obtain ⟨wc, hwc⟩ : ∃ x, x = (wa.alloc (.cells #[.int .i64 0, .int .i64 0, .int .i64 0, .int .i64 0] 64)).alloc (.cells #[.int .i64 0, .int .i64 0, .int .i64 0, .int .i64 0] 64) := ⟨_, rfl⟩
  have hc : Below wa.heap.size wa wc := by subst hwc; exact ((Below.refl _ _).alloc (Nat.le_refl _) _).alloc (by simp) _
  have hzc : wc.heap.size = w.heap.size + 1 + 1 + 1 := by subst hwc; simp [hza]
  have A1 : Bl encM 4 101 wc w.heap.size 4 [⟨a, q, p, t⟩] := A0.below hc (by omega)
  have B1 : Bl encM 4 64 wc (w.heap.size + 1) 4 [⟨0, 0, 0, 0⟩] := by
    subst hwc
    have := (blM wa 0 0 0 0).alloc (.cells #[.int .i64 0, .int .i64 0, .int .i64 0, .int .i64 0] 64)
    rw [hza] at this
    exact this
  have C1 : Bl encM 4 64 wc (w.heap.size + 1 + 1) 4 [⟨0, 0, 0, 0⟩] := by
    subst hwc
    have := blM (wa.alloc (.cells #[.int .i64 0, .int .i64 0, .int .i64 0, .int .i64 0] 64)) 0 0 0 0
    rw [alloc_size, hza] at this
    exact this
  have hk : Below w.heap.size w wc := ha.trans (hc.mono ha.size)
  have HA := Lib.hid A1
  have HB := Lib.hid B1
  have HC := Lib.hid C1
  have HZ := Lib.hid hzc
  have HK := Lib.hid hk
  have WW := Lib.hid (show ((w.alloc (.cells #[.int .i64 a, .int .i64 q, .int .i64 p, .int .i64 t] 101)).alloc (.cells #[.int .i64 0, .int .i64 0, .int .i64 0, .int .i64 0] 64)).alloc (.cells #[.int .i64 0, .int .i64 0, .int .i64 0, .int .i64 0] 64) = wc by rw [hwc, hwa])
  clear A0 A1 B1 C1 ha hza hc hzc hk hwa hwc
  go_enter Try.func86, Try.ntmps86
  go_wp2_with fail
  rw [WW.out]
  refine (laws_toEnd _ _ _).mono ?_
  rintro e w2 ⟨rfl, hb2⟩
  have hz : w.heap.size + 1 + 1 < wc.heap.size := by have := HZ.out; omega
  obtain ⟨⟨x0, x1, x2, x3⟩, f0, f1, f2, f3⟩ := (HA.out.below hb2 (by omega)).mt4
  obtain ⟨⟨y0, y1, y2, y3⟩, g0, g1, g2, g3⟩ := (HB.out.below hb2 (by omega)).mt4
  obtain ⟨⟨z0, z1, z2, z3⟩, h0, h1, h2, h3⟩ := (HC.out.below hb2 (by omega)).mt4
  have hk2 := HK.out.trans (hb2.mono HK.out.size)
  have hz2 : w.heap.size + 1 + 1 < w2.heap.size := Nat.lt_of_lt_of_le hz hb2.size
  go_wp2
  refine bodyPost_ret (v := .agg #[.int .i64 a, .int .i64 q, .int .i64 p, .int .i64 t]) (by simp [results, Try.results86, go_sem, x0, x1, x2, x3, y0, y1, y2, y3, z0, z1, z2, z3]) rfl ⟨rfl, ?_⟩
  have n1 : w.heap.size ≤ w.heap.size + 1 := Nat.le_succ _
  have n2 : w.heap.size ≤ w.heap.size + 1 + 1 := Nat.le_succ_of_le n1
  exact (((((((hk2.setCell n2 _).setCell n2 _).setCell n2 _).setCell n2 _).setCell n1 _).setCell n1 _).setCell n1 _).setCell n1 _
theorem laws_szMappingS (A : Option Addr) (c n : Nat) (left : Int) (w : World) (hn : n ≤ 9223372036854775807) (h0 : 0 ≤ left) (h1 : left ≤ 1048576) :
    Calls Try.prog 48 #[.slice A n c, .int .i64 left] w (Same w (.int .i64 (if left - n < 0 then -1 else left - n))) := by
  by_cases h : left - (n : Int) < 0
  · go_enter Try.func48, Try.ntmps48
    go_wp2
    go_ret
    exact ⟨rfl, rfl⟩
  · go_enter Try.func48, Try.ntmps48
    go_wp2
    go_ret
    exact ⟨rfl, rfl⟩
set_option maxHeartbeats 1000000 in
theorem laws_eqMapping (a q p t a' q' p' t' : Int) (w : World) : Calls Try.prog 88 #[.agg #[.int .i64 a, .int .i64 q, .int .i64 p, .int .i64 t], .agg #[.int .i64 a', .int .i64 q', .int .i64 p', .int .i64 t']] w (Ret w (.bool (decide ((⟨a, q, p, t⟩ : Mp) = ⟨a', q', p', t'⟩)))) := by
  obtain ⟨wq, hwq⟩ : ∃ x, x = (w.alloc (.cells #[.int .i64 a, .int .i64 q, .int .i64 p, .int .i64 t] 64)).alloc (.cells #[.int .i64 a', .int .i64 q', .int .i64 p', .int .i64 t'] 64) := ⟨_, rfl⟩
  have hba : Below w.heap.size w wq := by subst hwq; exact ((Below.refl _ _).alloc (Nat.le_refl _) _).alloc (by simp) _
  have hzq : wq.heap.size = w.heap.size + 1 + 1 := by subst hwq; simp
  have A0 : Bl encM 4 64 wq w.heap.size 4 [⟨a, q, p, t⟩] := by subst hwq; exact (blM w a q p t).alloc _
  have B0 : Bl encM 4 64 wq (w.heap.size + 1) 4 [⟨a', q', p', t'⟩] := by
    subst hwq
    have := blM (w.alloc (.cells #[.int .i64 a, .int .i64 q, .int .i64 p, .int .i64 t] 64)) a' q' p' t'
    rw [alloc_size] at this
    exact this
  have HB := Lib.hid hba
  have HX := Lib.hid A0
  have HY := Lib.hid B0
  have HZ := Lib.hid hzq
  have WQ := Lib.hid hwq
  clear hba A0 B0 hzq hwq
  cases h2 : decide (a = a' ∧ q = q')
  · have H2 := Lib.hid h2
    clear h2
    go_enter Try.func88, Try.ntmps88
    go_wp2_with (go_at_call 100; rw [← WQ.out]; refine (laws_eqEnd _ _ _ _ _).mono ?_; rintro e w2 ⟨rfl, hb2⟩; rw [H2.out])
    go_ret
    have := of_decide_eq_false H2.out
    exact ⟨by rw [decide_eq_false (by simp [Mp.ext_iff]; intro h1 h2; exact absurd ⟨h1, h2⟩ this)]; rfl, bstep HB.out hb2 HB.out.size⟩
  cases h3 : (p != p')
  · cases h4 : (t != t')
    all_goals
      have H2 := Lib.hid h2
      have H3 := Lib.hid h3
      have H4 := Lib.hid h4
      clear h2
      go_enter Try.func88, Try.ntmps88
      go_wp2_with fail
      rw [← WQ.out]
      refine (laws_eqEnd _ _ _ _ _).mono ?_
      rintro e w2 ⟨rfl, hb2⟩
      rw [H2.out]
      have hz1 : w.heap.size + 1 < wq.heap.size := by have := HZ.out; omega
      obtain ⟨⟨x0, x1, x2, x3⟩, _⟩ := (HX.out.below hb2 (by omega)).mt4
      obtain ⟨⟨y0, y1, y2, y3⟩, _⟩ := (HY.out.below hb2 (by omega)).mt4
      clear hz1
      go_wp2
      go_ret
      have e2 := of_decide_eq_true H2.out
      have e3 : p = p' := by have := H3.out; simpa using this
      have e4 := H4.out
      refine ⟨?_, bstep HB.out hb2 HB.out.size⟩
      first | (rw [decide_eq_true (by rw [e2.1, e2.2, e3, show t = t' from by simpa using e4])]; rfl) | (rw [decide_eq_false (by simp only [Mp.mk.injEq]; rintro ⟨_, _, _, h⟩; simp [h] at e4)]; rfl)
  · have H2 := Lib.hid h2
    have H3 := Lib.hid h3
    clear h2
    go_enter Try.func88, Try.ntmps88
    go_wp2_with fail
    rw [← WQ.out]
    refine (laws_eqEnd _ _ _ _ _).mono ?_
    rintro e w2 ⟨rfl, hb2⟩
    rw [H2.out]
    have hz1 : w.heap.size + 1 < wq.heap.size := by have := HZ.out; omega
    obtain ⟨⟨x0, x1, x2, x3⟩, _⟩ := (HX.out.below hb2 (by omega)).mt4
    obtain ⟨⟨y0, y1, y2, y3⟩, _⟩ := (HY.out.below hb2 (by omega)).mt4
    clear hz1
    go_wp2
    go_ret
    have e3 := H3.out
    exact ⟨by rw [decide_eq_false (by simp only [Mp.mk.injEq]; rintro ⟨_, _, h, _⟩; simp [h] at e3)]; rfl, bstep HB.out hb2 HB.out.size⟩
end Go.Proofs.Ytlgfmnognhojnaa
