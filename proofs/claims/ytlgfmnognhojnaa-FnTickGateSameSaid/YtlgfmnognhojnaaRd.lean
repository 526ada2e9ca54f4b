/- The generators' reader: its steps, walked. -/
import Derived.Test.YtlgfmnognhojnaaBase
import Derived.Test.YtlgfmnognhojnaaOwn
namespace Go.Proofs.Ytlgfmnognhojnaa
open Go.RowKit
def encB (x : Int) : List Value := [.int .u8 x]
def encI1 (x : Int) : List Value := [.int .i64 x]
/-- Block g holds a reader: its bytes lie below g; its position is at most N. -/
def Rd (w : World) (g N : Nat) : Prop := ∃ (A : Option Addr) (c : Nat) (l : List Int) (p : Nat), w.heap[g]? = some (.cells #[.slice A l.length c, .int .i64 (p : Int)] 88 (0, 0)) ∧ p ≤ N ∧ l.length ≤ 2000 ∧ Sl encB 1 w A c l ∧ (∀ x ∈ l, 0 ≤ x ∧ x ≤ 255) ∧ (l ≠ [] → ∀ a, A = some a → a.block < g)
theorem Rd.of {w w' : World} {g N : Nat} (h : Rd w g N) (hs : w.heap.size ≤ w'.heap.size) (hb : ∀ i, i ≤ g → w'.heap[i]? = w.heap[i]?) : Rd w' g N := by
  obtain ⟨A, c, l, p, h1, h2, h3, h4, h5, h6⟩ := h
  refine ⟨A, c, l, p, (hb g (Nat.le_refl _)).trans h1, h2, h3, ⟨h4.1, fun hl => ?_⟩, h5, h6⟩
  obtain ⟨b, o, rfl, hlt, hr⟩ := h4.2 hl
  have hbg := h6 hl _ rfl
  exact ⟨b, o, rfl, Nat.lt_of_lt_of_le hlt hs, fun i x hi j u hu => (World.cell?_of_block (a := ⟨b, o + i * 1 + j, none⟩) (hb b (Nat.le_of_lt hbg))).trans (hr i x hi j u hu)⟩
theorem Rd.lt {w : World} {g N : Nat} (h : Rd w g N) : g < w.heap.size := by
  obtain ⟨A, c, l, p, h1, _⟩ := h
  exact (Array.getElem?_eq_some_iff.1 h1).1
theorem Rd.below {w w' : World} {g N B : Nat} (h : Rd w g N) (hb : Below B w w') (hg : g < B) : Rd w' g N := h.of hb.size fun i hi => hb.block i (by omega)
theorem Rd.grown {w w' : World} {g N : Nat} {row : Option Nat} (h : Rd w g N) (hb : w.grownBy w' row) (hg : ∀ r, row = some r → g < r) : Rd w' g N :=
  h.of hb.size fun i hi => hb.block i (Nat.lt_of_le_of_lt hi h.lt) (by rintro e; have := hg i e.symm; omega)
theorem Rd.alloc {w : World} {g N : Nat} (h : Rd w g N) (o : Obj) : Rd (w.alloc o) g N := h.below ((Below.refl _ _).alloc (B := w.heap.size) (Nat.le_refl _) o) h.lt
theorem Rd.drewN {w : World} {g N : Nat} (h : Rd w g N) (n : Nat) : Rd (w.drewN n) g N := h
theorem Rd.mono {w : World} {g N M : Nat} (h : Rd w g N) (hM : N ≤ M) : Rd w g M := by
  obtain ⟨A, c, l, p, h1, h2, h3⟩ := h
  exact ⟨A, c, l, p, h1, Nat.le_trans h2 hM, h3⟩
theorem xor_nonneg (z v : Int) (h0 : 0 ≤ z) (h1 : z ≤ 100000000) (h2 : 0 ≤ v) (h3 : v ≤ 100000000) : 0 ≤ bits .xor .i64 z v := by
  obtain ⟨a, rfl⟩ := Int.eq_ofNat_of_zero_le h0
  obtain ⟨b, rfl⟩ := Int.eq_ofNat_of_zero_le h2
  have hx : a ^^^ b < 2 ^ 27 := Nat.xor_lt_two_pow (by omega) (by omega)
  have e1 : (BitVec.ofInt 64 (a : Int)).toNat = a := by
    rw [BitVec.ofInt_natCast, BitVec.toNat_ofNat]; exact Nat.mod_eq_of_lt (by omega)
  have e2 : (BitVec.ofInt 64 (b : Int)).toNat = b := by
    rw [BitVec.ofInt_natCast, BitVec.toNat_ofNat]; exact Nat.mod_eq_of_lt (by omega)
  show 0 ≤ IntKind.i64.wrap ((BitVec.ofInt 64 (a : Int) ^^^ BitVec.ofInt 64 (b : Int)).toNat : Int)
  rw [BitVec.toNat_xor, e1, e2]
  simp [IntKind.wrap, IntKind.bits, IntKind.signed]
  omega
set_option maxHeartbeats 4000000 in
theorem pick_ (g N : Nat) (n : Int) (w : World) (hn : n ≤ 1000000) (hn0 : -1000000 ≤ n) (hN : N ≤ 1000000) (hr : Rd w g N) :
    Calls Try.prog 63 #[.pointer (some ⟨g, 0, none⟩), .int .i64 n] w (fun e w' => ∃ x : Int, e = .returned (.int .i64 x) ∧ 0 ≤ x ∧ (1 ≤ n → x < n) ∧ x ≤ 1000000 ∧ Rd w' g (N + 1) ∧ w.grownBy w' (some g)) := by
  have hgl := hr.lt
  obtain ⟨A, c, l, p, h1, h2, h3, h4, h5, h6⟩ := hr
  have c0 : w.cell? ⟨g, 0, none⟩ = some (.slice A l.length c) := cell_of_row _ _ _ _ _ _ h1
  have c1 : w.cell? ⟨g, 1, none⟩ = some (.int .i64 (p : Int)) := cell_of_row _ _ _ _ _ _ h1
  have f1 : w.frozen? ⟨g, 1, none⟩ = false := by simp [World.frozen?, h1]
  obtain ⟨wa, hwa⟩ : ∃ x, x = w.setCell ⟨g, 1, none⟩ (.int .i64 ((p : Int) + 1)) := ⟨_, rfl⟩
  have hga : wa.heap[g]? = some (.cells #[.slice A l.length c, .int .i64 ((p + 1 : Nat) : Int)] 88 (0, 0)) := by
    subst hwa; simp [World.setCell, Array.getElem?_modify, h1]
  have hgr : w.grownBy wa (some g) := by subst hwa; exact grown_setCell (grown_of_below (Below.refl _ _)) (.inl rfl) _
  have ha : ∀ i, i < g → wa.heap[i]? = w.heap[i]? := fun i hi => hgr.block i (Nat.lt_trans hi hgl) (by simp; omega)
  have hsl : Sl encB 1 wa A c l := ⟨h4.1, fun hl => by
    obtain ⟨b, o, rfl, hlt, hrow⟩ := h4.2 hl
    exact ⟨b, o, rfl, Nat.lt_of_lt_of_le hlt hgr.size, fun i x hi j u hu => (World.cell?_of_block (a := ⟨b, o + i * 1 + j, none⟩) (ha b (h6 hl _ rfl))).trans (hrow i x hi j u hu)⟩⟩
  have hrd : Rd wa g (N + 1) := ⟨A, c, l, p + 1, hga, by omega, h3, hsl, h5, h6⟩
  have d0 : wa.cell? ⟨g, 0, none⟩ = some (.slice A l.length c) := cell_of_row _ _ _ _ _ _ hga
  have d1 : wa.cell? ⟨g, 1, none⟩ = some (.int .i64 ((p : Int) + 1)) := cell_of_row _ _ _ _ _ _ hga
  have hza : g < wa.heap.size := Nat.lt_of_lt_of_le hgl hgr.size
  have WA := Lib.hid hwa
  have RD := Lib.hid hrd
  have GR := Lib.hid hgr
  have H5 := Lib.hid h5
  have SL := Lib.hid hsl
  clear hwa hga hrd hgr ha hsl h1 h4 h5 h6
  by_cases hn1 : n < 1
  · go_enter Try.func63, Try.ntmps63
    go_wp2
    rw [← WA.out]
    go_wp2
    go_ret
    exact ⟨0, rfl, by omega, by omega, by omega, RD.out, GR.out⟩
  by_cases hl0 : l.length = 0
  · have hl0' : ((l.length : Int) == 0) = true := by rw [hl0]; rfl
    go_enter Try.func63, Try.ntmps63
    go_wp2
    rw [← WA.out]
    go_wp2
    go_ret
    exact ⟨0, rfl, by omega, by omega, by omega, RD.out, GR.out⟩
  have hl1 : ((l.length : Int) == 0) = false := by rw [beq_eq_false_iff_ne]; omega
  obtain ⟨b, o, rfl, hbl, hrow⟩ := SL.out.base (i := 0) (by omega)
  by_cases hp : p < l.length
  · obtain ⟨x, hx⟩ : ∃ x, l[p]? = some x := ⟨_, List.getElem?_eq_getElem hp⟩
    obtain ⟨hx0, hx1⟩ := H5.out x (List.mem_of_getElem? hx)
    have cx : (w.setCell ⟨g, 1, none⟩ (.int .i64 ((p : Int) + 1))).cell? ⟨b, o + p, none⟩ = some (.int .u8 x) := by rw [← WA.out]; simpa using hrow p x hx 0 _ rfl
    clear hx hrow
    go_enter Try.func63, Try.ntmps63
    go_wp2
    go_ret
    rw [← WA.out]
    have e1 := Int.emod_nonneg x (b := n) (by omega)
    have e2 := Int.emod_lt_of_pos x (b := n) (by omega)
    exact ⟨_, rfl, e1, e2, by omega, RD.out, GR.out⟩
  · obtain ⟨x, hx⟩ : ∃ x, l[p % l.length]? = some x := ⟨_, List.getElem?_eq_getElem (Nat.mod_lt _ (by omega))⟩
    obtain ⟨y, hy⟩ : ∃ x, l[(p * 7 + 3) % l.length]? = some x := ⟨_, List.getElem?_eq_getElem (Nat.mod_lt _ (by omega))⟩
    obtain ⟨hx0, hx1⟩ := H5.out x (List.mem_of_getElem? hx)
    obtain ⟨hy0, hy1⟩ := H5.out y (List.mem_of_getElem? hy)
    have hlp : (0 : Int) < (l.length : Int) := by omega
    have m0 : (0 : Int) ≤ (p : Int) % (l.length : Int) := Int.emod_nonneg _ (by omega)
    have m1 : (p : Int) % (l.length : Int) < (l.length : Int) := Int.emod_lt_of_pos _ hlp
    have m2 : (0 : Int) ≤ ((p : Int) * 7 + 3) % (l.length : Int) := Int.emod_nonneg _ (by omega)
    have m3 : ((p : Int) * 7 + 3) % (l.length : Int) < (l.length : Int) := Int.emod_lt_of_pos _ hlp
    have q0 : (0 : Int) ≤ (p : Int) / (l.length : Int) := Int.ediv_nonneg (by omega) (by omega)
    have q1 : (p : Int) / (l.length : Int) ≤ (p : Int) := Int.ediv_le_self _ (by omega)
    have cx : wa.cell? ⟨b, o + p % l.length, none⟩ = some (.int .u8 x) := by simpa using hrow _ x hx 0 _ rfl
    have cy : wa.cell? ⟨b, o + (p * 7 + 3) % l.length, none⟩ = some (.int .u8 y) := by simpa using hrow _ y hy 0 _ rfl
    clear hx hy hrow
    go_enter Try.func63, Try.ntmps63
    go_wp2
    rw [← WA.out]
    clear c0 c1 f1
    go_quiet (fail)
    obtain ⟨z, hz⟩ : ∃ z : Int, z = x * 131 + y * 1117 + (p : Int) * 29 + (p : Int) / (l.length : Int) * 53 := ⟨_, rfl⟩
    have hz0 : 0 ≤ z := by omega
    have hz1 : z ≤ 100000000 := by omega
    rw [← hz]
    clear hz cx cy m0 m1 m2 m3 q0 q1 hx0 hx1 hy0 hy1
    go_wp2
    go_ret
    have hx0 := xor_nonneg z (z / 64) hz0 hz1 (by omega) (by omega)
    rw [Int.tmod_eq_emod_of_nonneg hx0]
    have e1 := Int.emod_nonneg (bits .xor .i64 z (z / 64)) (b := n) (by omega)
    have e2 := Int.emod_lt_of_pos (bits .xor .i64 z (z / 64)) (b := n) (by omega)
    exact ⟨_, rfl, e1, fun _ => e2, by omega, RD.out.drewN _, grown_drewN GR.out _⟩
end Go.Proofs.Ytlgfmnognhojnaa
