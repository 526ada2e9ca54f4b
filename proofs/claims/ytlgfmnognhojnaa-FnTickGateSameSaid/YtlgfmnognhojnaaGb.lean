/- Blocks that hold a few cells; the program's ValidGate, walked. -/
import Derived.Test.YtlgfmnognhojnaaGa
import Derived.Test.YtlgfmnognhojnaaTz
import Derived.Test.YtlgfmnognhojnaaCk
namespace Go.Proofs.Ytlgfmnognhojnaa
open Go.RowKit
/-- Block g holds these cells and nothing else. -/
def BlAt (w : World) (g : Nat) (cs : Array Value) : Prop := ∃ t, w.heap[g]? = some (.cells cs t (0, 0))
section
variable {w w' : World} {g B : Nat} {cs : Array Value}
theorem BlAt.new (w : World) (t : TypeId) (cs : Array Value) : BlAt (w.alloc (.cells cs t)) w.heap.size cs := ⟨t, heap_alloc_new w _⟩
theorem BlAt.lt (h : BlAt w g cs) : g < w.heap.size := by
  obtain ⟨t, h⟩ := h
  exact (Array.getElem?_eq_some_iff.1 h).1
theorem BlAt.of_heap (h : BlAt w g cs) (hb : w'.heap[g]? = w.heap[g]?) : BlAt w' g cs := by
  obtain ⟨t, h⟩ := h
  exact ⟨t, hb.trans h⟩
theorem BlAt.below (h : BlAt w g cs) (hb : Below B w w') (hg : g < B) : BlAt w' g cs := h.of_heap (hb.block g hg)
theorem BlAt.below_ (h : BlAt w g cs) (hb : Below w.heap.size w w') : BlAt w' g cs := h.below hb h.lt
theorem BlAt.grown {row : Option Nat} (h : BlAt w g cs) (hb : w.grownBy w' row) (hg : some g ≠ row) : BlAt w' g cs := h.of_heap (hb.block g h.lt hg)
theorem BlAt.alloc (h : BlAt w g cs) (o : Obj) : BlAt (w.alloc o) g cs := h.of_heap (Below.heap_alloc _ _ _ h.lt)
theorem BlAt.far (h : BlAt w g cs) {p : Addr} (hp : p.block ≠ g) (u : Value) : BlAt (w.setCell p u) g cs := h.of_heap (Below.heap_setCell _ _ _ _ (Ne.symm hp))
theorem BlAt.cell (h : BlAt w g cs) {j : Nat} {v : Value} (e : cs[j]? = some v) : w.cell? ⟨g, j, none⟩ = some v := by
  obtain ⟨t, h⟩ := h
  simp [World.cell?, h, e]
theorem BlAt.free (h : BlAt w g cs) (j : Nat) : w.frozen? ⟨g, j, none⟩ = false := by
  obtain ⟨t, h⟩ := h
  simp [World.frozen?, h]
theorem BlAt.set (h : BlAt w g cs) (j : Nat) (u : Value) {cs' : Array Value} (e : cs.toList.set j u = cs'.toList) : BlAt (w.setCell ⟨g, j, none⟩ u) g cs' := by
  obtain ⟨t, h⟩ := h
  refine ⟨t, ?_⟩
  have : cs.setIfInBounds j u = cs' := by apply Array.toList_inj.1; simpa using e
  simp [World.setCell, Array.getElem?_modify, h, this]
end
theorem gcells {w : World} {g : Nat} {v0 v1 v2 v3 v4 v5 v6 v7 : Value} (h : BlAt w g #[v0, v1, v2, v3, v4, v5, v6, v7]) : w.cell? ⟨g, 0, none⟩ = some v0 ∧ w.cell? ⟨g, 1, none⟩ = some v1 ∧ w.cell? ⟨g, 2, none⟩ = some v2 ∧ w.cell? ⟨g, 3, none⟩ = some v3 ∧ w.cell? ⟨g, 4, none⟩ = some v4 ∧ w.cell? ⟨g, 5, none⟩ = some v5 ∧ w.cell? ⟨g, 6, none⟩ = some v6 ∧ w.cell? ⟨g, 7, none⟩ = some v7 :=
  ⟨h.cell rfl, h.cell rfl, h.cell rfl, h.cell rfl, h.cell rfl, h.cell rfl, h.cell rfl, h.cell rfl⟩
theorem gfrees {w : World} {g : Nat} {cs : Array Value} (h : BlAt w g cs) : w.frozen? ⟨g, 0, none⟩ = false ∧ w.frozen? ⟨g, 1, none⟩ = false ∧ w.frozen? ⟨g, 2, none⟩ = false ∧ w.frozen? ⟨g, 3, none⟩ = false ∧ w.frozen? ⟨g, 4, none⟩ = false ∧ w.frozen? ⟨g, 5, none⟩ = false ∧ w.frozen? ⟨g, 6, none⟩ = false ∧ w.frozen? ⟨g, 7, none⟩ = false :=
  ⟨h.free 0, h.free 1, h.free 2, h.free 3, h.free 4, h.free 5, h.free 6, h.free 7⟩
theorem all_bad {α : Type} {f : α → Bool} {l : List α} {k : Nat} {x : α} (h : l[k]? = some x) (hf : f x = false) : l.all f = false := by
  cases ha : l.all f
  · rfl
  · have := List.all_eq_true.1 ha x (List.mem_of_getElem? h)
    rw [hf] at this
    cases this
theorem all_step {α : Type} {f : α → Bool} {l : List α} {k : Nat} {x : α} (h : l[k]? = some x) (hf : f x = true) (hn : ∀ y ∈ l.take k, f y = true) : ∀ y ∈ l.take (k + 1), f y = true := by
  intro y hy
  rw [take_succ h] at hy
  rcases List.mem_append.1 hy with hy | hy
  · exact hn y hy
  · simp at hy; subst hy; exact hf
section
variable {A : Option Addr} {c n : Nat} {w : World} {r : Bool}
theorem spec_VTt {l : List Mp} (hr : vM l = r) (hn : n = l.length) (hl : l.length ≤ 2000000) (hs : Sl encM 4 w A c l) :
    Calls Try.prog 74 #[.slice A n c] w (Ret w (.bool r)) := by
  subst hr
  exact spec_validTable A c n l w hn hl hs
theorem spec_VCc {l : List Ct} (hr : vC l = r) (hn : n = l.length) (hl : l.length ≤ 2000000) (hs : Sl encC 3 w A c l) :
    Calls Try.prog 75 #[.slice A n c] w (Ret w (.bool r)) := by
  subst hr
  subst hn
  exact spec_validContacts A c l w hl hs
end
/-! ### the program's order of tests -/
theorem head_impl (G : Gt) : headG G = (okN G.b G.n && (isW G.o && (!hasN G.b G.n G.o && (tim G.T G.t G.h && (vC G.C && inR G.f 0 2))))) := by
  unfold headG tim
  rw [Bool.eq_iff_iff]
  simp only [Bool.and_eq_true]
  exact ⟨fun ⟨a, b, c, d, e, f, g, h⟩ => ⟨a, b, c, ⟨d, h, g⟩, e, f⟩, fun ⟨a, b, c, ⟨d, h, g⟩, e, f⟩ => ⟨a, b, c, d, e, f, g, h⟩⟩
/-- What the program's test of a mapping says for any numbers. -/
def badM (b n t h : Int) (x : Mp) : Bool := !hasN b n x.a || (decide (t < x.l) || wexq t h x)
theorem badM_any {b n t h : Int} {T : List Mp} (ht : tim T t h = true) : T.any (badM b n t h) = !T.all (okMg b n t h) := by
  obtain ⟨hv, ⟨t0, t1⟩, _⟩ := tim_iff.1 ht
  have e : ∀ x ∈ T, badM b n t h x = !okMg b n t h x := by
    intro x hx
    have hl := last_in hv hx
    unfold badM okMg
    rw [wexq_eq t0 t1 hl.1 hl.2]
    have hd : decide (t < x.l) = !decide (x.l ≤ t) := by rw [← decide_not]; exact decide_eq_decide.2 (by omega)
    rw [hd]
    cases hasN b n x.a <;> cases decide (x.l ≤ t) <;> cases exq t h x <;> rfl
  rw [List.not_all_eq_any_not]
  rw [Bool.eq_iff_iff, List.any_eq_true, List.any_eq_true]
  constructor
  · rintro ⟨x, hx, h⟩; exact ⟨x, hx, by rw [← e x hx]; exact h⟩
  · rintro ⟨x, hx, h⟩; exact ⟨x, hx, by rw [e x hx]; exact h⟩
theorem ContainsFunc_mt (A : Option Addr) (c : Nat) (l : List Mp) (g : FuncId) (cb : Array Value) (f : Mp → Bool) (w : World) (hl : l.length ≤ 2000000) (hs : Sl encM 4 w A c l)
    (eg : ∀ args W, (callFunc g args).run Try.prog W = .ok (.enter g args) W) (hp : ∀ a q p t W, Below w.heap.size w W → Calls Try.prog g (#[.agg #[.int .i64 a, .int .i64 q, .int .i64 p, .int .i64 t]] ++ cb) W (Ret W (.bool (f ⟨a, q, p, t⟩)))) :
    Calls Try.prog 43 #[.slice A l.length c, .func (.func g) #[] cb] w (Ret w (.bool (l.any f))) := by
  have HP := Lib.hid hp
  have EG := Lib.hid eg
  have HI := Lib.hid (idx_nonneg f l)
  have HS := Lib.hid hs
  clear hp hs eg
  go_enter Try.func43, Try.ntmps43
  go_wp2_with (go_at_call 82; refine (IndexFunc_mt _ _ _ _ _ f _ hl HS.out EG.out HP.out).mono ?_; rintro e w2 ⟨rfl, hb2⟩)
  go_ret
  exact ⟨by rw [← HI.out]; rfl, hb2⟩
set_option maxHeartbeats 2000000 in
theorem ValidGate_1 (a q p l : Int) (g : Nat) (b n o f h t : Int) (sT sC : Value) (W : World) (hg : BlAt W g #[.int .i64 b, .int .i64 n, .int .i64 o, sT, sC, .int .i64 f, .int .i64 h, .int .i64 t]) (h0 : 0 ≤ n) (h1 : n ≤ 16) (b0 : 0 ≤ b) (b1 : b ≤ 65535) :
    Calls Try.prog 44 #[.agg #[.int .i64 a, .int .i64 q, .int .i64 p, .int .i64 l], .pointer (some ⟨g, 0, none⟩)] W (Ret W (.bool (badM b n t h ⟨a, q, p, l⟩))) := by
  obtain ⟨wq, hwq⟩ : ∃ y, y = W.alloc (.cells #[.int .i64 a, .int .i64 q, .int .i64 p, .int .i64 l] 64) := ⟨_, rfl⟩
  have hq : Below W.heap.size W wq := by subst hwq; exact (Below.refl _ _).alloc (Nat.le_refl _) _
  have hzq : W.heap.size < wq.heap.size := by subst hwq; simp
  have bm : BlAt wq W.heap.size #[.int .i64 a, .int .i64 q, .int .i64 p, .int .i64 l] := by subst hwq; exact BlAt.new _ _ _
  have BM := Lib.hid (fun V (h : Below wq.heap.size wq V) => bm.below h hzq)
  have BG := Lib.hid (fun V (h : Below wq.heap.size wq V) => hg.below_ (hq.trans (h.mono hq.size)))
  have hlt := hg.lt
  have WQ := Lib.hid hwq
  obtain ⟨r, hr⟩ : ∃ r, hasN b n a = r := ⟨_, rfl⟩
  have HR := Lib.hid hr
  have hv : badM b n t h ⟨a, q, p, l⟩ = (!r || (decide (t < l) || wexq t h ⟨a, q, p, l⟩)) := by unfold badM; rw [hr]
  rw [hv]
  obtain ⟨x0, x1, x2, x3, x4, x5, x6, x7⟩ := gcells (hg)
  clear hwq bm hr hv hg
  go_enter Try.func44, Try.ntmps44
  go_wp2_with fail
  rw [← WQ.out]
  refine (impl_has b n a _ h0 h1 b0 b1).mono ?_
  rintro e w2 ⟨rfl, hb2⟩
  rw [HR.out]
  clear x0 x1 x2 x3 x4 x5 x6 x7
  cases r
  · go_wp2
    go_ret
    exact ⟨rfl, hq.trans (hb2.mono hq.size)⟩
  obtain ⟨x0, x1, x2, x3, x4, x5, x6, x7⟩ := gcells (BG.out w2 hb2)
  have bm2 := BM.out w2 hb2
  have y0 : w2.cell? ⟨W.heap.size, 0, none⟩ = some (.int .i64 a) := bm2.cell rfl
  have y1 : w2.cell? ⟨W.heap.size, 1, none⟩ = some (.int .i64 q) := bm2.cell rfl
  have y2 : w2.cell? ⟨W.heap.size, 2, none⟩ = some (.int .i64 p) := bm2.cell rfl
  have y3 : w2.cell? ⟨W.heap.size, 3, none⟩ = some (.int .i64 l) := bm2.cell rfl
  by_cases hlt2 : t < l
  · have HD := Lib.hid (decide_eq_true hlt2)
    go_wp2
    go_ret
    exact ⟨by rw [HD.out]; rfl, hq.trans (hb2.mono hq.size)⟩
  · rw [decide_eq_false hlt2]
    go_wp2_with fail
    refine (impl_expired _ _ _ _ _ _ _).mono ?_
    rintro e w3 ⟨rfl, hb3⟩
    have hk3 := bstep hb2 hb3 hb2.size
    go_wp2
    go_ret
    exact ⟨by simp, hq.trans (hk3.mono hq.size)⟩
theorem ValidGate_2 (p a q : Int) (g : Nat) (v0 v1 v2 v4 v5 v6 v7 : Value) (At : Option Addr) (ct nt : Nat) (T : List Mp) (W : World) (hg : BlAt W g #[v0, v1, v2, .slice At nt ct, v4, v5, v6, v7]) (hnt : nt = T.length) (hlT : T.length ≤ 2000000) (hT : Sl encM 4 W At ct T) :
    Calls Try.prog 46 #[.agg #[.int .i64 p, .int .i64 a, .int .i64 q], .pointer (some ⟨g, 0, none⟩)] W (Ret W (.bool (!used T p))) := by
  have hb0 : Below W.heap.size W (W.alloc (.cells #[.int .i64 p, .int .i64 a, .int .i64 q] 75)) := (Below.refl _ _).alloc (Nat.le_refl _) _
  have ST := Lib.hid (hT.below hb0)
  have HB := Lib.hid hb0
  have hlt := hg.lt
  have HN := Lib.hid hnt
  have HV := Lib.hid (byP_free T p)
  obtain ⟨x0, x1, x2, x3, x4, x5, x6, x7⟩ := gcells (hg)
  clear hT hb0 hnt hg
  go_enter Try.func46, Try.ntmps46
  go_wp2_with fail
  refine (impl_byPort _ _ _ T _ _ HN.out hlT ST.out).mono ?_
  rintro e w2 ⟨rfl, hb2⟩
  go_wp2
  go_ret
  exact ⟨by rw [← HV.out]; rfl, bstep HB.out hb2 HB.out.size⟩
set_option maxHeartbeats 4000000 in
theorem impl_ValidGate (b n o f h t : Int) (T : List Mp) (C : List Ct) (At Ac : Option Addr) (ct cc nt nc : Nat) (w : World) (hnt : nt = T.length) (hnc : nc = C.length) (hlT : T.length ≤ 2000000) (hlC : C.length ≤ 2000000) (hT : Sl encM 4 w At ct T) (hC : Sl encC 3 w Ac cc C) :
    Calls Try.prog 14 #[.agg #[.int .i64 b, .int .i64 n, .int .i64 o, .slice At nt ct, .slice Ac nc cc, .int .i64 f, .int .i64 h, .int .i64 t]] w (Ret w (.bool (okG ⟨b, n, o, T, C, f, h, t⟩))) := by
  obtain ⟨wq, hwq⟩ : ∃ y, y = w.alloc (.cells #[.int .i64 b, .int .i64 n, .int .i64 o, .slice At nt ct, .slice Ac nc cc, .int .i64 f, .int .i64 h, .int .i64 t] 28) := ⟨_, rfl⟩
  have hq : Below w.heap.size w wq := by subst hwq; exact (Below.refl _ _).alloc (Nat.le_refl _) _
  have hzq : w.heap.size < wq.heap.size := by subst hwq; simp
  have bg : BlAt wq w.heap.size #[.int .i64 b, .int .i64 n, .int .i64 o, .slice At nt ct, .slice Ac nc cc, .int .i64 f, .int .i64 h, .int .i64 t] := by subst hwq; exact BlAt.new _ _ _
  have BG := Lib.hid (fun W (h : Below wq.heap.size wq W) => bg.below h hzq)
  have ST := Lib.hid (fun W (h : Below wq.heap.size wq W) => hT.below (hq.trans (h.mono hq.size)))
  have SC := Lib.hid (fun W (h : Below wq.heap.size wq W) => hC.below (hq.trans (h.mono hq.size)))
  have WQ := Lib.hid hwq
  have hk0 : Below wq.heap.size wq wq := Below.refl _ _
  clear hwq hT hC bg
  obtain ⟨r0, hr0⟩ : ∃ r, okN b n = r := ⟨_, rfl⟩
  have R0 := Lib.hid hr0
  obtain ⟨r1, hr1⟩ : ∃ r, isW o = r := ⟨_, rfl⟩
  have R1 := Lib.hid hr1
  obtain ⟨r2, hr2⟩ : ∃ r, hasN b n o = r := ⟨_, rfl⟩
  have R2 := Lib.hid hr2
  obtain ⟨r3, hr3⟩ : ∃ r, tim T t h = r := ⟨_, rfl⟩
  have R3 := Lib.hid hr3
  obtain ⟨r4, hr4⟩ : ∃ r, vC C = r := ⟨_, rfl⟩
  have R4 := Lib.hid hr4
  obtain ⟨r5, hr5⟩ : ∃ r, inR f 0 2 = r := ⟨_, rfl⟩
  have R5 := Lib.hid hr5
  have hv : okG ⟨b, n, o, T, C, f, h, t⟩ = ((r0 && (r1 && (!r2 && (r3 && (r4 && r5))))) && (T.all (okMg b n t h) && C.all (okCg T))) := by
    unfold okG
    rw [head_impl]
    show ((okN b n && (isW o && (!hasN b n o && (tim T t h && (vC C && inR f 0 2))))) && _) = _
    rw [hr0, hr1, hr2, hr3, hr4, hr5]
  rw [hv]
  have HNT := Lib.hid hnt
  have HNC := Lib.hid hnc
  clear hv hr0 hr1 hr2 hr3 hr4 hr5 hnt hnc
  obtain ⟨x0, x1, x2, x3, x4, x5, x6, x7⟩ := gcells (BG.out wq hk0)
  go_enter Try.func14, Try.ntmps14
  go_wp2_with fail
  rw [← WQ.out]
  clear x0 x1 x2 x3 x4 x5 x6 x7
  refine (impl_ValidNet b n _).mono ?_
  rintro e w1 ⟨rfl, hk1⟩
  rw [R0.out]
  cases r0
  · go_wp2
    go_ret
    exact ⟨rfl, hq.trans (hk1.mono hq.size)⟩
  obtain ⟨x0, x1, x2, x3, x4, x5, x6, x7⟩ := gcells (BG.out w1 hk1)
  go_wp2_with fail
  refine (impl_isWord o _).mono ?_
  rintro e w' ⟨rfl, rfl⟩
  rw [R1.out]
  cases r1
  · go_wp2
    go_ret
    exact ⟨rfl, hq.trans (hk1.mono hq.size)⟩
  obtain ⟨h0, h1⟩ := okN_bits R0.out
  have hbw := okN_base R0.out
  obtain ⟨b0, b1⟩ := hbw
  go_wp2_with fail
  refine (impl_has b n o _ h0 h1 b0 b1).mono ?_
  rintro e w2 ⟨rfl, hb2⟩
  rw [R2.out]
  have hk2 := bstep hk1 hb2 hk1.size
  clear x0 x1 x2 x3 x4 x5 x6 x7
  cases r2
  rotate_left
  · go_wp2
    go_ret
    exact ⟨rfl, hq.trans (hk2.mono hq.size)⟩
  obtain ⟨x0, x1, x2, x3, x4, x5, x6, x7⟩ := gcells (BG.out w2 hk2)
  go_wp2_with fail
  refine (impl_timed _ _ _ T t h _ HNT.out hlT (ST.out _ hk2)).mono ?_
  rintro e w3 ⟨rfl, hb3⟩
  rw [R3.out]
  have hk3 := bstep hk2 hb3 hk2.size
  clear x0 x1 x2 x3 x4 x5 x6 x7
  cases r3
  · go_wp2
    go_ret
    exact ⟨rfl, hq.trans (hk3.mono hq.size)⟩
  obtain ⟨x0, x1, x2, x3, x4, x5, x6, x7⟩ := gcells (BG.out w3 hk3)
  go_wp2_with fail
  refine (impl_VC R4.out HNC.out hlC (SC.out _ hk3)).mono ?_
  rintro e w4 ⟨rfl, hb4⟩
  have hk4 := bstep hk3 hb4 hk3.size
  clear x0 x1 x2 x3 x4 x5 x6 x7
  cases r4
  · go_wp2
    go_ret
    exact ⟨rfl, hq.trans (hk4.mono hq.size)⟩
  obtain ⟨x0, x1, x2, x3, x4, x5, x6, x7⟩ := gcells (BG.out w4 hk4)
  go_wp2_with fail
  refine (impl_in f 0 2 _).mono ?_
  rintro e w' ⟨rfl, rfl⟩
  rw [R5.out]
  cases r5
  · go_wp2
    go_ret
    exact ⟨rfl, hq.trans (hk4.mono hq.size)⟩
  have hmf : ∀ (fn : Fn) (first cap : Array Value) (w : World), (Instr.makeFunc fn first cap).run Try.prog w = .ok (.func fn first cap) w := fun _ _ _ _ => rfl
  have HA := Lib.hid (badM_any (b := b) (n := n) R3.out)
  go_wp2_with fail
  rw [HNT.out]
  refine (ContainsFunc_mt At ct T 44 #[.pointer (some ⟨w.heap.size, 0, none⟩)] (badM b n t h) _ hlT (ST.out _ hk4) (fun _ _ => by kernel_rfl) (fun a q p l W hW => ValidGate_1 a q p l w.heap.size b n o f h t _ _ W (BG.out W (bstep hk4 hW hk4.size)) h0 h1 b0 b1)).mono ?_
  rintro e w5 ⟨rfl, hb5⟩
  have hk5 := bstep hk4 hb5 hk4.size
  clear x0 x1 x2 x3 x4 x5 x6 x7
  rw [HA.out]
  obtain ⟨s, hs⟩ : ∃ s, T.all (okMg b n t h) = s := ⟨_, rfl⟩
  rw [hs]
  have HS := Lib.hid hs
  clear hs
  cases s
  · go_wp2
    go_ret
    exact ⟨by rw [HS.out]; rfl, hq.trans (hk5.mono hq.size)⟩
  obtain ⟨x0, x1, x2, x3, x4, x5, x6, x7⟩ := gcells (BG.out w5 hk5)
  go_wp2_with fail
  rw [HNC.out]
  refine (ContainsFunc_ct Ac cc C 46 #[.pointer (some ⟨w.heap.size, 0, none⟩)] (fun x => !okCg T x) _ hlC (SC.out _ hk5) (fun _ _ => by kernel_rfl) (fun p a q W hW => ValidGate_2 p a q w.heap.size _ _ _ _ _ _ _ At ct nt T W (BG.out W (bstep hk5 hW hk5.size)) HNT.out hlT (ST.out W (bstep hk5 hW hk5.size)))).mono ?_
  rintro e w6 ⟨rfl, hb6⟩
  have hk6 := bstep hk5 hb6 hk5.size
  go_wp2
  go_ret
  exact ⟨by rw [HS.out, List.all_eq_not_any_not]; rfl, hq.trans (hk6.mono hq.size)⟩
end Go.Proofs.Ytlgfmnognhojnaa
