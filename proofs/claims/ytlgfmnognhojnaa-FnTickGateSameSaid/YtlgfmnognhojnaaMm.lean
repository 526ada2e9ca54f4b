/- MapEnd: the reference's, walked. -/
import Derived.Test.YtlgfmnognhojnaaMa
namespace Go.Proofs.Ytlgfmnognhojnaa
open Go.RowKit
def mapR (l : List Mp) (a q now : Int) : List Mp × Int × Bool :=
  match l.findIdx? (sameE a q) with
  | some k => (l.set k ⟨((l[k]?).getD zeroMp).a, ((l[k]?).getD zeroMp).q, ((l[k]?).getD zeroMp).p, max ((l[k]?).getD zeroMp).l now⟩, ((l[k]?).getD zeroMp).p, true)
  | none => if freeP l q < 0 then ([], -1, false) else (l ++ [⟨a, q, freeP l q, now⟩], freeP l q, true)
def mapV (l : List Mp) (a q now : Int) : List Mp × Int × Bool := if vM l && ((isW a && isW q) && inR now 0 10000) then mapR l a q now else ([], -1, false)
theorem findIdx_at {α : Type} {p : α → Bool} {l : List α} {k : Nat} {x : α} (h : l[k]? = some x) (hp : p x = true) (hn : ∀ y ∈ l.take k, p y = false) : l.findIdx? p = some k := by
  have := idx_at h hp hn
  unfold idx at this
  cases hf : l.findIdx? p with
  | none => rw [hf] at this; simp at this
  | some i => rw [hf] at this; simp at this; rw [Int.ofNat_inj.1 this]
theorem map_found {l : List Mp} {a q now : Int} {k : Nat} {x : Mp} (h : l[k]? = some x) (hp : sameE a q x = true) (hn : ∀ y ∈ l.take k, sameE a q y = false) : mapR l a q now = (l.set k ⟨x.a, x.q, x.p, max x.l now⟩, x.p, true) := by
  unfold mapR
  rw [findIdx_at h hp hn]
  simp only [h, Option.getD_some]
theorem findIdx_no {α : Type} {p : α → Bool} {l : List α} (h : ∀ y ∈ l, p y = false) : l.findIdx? p = none := by
  rw [List.findIdx?_eq_none_iff]; exact h
theorem map_none {l : List Mp} {a q now : Int} (h : byE l a q < 0) (hf : freeP l q < 0) : mapR l a q now = ([], -1, false) := by
  unfold mapR
  rw [findIdx_no (idx_neg h).2]
  exact if_pos hf
theorem map_new {l : List Mp} {a q now : Int} (h : byE l a q < 0) (hf : 0 ≤ freeP l q) : mapR l a q now = (l ++ [⟨a, q, freeP l q, now⟩], freeP l q, true) := by
  unfold mapR
  rw [findIdx_no (idx_neg h).2]
  exact if_neg (by omega)
theorem freeP_hi (l : List Mp) (want : Int) : -1 ≤ freeP l want ∧ freeP l want ≤ 1007 := by
  unfold freeP
  split
  · next h =>
    simp only [Bool.and_eq_true] at h
    have := of_decide_eq_true h.1
    omega
  · cases h : ports.find? (fun n => par want n && !used l n) with
    | some n => have := mem_ports.1 (List.mem_of_find?_eq_some h); simp only []; omega
    | none =>
      simp only []
      cases h2 : ports.find? (fun n => !used l n) with
      | some n => have := mem_ports.1 (List.mem_of_find?_eq_some h2); simp only [first, Option.getD_some]; omega
      | none => simp [first]
/-- The three parts of a result of MapEnd. -/
def mapRes (A : Option Addr) (c : Nat) (R : List Mp × Int × Bool) : Value := .tuple #[.slice A R.1.length c, .int .i64 R.2.1, .bool R.2.2]
theorem empty_two {α : Type} {enc : α → List Value} {k B : Nat} {e : TypeId} {w : World} {o : Obj} (hB : B ≤ w.heap.size + 1) : Ow enc k e B ((w.alloc o).alloc (.cells #[] e)) (some ⟨w.heap.size + 1, 0, none⟩) 0 ([] : List α) := by
  have := Ow.empty (enc := enc) (k := k) (e := e) (B := B) (w.alloc o) (by rw [alloc_size]; exact hB)
  rw [alloc_size] at this
  exact this
set_option maxHeartbeats 4000000 in
theorem spec_mapEnd (A : Option Addr) (c n : Nat) (l : List Mp) (fa fq now : Int) (w : World) (hw0 : 0 ≤ fq) (hw1 : fq ≤ 65535) (hn : n = l.length) (hl : l.length ≤ 1000) (hs : Sl encM 4 w A c l) :
    Calls Try.prog 104 #[.slice A n c, .agg #[.int .i64 fa, .int .i64 fq], .int .i64 now] w (fun e w' => ∃ A' c', e = .returned (mapRes A' c' (mapR l fa fq now)) ∧ Ow encM 4 64 w.heap.size w' A' c' (mapR l fa fq now).1 ∧ Below w.heap.size w w') := by
  subst hn
  have SL := Lib.hid (fun W (h : Below w.heap.size w W) => hs.below h)
  have hl2 : l.length ≤ 2000000 := by omega
  have HB1 := Lib.hid (show Below w.heap.size w ((w.alloc (.cells #[.int .i64 fa, .int .i64 fq] 62)).alloc (.cells #[] 64)) from ((Below.refl _ _).alloc (Nat.le_refl _) _).alloc (by simp) _)
  have SL1 := Lib.hid (SL.out _ HB1.out)
  have EM := Lib.hid (empty_two (enc := encM) (k := 4) (e := 64) (B := w.heap.size + 1) (w := w) (o := .cells #[.int .i64 fa, .int .i64 fq] 62) (Nat.le_refl _))
  have E1 := Lib.hid ((Bl.lit2 w fa fq 62).alloc (.cells #[] 64))
  obtain ⟨e, he⟩ : ∃ e, byE l fa fq = e := ⟨_, rfl⟩
  have HE := Lib.hid he
  by_cases h0 : 0 ≤ e
  · obtain ⟨k, x, hkx, hx, hp, hnn⟩ := idx_pos (p := sameE fa fq) (l := l) (by unfold byE at he; omega)
    rw [map_found hx hp hnn]
    have hek : e = (k : Int) := by unfold byE at he; omega
    subst hek
    obtain ⟨a, q, p, t⟩ := x
    have hkl := lt_of_get hx
    have X := Lib.hid hx
    have hl1 : l ≠ [] := by rintro rfl; simp at hx
    clear hs he hkx hx hp hnn
    rcases Int.lt_trichotomy t now with hmx | hmx | hmx
    · have MX := Lib.hid (show max t now = now from by omega)
      go_enter Try.func104, Try.ntmps104
      go_wp2_with (with_reducible refine wpList_app elM rfl (.tmp 12) (.tmp 13) rfl (w.heap.size + 1) _ _ _ [] rfl ?a0 EM.out _ _ _ l rfl ?a1 SL1.out ?a2 (by decide) (by simp) ?_)
      (try case a0 => rfl)
      case a1 => rfl
      case a2 => first | omega | (simp; omega)
      intro A2 c2 w2 how2 hg2 _
      have hb2 : Below w.heap.size w w2 := below_app HB1.out hg2 HB1.out.size (fun g hg => by simp [blk] at hg; omega)
      obtain ⟨⟨x0, x1⟩, _⟩ := (E1.out.grown hg2 (by simp [blk])).two
      have EB2 := Lib.hid (E1.out.grown hg2 (by simp [blk]))
      have H2 := Lib.hid how2
      have HB2 := Lib.hid hb2
      have hz2 : w.heap.size < w2.heap.size := by have := hg2.size; simp at this; omega
      clear how2 hg2 hb2
      go_wp2_with fail
      refine (spec_byInside _ _ _ _ _ _ _ rfl hl2 (SL.out _ HB2.out)).mono ?_
      rintro e w3 ⟨rfl, hb3⟩
      rw [HE.out]
      have H3 := Lib.hid (H2.out.below hb3)
      have HB3 := Lib.hid (bstep HB2.out hb3 HB2.out.size)
      have EB3 := Lib.hid (EB2.out.below hb3 hz2)
      have hz3 : w.heap.size < w3.heap.size := Nat.lt_of_lt_of_le hz2 hb3.size
      clear x0 x1 hb3
      obtain ⟨⟨x0, x1⟩, _⟩ := EB3.out.two
      obtain ⟨g3, rfl, hgB, hlc3, hcm3, hbl3⟩ := H3.out.resolve_left (by rintro ⟨_, _, h⟩; exact hl1 h)
      have hm3 : c2 ≤ 9223372036854775807 := by unfold maxLen at hcm3; omega
      have hlc3 : l.length ≤ c2 := hlc3
      obtain ⟨⟨d0, d1, d2, d3⟩, f0, f1, f2, f3⟩ := hbl3.mtAt X.out
      have BL3 := Lib.hid hbl3
      clear hbl3 hcm3
      go_wp2
      go_quiet (fail)
      go_wp2
      go_ret3
      have hst := BL3.out.store (x := ⟨a, q, p, t⟩) (x' := ⟨a, q, p, max t now⟩) (u := .int .i64 (max t now)) (i := k) (j := 3) (fun _ => rfl) X.out (by decide) rfl
      rw [MX.out] at hst ⊢
      refine ⟨some ⟨g3, 0, none⟩, c2, by unfold mapRes; rw [List.length_set]; rfl, .inr ⟨g3, rfl, by omega, by rw [List.length_set]; exact hlc3, H3.out.capm, hst⟩, ?_⟩
      exact bdrewN (HB3.out.setCell (show w.heap.size ≤ g3 by omega) _) _
    · obtain rfl : now = t := hmx.symm
      have MX := Lib.hid (show max now now = now from by omega)
      go_enter Try.func104, Try.ntmps104
      go_wp2_with (with_reducible refine wpList_app elM rfl (.tmp 12) (.tmp 13) rfl (w.heap.size + 1) _ _ _ [] rfl ?a0 EM.out _ _ _ l rfl ?a1 SL1.out ?a2 (by decide) (by simp) ?_)
      (try case a0 => rfl)
      case a1 => rfl
      case a2 => first | omega | (simp; omega)
      intro A2 c2 w2 how2 hg2 _
      have hb2 : Below w.heap.size w w2 := below_app HB1.out hg2 HB1.out.size (fun g hg => by simp [blk] at hg; omega)
      obtain ⟨⟨x0, x1⟩, _⟩ := (E1.out.grown hg2 (by simp [blk])).two
      have EB2 := Lib.hid (E1.out.grown hg2 (by simp [blk]))
      have H2 := Lib.hid how2
      have HB2 := Lib.hid hb2
      have hz2 : w.heap.size < w2.heap.size := by have := hg2.size; simp at this; omega
      clear how2 hg2 hb2
      go_wp2_with fail
      refine (spec_byInside _ _ _ _ _ _ _ rfl hl2 (SL.out _ HB2.out)).mono ?_
      rintro e w3 ⟨rfl, hb3⟩
      rw [HE.out]
      have H3 := Lib.hid (H2.out.below hb3)
      have HB3 := Lib.hid (bstep HB2.out hb3 HB2.out.size)
      have EB3 := Lib.hid (EB2.out.below hb3 hz2)
      have hz3 : w.heap.size < w3.heap.size := Nat.lt_of_lt_of_le hz2 hb3.size
      clear x0 x1 hb3
      obtain ⟨⟨x0, x1⟩, _⟩ := EB3.out.two
      obtain ⟨g3, rfl, hgB, hlc3, hcm3, hbl3⟩ := H3.out.resolve_left (by rintro ⟨_, _, h⟩; exact hl1 h)
      have hm3 : c2 ≤ 9223372036854775807 := by unfold maxLen at hcm3; omega
      have hlc3 : l.length ≤ c2 := hlc3
      obtain ⟨⟨d0, d1, d2, d3⟩, f0, f1, f2, f3⟩ := hbl3.mtAt X.out
      have BL3 := Lib.hid hbl3
      clear hbl3 hcm3
      go_wp2
      go_quiet (fail)
      go_wp2
      go_ret3
      have hst := BL3.out.store (x := ⟨a, q, p, now⟩) (x' := ⟨a, q, p, max now now⟩) (u := .int .i64 (max now now)) (i := k) (j := 3) (fun _ => rfl) X.out (by decide) rfl
      rw [MX.out] at hst ⊢
      refine ⟨some ⟨g3, 0, none⟩, c2, by unfold mapRes; rw [List.length_set]; rfl, .inr ⟨g3, rfl, by omega, by rw [List.length_set]; exact hlc3, H3.out.capm, hst⟩, ?_⟩
      exact bdrewN (HB3.out.setCell (show w.heap.size ≤ g3 by omega) _) _
    · have MX := Lib.hid (show max t now = t from by omega)
      go_enter Try.func104, Try.ntmps104
      go_wp2_with (with_reducible refine wpList_app elM rfl (.tmp 12) (.tmp 13) rfl (w.heap.size + 1) _ _ _ [] rfl ?a0 EM.out _ _ _ l rfl ?a1 SL1.out ?a2 (by decide) (by simp) ?_)
      (try case a0 => rfl)
      case a1 => rfl
      case a2 => first | omega | (simp; omega)
      intro A2 c2 w2 how2 hg2 _
      have hb2 : Below w.heap.size w w2 := below_app HB1.out hg2 HB1.out.size (fun g hg => by simp [blk] at hg; omega)
      obtain ⟨⟨x0, x1⟩, _⟩ := (E1.out.grown hg2 (by simp [blk])).two
      have EB2 := Lib.hid (E1.out.grown hg2 (by simp [blk]))
      have H2 := Lib.hid how2
      have HB2 := Lib.hid hb2
      have hz2 : w.heap.size < w2.heap.size := by have := hg2.size; simp at this; omega
      clear how2 hg2 hb2
      go_wp2_with fail
      refine (spec_byInside _ _ _ _ _ _ _ rfl hl2 (SL.out _ HB2.out)).mono ?_
      rintro e w3 ⟨rfl, hb3⟩
      rw [HE.out]
      have H3 := Lib.hid (H2.out.below hb3)
      have HB3 := Lib.hid (bstep HB2.out hb3 HB2.out.size)
      have EB3 := Lib.hid (EB2.out.below hb3 hz2)
      have hz3 : w.heap.size < w3.heap.size := Nat.lt_of_lt_of_le hz2 hb3.size
      clear x0 x1 hb3
      obtain ⟨⟨x0, x1⟩, _⟩ := EB3.out.two
      obtain ⟨g3, rfl, hgB, hlc3, hcm3, hbl3⟩ := H3.out.resolve_left (by rintro ⟨_, _, h⟩; exact hl1 h)
      have hm3 : c2 ≤ 9223372036854775807 := by unfold maxLen at hcm3; omega
      have hlc3 : l.length ≤ c2 := hlc3
      obtain ⟨⟨d0, d1, d2, d3⟩, f0, f1, f2, f3⟩ := hbl3.mtAt X.out
      have BL3 := Lib.hid hbl3
      clear hbl3 hcm3
      go_wp2
      go_quiet (fail)
      go_wp2
      go_ret3
      have hst := BL3.out.store (x := ⟨a, q, p, t⟩) (x' := ⟨a, q, p, max t now⟩) (u := .int .i64 (max t now)) (i := k) (j := 3) (fun _ => rfl) X.out (by decide) rfl
      rw [MX.out] at hst ⊢
      refine ⟨some ⟨g3, 0, none⟩, c2, by unfold mapRes; rw [List.length_set]; rfl, .inr ⟨g3, rfl, by omega, by rw [List.length_set]; exact hlc3, H3.out.capm, hst⟩, ?_⟩
      exact bdrewN (HB3.out.setCell (show w.heap.size ≤ g3 by omega) _) _
  · have hlt : byE l fa fq < 0 := by omega
    have hfr := freeP_hi l fq
    obtain ⟨f, hf⟩ : ∃ f, freeP l fq = f := ⟨_, rfl⟩
    rw [hf] at hfr
    have HF := Lib.hid hf
    by_cases hf0 : f < 0
    · rw [map_none hlt (by rw [hf]; exact hf0)]
      clear hs he hlt hf
      go_enter Try.func104, Try.ntmps104
      go_wp2_with (with_reducible refine wpList_app elM rfl (.tmp 12) (.tmp 13) rfl (w.heap.size + 1) _ _ _ [] rfl ?a0 EM.out _ _ _ l rfl ?a1 SL1.out ?a2 (by decide) (by simp) ?_)
      (try case a0 => rfl)
      case a1 => rfl
      case a2 => first | omega | (simp; omega)
      intro A2 c2 w2 how2 hg2 _
      have hb2 : Below w.heap.size w w2 := below_app HB1.out hg2 HB1.out.size (fun g hg => by simp [blk] at hg; omega)
      obtain ⟨⟨x0, x1⟩, _⟩ := (E1.out.grown hg2 (by simp [blk])).two
      have EB2 := Lib.hid (E1.out.grown hg2 (by simp [blk]))
      have H2 := Lib.hid how2
      have HB2 := Lib.hid hb2
      have hz2 : w.heap.size < w2.heap.size := by have := hg2.size; simp at this; omega
      clear how2 hg2 hb2
      go_wp2_with fail
      refine (spec_byInside _ _ _ _ _ _ _ rfl hl2 (SL.out _ HB2.out)).mono ?_
      rintro e w3 ⟨rfl, hb3⟩
      rw [HE.out]
      have H3 := Lib.hid (H2.out.below hb3)
      have HB3 := Lib.hid (bstep HB2.out hb3 HB2.out.size)
      have EB3 := Lib.hid (EB2.out.below hb3 hz2)
      have hz3 : w.heap.size < w3.heap.size := Nat.lt_of_lt_of_le hz2 hb3.size
      clear x0 x1 hb3
      obtain ⟨⟨x0, x1⟩, _⟩ := EB3.out.two
      go_wp2_with (first | (go_at_call 109; refine (spec_freePort _ _ _ _ _ _ hw0 hw1 rfl hl2 (SL.out _ HB3.out)).mono ?_; rintro e w' ⟨rfl, rfl⟩; rw [HF.out]))
      go_ret3
      exact ⟨none, 0, rfl, Ow.nil, HB3.out⟩
    · rw [map_new hlt (by rw [hf]; omega), hf]
      clear hs he hlt hf
      go_enter Try.func104, Try.ntmps104
      go_wp2_with (with_reducible refine wpList_app elM rfl (.tmp 12) (.tmp 13) rfl (w.heap.size + 1) _ _ _ [] rfl ?a0 EM.out _ _ _ l rfl ?a1 SL1.out ?a2 (by decide) (by simp) ?_)
      (try case a0 => rfl)
      case a1 => rfl
      case a2 => first | omega | (simp; omega)
      intro A2 c2 w2 how2 hg2 _
      have hb2 : Below w.heap.size w w2 := below_app HB1.out hg2 HB1.out.size (fun g hg => by simp [blk] at hg; omega)
      obtain ⟨⟨x0, x1⟩, _⟩ := (E1.out.grown hg2 (by simp [blk])).two
      have EB2 := Lib.hid (E1.out.grown hg2 (by simp [blk]))
      have H2 := Lib.hid how2
      have HB2 := Lib.hid hb2
      have hz2 : w.heap.size < w2.heap.size := by have := hg2.size; simp at this; omega
      clear how2 hg2 hb2
      go_wp2_with fail
      refine (spec_byInside _ _ _ _ _ _ _ rfl hl2 (SL.out _ HB2.out)).mono ?_
      rintro e w3 ⟨rfl, hb3⟩
      rw [HE.out]
      have H3 := Lib.hid (H2.out.below hb3)
      have HB3 := Lib.hid (bstep HB2.out hb3 HB2.out.size)
      have EB3 := Lib.hid (EB2.out.below hb3 hz2)
      have hz3 : w.heap.size < w3.heap.size := Nat.lt_of_lt_of_le hz2 hb3.size
      clear x0 x1 hb3
      obtain ⟨⟨x0, x1⟩, _⟩ := EB3.out.two
      have B1 := Lib.hid (blM w3 fa fq f now)
      go_wp2_with fail
      refine (spec_freePort _ _ _ _ _ _ hw0 hw1 rfl hl2 (SL.out _ HB3.out)).mono ?_
      rintro e w' ⟨rfl, rfl⟩
      rw [HF.out]
      go_wp2_with (at_builtin; (refine wpList_app elM rfl (.tmp 43) (.tmp 48) rfl w.heap.size _ _ _ ([] ++ l) rfl ?c5 ((H3.out.base (Nat.le_succ _)).alloc _) _ _ _ [⟨fa, fq, f, now⟩] rfl ?c6 B1.out.sl ?c7 (by decide) ?c8 ?_))
      case c5 => rfl
      case c6 => rfl
      case c7 => first | omega | (simp; omega)
      case c8 => first | omega | (simp; omega)
      intro A4 c4 w4 how4 hg4 _
      have HB4 := Lib.hid (below_app (HB3.out.alloc HB3.out.size _) hg4 (by simp; omega) (fun g hg => ((H3.out.base (Nat.le_succ _)).blk g hg).1))
      have H4 := Lib.hid how4
      clear how4 hg4
      go_wp2
      go_ret3
      exact ⟨A4, c4, by unfold mapRes; rw [List.length_append]; rfl, H4.out, HB4.out⟩
end Go.Proofs.Ytlgfmnognhojnaa
