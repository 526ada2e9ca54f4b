/- The exact statements' helpers on numbers and packets: copies, sizes, comparisons, marks. -/
import Derived.Test.YtnkdhpbbiilekaaKr
namespace Go.Proofs.Ytnkdhpbbiilekaa
open Go.RowKit
set_option maxHeartbeats 2000000 in
theorem laws_toIntS (A : Option Addr) (c n : Nat) (l : List Int) (w : World) (hn : n = l.length) (hl : l.length ≤ 2000000) (hs : Sl encI 1 w A c l) :
    Calls Try.prog 39 #[.slice A n c] w (fun e w' => ∃ A' c', e = .returned (.slice A' n c') ∧ Ow encI 1 3 w.heap.size w' A' c' l ∧ Below w.heap.size w w') := by
  subst hn
  go_enter Try.func39, Try.ntmps39
  go_wp2_with (at_make; refine wpList_mk elI rfl _ _ rfl w.heap.size l.length rfl rfl (by omega) (by decide) (Nat.le_refl _) ?_; intro w1 hown hgrow)
  have hbl := hown.bl
  have hb1 : Below w.heap.size w w1 := below_of_grown hgrow (by intro g h; cases h)
  clear hown hgrow
  go_loopw [4] (fun i wr => ∃ k : Nat, k ≤ l.length ∧ i = .int .i64 k ∧ Below w.heap.size w wr ∧ Bl encI 1 3 wr w.heap.size (l.length * 1) (l.take k ++ List.replicate (l.length - k) (0 : Int))) (fun i _ => l.length - (intOf i).toNat)
  case atStart => exact ⟨0, Nat.zero_le _, rfl, hb1, by simpa using hbl⟩
  case round =>
    obtain ⟨k, hk, rfl, hb, hB⟩ := hrel
    clear hb1 hbl
    have HB := Lib.hid hB
    clear hB
    by_cases hlt : k < l.length
    · obtain ⟨b, o, rfl, hbs, hc⟩ := hs.base hlt
      obtain ⟨x, hx⟩ : ∃ x, l[k]? = some x := ⟨_, List.getElem?_eq_getElem hlt⟩
      have d0 := hc.inn hb hbs hx
      have X := Lib.hid hx
      have z : (l.take k ++ List.replicate (l.length - k) (0 : Int))[k]? = some 0 := by
        rw [List.getElem?_append_right (by simp; omega), List.length_take, Nat.min_eq_left hk, Nat.sub_self, List.getElem?_replicate, if_pos (by omega)]
      have Z := Lib.hid z
      have hl1 := HB.out.lt
      have e0 : wr.cell? ⟨w.heap.size, k, none⟩ = some (.int .i64 0) := by have := HB.out.row k 0 z 0 _ rfl; simpa using this
      have f0 := HB.out.frozen k
      clear hs hc hx z
      go_wp2
      go_roundw
      case rel =>
        refine ⟨k + 1, by omega, by go_num, hb.setCell (Nat.le_refl _) _, ?_⟩
        have := HB.out.store (x := 0) (x' := x) (u := .int .i64 x) (j := 0) (fun _ => rfl) Z.out (by decide) rfl
        rw [show (l.take k ++ List.replicate (l.length - k) (0 : Int)).set k x = l.take (k + 1) ++ List.replicate (l.length - (k + 1)) 0 from by
          rw [List.set_append_right k _ (by simp; omega), List.length_take, Nat.min_eq_left hk, Nat.sub_self, take_succ X.out, List.append_assoc, show l.length - k = (l.length - (k + 1)) + 1 from by omega, List.replicate_succ]
          rfl] at this
        simpa using this
      case measure => simp [intOf]; omega
    · go_wp2
      go_ret
      have hkl : k = l.length := by omega
      have hB := HB.out
      rw [hkl, List.take_length, Nat.sub_self, List.replicate_zero, List.append_nil] at hB
      exact ⟨_, _, rfl, .inr ⟨_, rfl, Nat.le_refl _, Nat.le_refl _, by unfold maxLen; omega, hB⟩, hb⟩
theorem eqEnd_same (a p : Int) (w : World) : Calls Try.prog 53 #[.agg #[.int .i64 a, .int .i64 p], .agg #[.int .i64 a, .int .i64 p]] w (Ret w (.bool true)) := by
  have := laws_eqEnd a p a p w
  simpa using this
set_option maxHeartbeats 1000000 in
theorem laws_szPacket (k fa fp ta tp : Int) (A : Option Addr) (c n : Nat) (left : Int) (w : World) (hn : n ≤ 9223372036854775807) (h0 : 0 ≤ left) (h1 : left ≤ 1048576) :
    Calls Try.prog 23 #[.agg #[.int .i64 k, .int .i64 fa, .int .i64 fp, .int .i64 ta, .int .i64 tp, .slice A n c], .int .i64 left] w (Ret w (.int .i64 (if left - n < 0 then -1 else left - n))) := by
  by_cases h : left - (n : Int) < 0
  all_goals
    go_enter Try.func23, Try.ntmps23
    go_wp2
    go_ret
    exact ⟨rfl, (Below.refl _ _).alloc (Nat.le_refl _) _⟩
set_option maxHeartbeats 1000000 in
theorem laws_heldPacket (k fa fp ta tp : Int) (A : Option Addr) (c n : Nat) (q : Int) (w : World) (hn : n ≤ 4000000) (hk0 : 0 ≤ q) (hk1 : q ≤ 100000000) (hs : Sl encI 1 w A c (markI q n)) :
    Calls Try.prog 27 #[.agg #[.int .i64 k, .int .i64 fa, .int .i64 fp, .int .i64 ta, .int .i64 tp, .slice A n c], .int .i64 q] w (Ret w (.int .i64 (q + n))) := by
  have HS := Lib.hid (hs.below ((Below.refl _ _).alloc (Nat.le_refl _) (.cells #[.int .i64 k, .int .i64 fa, .int .i64 fp, .int .i64 ta, .int .i64 tp, .slice A n c] 27)))
  have hnn : ¬ (q + (n : Int) < 0) := by omega
  clear hs
  go_enter Try.func27, Try.ntmps27
  go_wp2_with (first | (go_at_call 34; refine (laws_heldIntS A c n q _ hn hk0 hk1 HS.out).mono ?_; rintro e w' ⟨rfl, rfl⟩))
  go_ret
  exact ⟨rfl, (Below.refl _ _).alloc (Nat.le_refl _) _⟩
set_option maxHeartbeats 1000000 in
theorem laws_markPacket (k fa fp ta tp : Int) (A : Option Addr) (c n B : Nat) (d : List Int) (q : Int) (w : World) (hn : n = d.length) (hl : d.length ≤ 4000000) (hk0 : 0 ≤ q) (hk1 : q ≤ 100000000) (hs : Sl encI 1 w A c d) (hf : Fr B w A d.length) :
    Calls Try.prog 26 #[.agg #[.int .i64 k, .int .i64 fa, .int .i64 fp, .int .i64 ta, .int .i64 tp, .slice A n c], .int .i64 q] w (fun e w' => e = .returned (.int .i64 (q + n)) ∧ Sl encI 1 w' A c (markI q n) ∧ ∃ row, w.grownBy w' row ∧ ∀ g, row = some g → B ≤ g ∧ blk A = some g) := by
  subst hn
  have hb0 := (Below.refl w.heap.size w).alloc (Nat.le_refl _) (.cells #[.int .i64 k, .int .i64 fa, .int .i64 fp, .int .i64 ta, .int .i64 tp, .slice A d.length c] 27)
  have HS := Lib.hid (hs.below hb0)
  have HF := Lib.hid (hf.below hb0)
  clear hs hf hb0
  go_enter Try.func26, Try.ntmps26
  go_wp2_with (first | (go_at_call 33; refine (markIn rfl hl hk0 hk1 HS.out HF.out).mono ?_; rintro e w' ⟨rfl, h1, row, hg, hr⟩))
  go_ret
  exact ⟨rfl, h1, row, grown_trans (grown_alloc (World.grownBy.refl _ _) _) hg (.inl rfl), hr⟩
set_option maxHeartbeats 2000000 in
theorem same_eqPacket {k fa fp ta tp : Int} {d : List Int} {A A' : Option Addr} {c c' n n' : Nat} {w : World} (hn : n = d.length) (hn' : n' = d.length) (hl : d.length ≤ 2000000) (hs : Sl encI 1 w A c d) (hs' : Sl encI 1 w A' c' d) :
    Calls Try.prog 25 #[.agg #[.int .i64 k, .int .i64 fa, .int .i64 fp, .int .i64 ta, .int .i64 tp, .slice A n c], .agg #[.int .i64 k, .int .i64 fa, .int .i64 fp, .int .i64 ta, .int .i64 tp, .slice A' n' c']] w (Ret w (.bool true)) := by
  obtain ⟨wq, hwq⟩ : ∃ y, y = (w.alloc (.cells #[.int .i64 k, .int .i64 fa, .int .i64 fp, .int .i64 ta, .int .i64 tp, .slice A n c] 27)).alloc (.cells #[.int .i64 k, .int .i64 fa, .int .i64 fp, .int .i64 ta, .int .i64 tp, .slice A' n' c'] 27) := ⟨_, rfl⟩
  have hq : Below w.heap.size w wq := by subst hwq; exact ((Below.refl _ _).alloc (Nat.le_refl _) _).alloc (by simp) _
  have hzq : wq.heap.size = w.heap.size + 1 + 1 := by subst hwq; simp
  have bx : PkAt wq w.heap.size k fa fp ta tp (.slice A n c) := by subst hwq; exact (PkAt.new _ _ _ _ _ _ _ _).alloc _
  have bz : PkAt wq (w.heap.size + 1) k fa fp ta tp (.slice A' n' c') := by
    subst hwq
    have := PkAt.new (w.alloc (.cells #[.int .i64 k, .int .i64 fa, .int .i64 fp, .int .i64 ta, .int .i64 tp, .slice A n c] 27)) 27 k fa fp ta tp (.slice A' n' c')
    rw [alloc_size] at this
    exact this
  have BX := Lib.hid (fun W (h : Below wq.heap.size wq W) => bx.below h (by omega))
  have BZ := Lib.hid (fun W (h : Below wq.heap.size wq W) => bz.below h (by omega))
  have S1 := Lib.hid (fun W (h : Below wq.heap.size wq W) => hs.below (hq.trans (h.mono hq.size)))
  have S2 := Lib.hid (fun W (h : Below wq.heap.size wq W) => hs'.below (hq.trans (h.mono hq.size)))
  have WQ := Lib.hid hwq
  have HN := Lib.hid hn
  have HN' := Lib.hid hn'
  clear hwq hs hs' hn hn' bx bz hzq
  go_enter Try.func25, Try.ntmps25
  go_wp2_with fail
  rw [← WQ.out]
  refine (eqEnd_same fa fp _).mono ?_
  rintro e w2 ⟨rfl, hb2⟩
  obtain ⟨x0, x1, x2, x3, x4, x5⟩ := (BX.out _ hb2).cells
  obtain ⟨z0, z1, z2, z3, z4, z5⟩ := (BZ.out _ hb2).cells
  go_wp2_with fail
  refine (eqEnd_same ta tp _).mono ?_
  rintro e w3 ⟨rfl, hb3⟩
  have hk3 := bstep hb2 hb3 hb2.size
  clear x0 x1 x2 x3 x4 x5 z0 z1 z2 z3 z4 z5
  obtain ⟨x0, x1, x2, x3, x4, x5⟩ := (BX.out _ hk3).cells
  obtain ⟨z0, z1, z2, z3, z4, z5⟩ := (BZ.out _ hk3).cells
  go_wp2_with fail
  refine (eqIs (l := d) (l' := d) (decide_eq_true rfl) HN.out HN'.out hl hl (S1.out _ hk3) (S2.out _ hk3)).mono ?_
  rintro e w4 ⟨rfl, hb4⟩
  have hk4 := bstep hk3 hb4 hk3.size
  go_wp2
  go_ret
  exact ⟨rfl, hq.trans (hk4.mono hq.size)⟩
set_option maxHeartbeats 4000000 in
theorem laws_toPacket (k fa fp ta tp : Int) (d : List Int) (A : Option Addr) (c n : Nat) (w : World) (hn : n = d.length) (hl : d.length ≤ 2000000) (hs : Sl encI 1 w A c d) :
    Calls Try.prog 24 #[.agg #[.int .i64 k, .int .i64 fa, .int .i64 fp, .int .i64 ta, .int .i64 tp, .slice A n c]] w (fun e w' => ∃ A' c', e = .returned (.agg #[.int .i64 k, .int .i64 fa, .int .i64 fp, .int .i64 ta, .int .i64 tp, .slice A' n c']) ∧ Ow encI 1 3 w.heap.size w' A' c' d ∧ Below w.heap.size w w') := by
  subst hn
  obtain ⟨wq, hwq⟩ : ∃ y, y = ((w.alloc (.cells #[.int .i64 k, .int .i64 fa, .int .i64 fp, .int .i64 ta, .int .i64 tp, .slice A d.length c] 37)).alloc (.cells #[.int .i64 0, .int .i64 0, .int .i64 0, .int .i64 0, .int .i64 0, .slice none 0 0] 27)).alloc (.cells #[.int .i64 k, .int .i64 0, .int .i64 0, .int .i64 0, .int .i64 0, .slice none 0 0] 27) := ⟨_, rfl⟩
  have hq : Below w.heap.size w wq := by subst hwq; exact (((Below.refl _ _).alloc (Nat.le_refl _) _).alloc (by simp) _).alloc (by simp; omega) _
  have hzq : wq.heap.size = w.heap.size + 1 + 1 + 1 := by subst hwq; simp
  have bx : PkAt wq w.heap.size k fa fp ta tp (.slice A d.length c) := by subst hwq; exact ((PkAt.new _ _ _ _ _ _ _ _).alloc _).alloc _
  have bz : PkAt wq (w.heap.size + 1) 0 0 0 0 0 (.slice none 0 0) := by
    subst hwq
    have := (PkAt.new (w.alloc (.cells #[.int .i64 k, .int .i64 fa, .int .i64 fp, .int .i64 ta, .int .i64 tp, .slice A d.length c] 37)) 27 0 0 0 0 0 (.slice none 0 0)).alloc (.cells #[.int .i64 k, .int .i64 0, .int .i64 0, .int .i64 0, .int .i64 0, .slice none 0 0] 27)
    rw [alloc_size] at this
    exact this
  have bp : PkAt wq (w.heap.size + 1 + 1) k 0 0 0 0 (.slice none 0 0) := by
    subst hwq
    have := PkAt.new ((w.alloc (.cells #[.int .i64 k, .int .i64 fa, .int .i64 fp, .int .i64 ta, .int .i64 tp, .slice A d.length c] 37)).alloc (.cells #[.int .i64 0, .int .i64 0, .int .i64 0, .int .i64 0, .int .i64 0, .slice none 0 0] 27)) 27 k 0 0 0 0 (.slice none 0 0)
    rw [alloc_size, alloc_size] at this
    exact this
  have BX := Lib.hid (fun W (h : Below (w.heap.size + 2) wq W) => bx.below h (by omega))
  have BZ := Lib.hid (fun W (h : Below (w.heap.size + 2) wq W) => bz.below h (by omega))
  have BP := Lib.hid bp
  have SL := Lib.hid (fun W (h : Below (w.heap.size + 2) wq W) => hs.below (hq.trans (h.mono (by omega))))
  have HZ := Lib.hid hzq
  have WQ := Lib.hid hwq
  have hz3 : w.heap.size + 2 ≤ wq.heap.size := by omega
  clear hwq hs bx bz bp hzq
  go_enter Try.func24, Try.ntmps24
  go_wp2_with fail
  rw [← WQ.out]
  refine (laws_toEnd _ _ _).mono ?_
  rintro e w2 ⟨rfl, hb2⟩
  have hk2 := hb2.mono hz3
  have p2 := BP.out.below_ hb2
  have P2 := Lib.hid p2
  obtain ⟨x0, x1, x2, x3, x4, x5⟩ := (BX.out _ hk2).cells
  obtain ⟨y0, y1, y2, y3, y4, y5⟩ := p2.cells
  obtain ⟨f0, f1, f2, f3, f4, f5⟩ := p2.frees
  clear p2
  go_wp2_with fail
  obtain ⟨W3, hW3⟩ : ∃ W : World, W = (w2.setCell ⟨w.heap.size + 1 + 1, 1, none⟩ (.int .i64 fa)).setCell ⟨w.heap.size + 1 + 1, 2, none⟩ (.int .i64 fp) := ⟨_, rfl⟩
  have hk3 : Below (w.heap.size + 2) wq W3 := by subst hW3; exact (hk2.setCell (Nat.le_refl _) _).setCell (Nat.le_refl _) _
  have p3 : PkAt W3 (w.heap.size + 1 + 1) k fa fp 0 0 (.slice none 0 0) := by subst hW3; exact (P2.out.set 1 (.int .i64 fa) rfl).set 2 (.int .i64 fp) rfl
  rw [← hW3]
  clear hW3 x0 x1 x2 x3 x4 x5 y0 y1 y2 y3 y4 y5 f0 f1 f2 f3 f4 f5
  refine (laws_toEnd _ _ _).mono ?_
  rintro e w4 ⟨rfl, hb4⟩
  have hk4 := bstep hk3 hb4 (Nat.le_of_lt p3.lt)
  have p4 := p3.below_ hb4
  have P4 := Lib.hid p4
  obtain ⟨x0, x1, x2, x3, x4, x5⟩ := (BX.out _ hk4).cells
  obtain ⟨y0, y1, y2, y3, y4, y5⟩ := p4.cells
  obtain ⟨f0, f1, f2, f3, f4, f5⟩ := p4.frees
  clear p4 p3
  go_wp2_with fail
  obtain ⟨W5, hW5⟩ : ∃ W : World, W = (w4.setCell ⟨w.heap.size + 1 + 1, 3, none⟩ (.int .i64 ta)).setCell ⟨w.heap.size + 1 + 1, 4, none⟩ (.int .i64 tp) := ⟨_, rfl⟩
  have hk5 : Below (w.heap.size + 2) wq W5 := by subst hW5; exact (hk4.setCell (Nat.le_refl _) _).setCell (Nat.le_refl _) _
  have p5 : PkAt W5 (w.heap.size + 1 + 1) k fa fp ta tp (.slice none 0 0) := by subst hW5; exact (P4.out.set 3 (.int .i64 ta) rfl).set 4 (.int .i64 tp) rfl
  rw [← hW5]
  clear hW5 x0 x1 x2 x3 x4 x5 y0 y1 y2 y3 y4 y5 f0 f1 f2 f3 f4 f5
  refine (laws_toIntS _ _ _ d _ rfl hl (SL.out _ hk5)).mono ?_
  rintro e w6 ⟨A6, c6, rfl, ho6, hb6⟩
  have hk6 := bstep hk5 hb6 (Nat.le_of_lt p5.lt)
  have p6 := p5.below_ hb6
  have hlt6 := p5.lt
  have O6 := Lib.hid ho6
  obtain ⟨y0, y1, y2, y3, y4, y5⟩ := p6.cells
  have q5 := p6.free 5
  have cz := BZ.out _ hk6
  obtain ⟨z0, z1, z2, z3, z4, z5⟩ := cz.cells
  obtain ⟨f0, f1, f2, f3, f4, f5⟩ := cz.frees
  clear p6 p5 cz ho6
  go_wp2
  refine bodyPost_ret (v := .agg #[.int .i64 k, .int .i64 fa, .int .i64 fp, .int .i64 ta, .int .i64 tp, .slice A6 d.length c6]) (by simp [results, Try.results24, go_sem, z0, z1, z2, z3, z4, z5]) rfl ⟨A6, c6, rfl, ?_, ?_⟩
  · exact (ow_six (ow_one O6.out (fun e => by have := (O6.out.blk _ e).1; omega) _ _) (fun e => by have := (O6.out.blk _ e).1; omega) _ _ _ _ _ _).base (by have := hk5.size; have := hq.size; omega)
  · exact below_six ((hq.trans (hk6.mono (by omega))).setCell (by show w.heap.size ≤ w.heap.size + 1 + 1; omega) _) (Nat.le_succ _) _ _ _ _ _ _
end Go.Proofs.Ytnkdhpbbiilekaa
