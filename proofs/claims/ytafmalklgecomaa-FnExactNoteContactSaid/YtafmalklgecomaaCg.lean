/- The generators of contacts, walked: what they return is some data that reads well. -/
import Derived.Test.YtafmalklgecomaaCq
import Derived.Test.YtafmalklgecomaaCw
import Derived.Test.YtafmalklgecomaaRe
namespace Go.Proofs.Ytafmalklgecomaa
open Go.RowKit
theorem Rd.setCell {w : World} {g N : Nat} (h : Rd w g N) {p : Addr} (hp : g < p.block) (v : Value) : Rd (w.setCell p v) g N :=
  h.of (by simp [World.setCell]) fun i hi => Below.heap_setCell w p v i (by omega)
theorem Rd.below_ {w w' : World} {g N : Nat} (h : Rd w g N) (hb : Below w.heap.size w w') : Rd w' g N := h.below hb h.lt
/-- One of the numbers of a list that was laid just before. -/
theorem one_lit (g N : Nat) (l : List Int) {cs : Array Value} {t : TypeId} {b n : Nat} {w : World} (hcs : cs.toList = l.flatMap encI1) (hb : w.heap.size = b) (hn : l.length = n) (hl : l.length ≤ 1000) (hl1 : 1 ≤ l.length) (hN : N ≤ 1000000) (hr : Rd w g N) :
    Calls Try.prog 48 #[.pointer (some ⟨g, 0, none⟩), .slice (some ⟨b, 0, none⟩) n n] (w.alloc (.cells cs t)) (fun e w' => ∃ x : Int, e = .returned (.int .i64 x) ∧ x ∈ l ∧ Rd w' g (N + 1) ∧ w.grownBy w' (some g)) := by
  subst hb
  subst hn
  have hlt := hr.lt
  have ho : Ow encI1 1 t w.heap.size (w.alloc (.cells cs t)) (some ⟨w.heap.size, 0, none⟩) l.length l := Ow.lit w (Nat.le_refl _) hcs (fun _ => rfl) (by unfold maxLen; omega)
  refine (one_ g N _ _ l _ hl hl1 hN (hr.alloc _) ho.sl (by intro a ha; injection ha with ha; subst ha; simp; omega)).mono ?_
  rintro e w2 ⟨x, rfl, hx, hrd, hg⟩
  exact ⟨x, rfl, hx, hrd, grown_trans (grown_alloc (World.grownBy.refl _ _) _) hg (.inl rfl)⟩
theorem two_grown {w w2 : World} {g : Nat} {e1 e2 : TypeId} (x1 x2 : Ct) {cs1 cs2 : Array Value} (h1 : cs1.toList = encC x1) (h2 : cs2.toList = encC x2)
    (hg : ((w.alloc (.cells cs1 e1)).alloc (.cells cs2 e2)).grownBy w2 (some g)) (hlt : g < w.heap.size) :
    Bl encC 3 e1 w2 w.heap.size 3 [x1] ∧ Bl encC 3 e2 w2 (w.heap.size + 1) 3 [x2] ∧ w.heap.size + 1 < w2.heap.size := by
  have b1 := (Bl.one (enc := encC) (e := e1) (k := 3) (fun _ => rfl) w x1 h1).alloc (.cells cs2 e2)
  have b2 := Bl.one (enc := encC) (e := e2) (k := 3) (fun _ => rfl) (w.alloc (.cells cs1 e1)) x2 h2
  rw [alloc_size] at b2
  have hz := hg.size
  rw [alloc_size, alloc_size] at hz
  exact ⟨b1.grown hg (by simp; omega), b2.grown hg (by simp; omega), by omega⟩
set_option maxHeartbeats 2000000 in
theorem badContact_ (g N : Nat) (p a q : Int) (w : World) (hN : N ≤ 1000000) (hr : Rd w g N) :
    Calls Try.prog 50 #[.pointer (some ⟨g, 0, none⟩), .agg #[.int .i64 p, .int .i64 a, .int .i64 q]] w (fun e w' => ∃ x : Ct, e = .returned (.agg #[.int .i64 x.p, .int .i64 x.a, .int .i64 x.q]) ∧ Rd w' g (N + 1) ∧ w.grownBy w' (some g)) := by
  have hlt := hr.lt
  have HR := Lib.hid hr
  clear hr
  go_enter Try.func50, Try.ntmps50
  go_wp2_with fail
  refine (pick_ g N 3 _ (by omega) (by omega) hN ((HR.out.alloc _).alloc _)).mono ?_
  rintro e w2 ⟨x, rfl, hx0, _, _, hrd, hgr⟩
  obtain ⟨X, Y, hz⟩ := two_grown ⟨p, a, q⟩ ⟨0, 0, 0⟩ rfl rfl hgr hlt
  obtain ⟨⟨x0, x1, x2⟩, f0, f1, f2⟩ := X.ct3
  obtain ⟨⟨y0, y1, y2⟩, g0, g1, g2⟩ := Y.ct3
  have hgw : w.grownBy w2 (some g) := grown_trans (grown_alloc (grown_alloc (World.grownBy.refl _ _) _) _) hgr (.inl rfl)
  have RD := Lib.hid hrd
  have GW := Lib.hid hgw
  clear hgr hgw hrd
  by_cases e0 : x = 0
  · subst e0
    go_wp2
    refine bodyPost_ret (v := .agg #[.int .i64 1008, .int .i64 a, .int .i64 q]) (by simp [results, Try.results50, go_sem, x1, x2, y0, y1, y2]) rfl ⟨⟨1008, a, q⟩, rfl, ?_, ?_⟩
    · exact (((RD.out.setCell (by simpa using hlt) _).setCell (by simp; omega) _).setCell (by simp; omega) _).setCell (by simp; omega) _
    · exact grown_setCell (grown_setCell (grown_setCell (grown_setCell GW.out (.inr (by simp)) _) (.inr (by simp)) _) (.inr (by simp)) _) (.inr (by simp)) _
  by_cases e1 : x = 1
  · subst e1
    go_wp2
    refine bodyPost_ret (v := .agg #[.int .i64 p, .int .i64 (-1), .int .i64 q]) (by simp [results, Try.results50, go_sem, x0, x1, x2, y0, y1, y2]) rfl ⟨⟨p, -1, q⟩, rfl, ?_, ?_⟩
    · exact (((RD.out.setCell (by simpa using hlt) _).setCell (by simp; omega) _).setCell (by simp; omega) _).setCell (by simp; omega) _
    · exact grown_setCell (grown_setCell (grown_setCell (grown_setCell GW.out (.inr (by simp)) _) (.inr (by simp)) _) (.inr (by simp)) _) (.inr (by simp)) _
  · have h0 : (x == 0) = false := by simpa using e0
    have h1 : (x == 1) = false := by simpa using e1
    go_wp2
    refine bodyPost_ret (v := .agg #[.int .i64 p, .int .i64 a, .int .i64 q]) (by simp [results, Try.results50, go_sem, x0, x1, x2, y0, y1, y2]) rfl ⟨⟨p, a, q⟩, rfl, ?_, ?_⟩
    · exact (((RD.out.setCell (by simp; omega) _).setCell (by simp; omega) _).setCell (by simp; omega) _)
    · exact grown_setCell (grown_setCell (grown_setCell GW.out (.inr (by simp)) _) (.inr (by simp)) _) (.inr (by simp)) _
set_option maxHeartbeats 4000000 in
theorem someContacts_ (g N : Nat) (w : World) (hN : N ≤ 900000) (hr : Rd w g N) :
    Calls Try.prog 37 #[.pointer (some ⟨g, 0, none⟩)] w (fun e w' => ∃ (A : Option Addr) (c : Nat) (l : List Ct), e = .returned (.slice A l.length c) ∧ l.length ≤ 12 ∧ Ow encC 3 29 w.heap.size w' A c l ∧ Rd w' g (N + 50) ∧ w.grownBy w' (some g)) := by
  have hlt := hr.lt
  have hwo : Ow encC 3 29 w.heap.size (w.alloc (.cells #[] 29)) (some ⟨w.heap.size, 0, none⟩) 0 ([] : List Ct) := Ow.empty w (Nat.le_refl _)
  have HR := Lib.hid hr
  have HWO := Lib.hid hwo
  have HG0 := Lib.hid (grown_alloc (World.grownBy.refl w (some g)) (.cells #[] 29))
  clear hr hwo
  go_enter Try.func37, Try.ntmps37
  go_wp2_with fail
  refine (one_lit g N [3, 5, 2, 1, 0, 14] rfl (by simp) rfl (by simp) (by simp) (by omega) (HR.out.alloc _)).mono ?_
  rintro e w2 ⟨x, rfl, hx, hrd, hgr⟩
  have hx2 : 0 ≤ x ∧ x ≤ 14 := by simp at hx; omega
  obtain ⟨hx0, hx1⟩ := hx2
  have ho := HWO.out.grown hgr (.inr (by simp [blk]; omega))
  have HO := Lib.hid ho
  have HRD := Lib.hid hrd
  have HG := Lib.hid (grown_trans HG0.out hgr (.inl rfl))
  clear hx ho hrd hgr
  obtain ⟨m0, rfl⟩ : ∃ k : Nat, x = (k : Int) := ⟨x.toNat, by omega⟩
  go_wp2
  go_loopw [3, 4] (fun out n wr => ∃ (m : Nat) (A : Option Addr) (c : Nat) (l : List Ct), m ≤ 14 ∧ n = .int .i64 m ∧ out = .slice A l.length c ∧ l.length ≤ 10 ∧ Ow encC 3 29 w.heap.size wr A c l ∧ Rd wr g (N + 1 + 3 * (14 - m)) ∧ w.grownBy wr (some g)) (fun _ n _ => (intOf n).toNat)
  case atStart => exact ⟨m0, _, _, [], by omega, rfl, rfl, by simp, HO.out, HRD.out.mono (by omega), HG.out⟩
  case round =>
    obtain ⟨m, A, c, l, hm, rfl, rfl, hl, ho, hrd, hgr⟩ := hrel
    have HOW := Lib.hid ho
    have HRR := Lib.hid hrd
    have HGR := Lib.hid hgr
    clear ho hrd hgr
    by_cases hm0 : 0 < m
    · go_wp2_with fail
      refine (pick_ g _ 4 _ (by omega) (by omega) (by omega) HRR.out).mono ?_
      rintro e w3 ⟨x, rfl, hy0, hy1, _, hr3, hg3⟩
      have hy1 := hy1 (by omega)
      have HR3 := Lib.hid hr3
      have HG3 := Lib.hid hg3
      clear hr3 hg3
      go_wp2_with fail
      refine (one_lit g _ [5000, 7000, 7001] rfl (by simp) rfl (by simp) (by simp) (by omega) HR3.out).mono ?_
      rintro e w4 ⟨a, rfl, _, hr4, hg4⟩
      have HR4 := Lib.hid hr4
      have HG4 := Lib.hid hg4
      clear hr4 hg4
      go_wp2_with fail
      refine (one_lit g _ [80, 443] rfl (by simp) rfl (by simp) (by simp) (by omega) HR4.out).mono ?_
      rintro e w5 ⟨q, rfl, _, hr5, hg5⟩
      have hg35 := grown_trans (grown_trans HG3.out HG4.out (.inl rfl)) hg5 (.inl rfl)
      have how5 : Ow encC 3 29 w.heap.size w5 A c l := HOW.out.grown hg35 (by
        rcases h : blk A with _ | b
        · exact .inl rfl
        · refine .inr ?_
          have := (HOW.out.blk b h).1
          intro e; injection e with e; omega)
      have HR5 := Lib.hid hr5
      have HG5 := Lib.hid (grown_trans HGR.out hg35 (.inl rfl))
      have HOW5 := Lib.hid how5
      clear hr5 hg5 hg35 how5
      go_wp2_with fail
      refine (spec_NoteContact _ _ _ _ _ _ _ (by omega) HOW5.out.sl).mono ?_
      rintro e w6 ⟨hb6, ⟨_, rfl⟩ | ⟨_, A6, c6, rfl, how6⟩⟩
      · have HB6 := Lib.hid hb6
        clear hb6
        go_wp2
        go_roundw
        case rel => exact ⟨m - 1, A, c, l, by omega, by go_num, rfl, hl, HOW5.out.below HB6.out, (HR5.out.below_ HB6.out).mono (by omega), grown_below HG5.out HB6.out⟩
        case measure => simp [intOf]; omega
      · have HB6 := Lib.hid hb6
        have hz6 : w.heap.size ≤ w5.heap.size := HG5.out.size
        clear hb6
        go_wp2
        go_roundw
        case rel => exact ⟨m - 1, A6, c6, _, by omega, by go_num, rfl, (noteC_len).1, how6.base hz6, (HR5.out.below_ HB6.out).mono (by omega), grown_below HG5.out HB6.out⟩
        case measure => simp [intOf]; omega
    · have hm1 : m = 0 := by omega
      by_cases hl0 : 0 < l.length
      · go_wp2_with fail
        refine (pick_ g _ 16 _ (by omega) (by omega) (by omega) HRR.out).mono ?_
        rintro e w3 ⟨x, rfl, hy0, hy1, _, hr3, hg3⟩
        have HR3 := Lib.hid hr3
        have HG3 := Lib.hid (grown_trans HGR.out hg3 (.inl rfl))
        have how3 : Ow encC 3 29 w.heap.size w3 A c l := HOW.out.grown hg3 (by
          rcases h : blk A with _ | b
          · exact .inl rfl
          · refine .inr ?_
            have := (HOW.out.blk b h).1
            intro e; injection e with e; omega)
        have HOW3 := Lib.hid how3
        clear hr3 hg3 how3
        cases hx3 : (x == 0)
        · go_wp2
          go_ret
          exact ⟨A, c, l, rfl, by omega, HOW3.out, HR3.out.mono (by omega), HG3.out⟩
        · obtain ⟨b, o, rfl, hbs, hc⟩ := HOW3.out.sl.base hl0
          obtain ⟨p, a, q, hx⟩ := ct_at hl0
          obtain ⟨d0, d1, d2⟩ := hc.ct (Below.refl _ _) hbs hx
          rw [Nat.zero_mul, Nat.add_zero] at d0 d1 d2
          clear hc hx
          go_wp2_with fail
          refine (badContact_ g _ _ _ _ _ (by omega) HR3.out).mono ?_
          rintro e w4 ⟨y, rfl, hr4, hg4⟩
          have HR4 := Lib.hid hr4
          have HG4 := Lib.hid (grown_trans HG3.out hg4 (.inl rfl))
          have how4 : Ow encC 3 29 w.heap.size w4 (some ⟨b, o, none⟩) c l := HOW3.out.grown hg4 (by
            refine .inr ?_
            have := (HOW3.out.blk b rfl).1
            intro e; injection e with e; simp at e; omega)
          have HOW4 := Lib.hid how4
          clear hr4 hg4 how4
          have B1 := Lib.hid (blC w4 y.p y.a y.q)
          go_wp2_with (with_reducible refine wpList_app elC rfl (.tmp 41) (.tmp 47) rfl w.heap.size _ _ _ l rfl rfl (HOW4.out.alloc _) _ _ _ [⟨y.p, y.a, y.q⟩] rfl rfl B1.out.sl ?c1 (by decide) ?c2 ?_)
          case c1 => first | omega | (simp; omega)
          case c2 => have := HG4.out.size; simp; omega
          intro A7 c7 w7 hown7 hg7 _
          have hr7 : Rd w7 g (N + 50) := ((HR4.out.alloc _).grown hg7 (by
            intro r hr
            have := (HOW4.out.blk r hr).1
            omega)).mono (by omega)
          have hg7' : w.grownBy w7 (some g) := grown_trans (grown_alloc HG4.out _) hg7 (.inr (fun r hr => (HOW4.out.blk r hr).1))
          go_wp2
          go_ret
          exact ⟨A7, c7, l ++ [⟨y.p, y.a, y.q⟩], ret_slice (by simp), by simp; omega, hown7, hr7, hg7'⟩
      · go_wp2
        go_ret
        exact ⟨A, c, l, rfl, by omega, HOW.out, HRR.out.mono (by omega), HGR.out⟩
end Go.Proofs.Ytafmalklgecomaa
