/- MapEnd, TouchPort: the program's, walked. -/
import Derived.Test.YtpfmlenodgjebaaMk
namespace Go.Proofs.Ytpfmlenodgjebaa
open Go.RowKit
theorem Bl.outB {α : Type} {enc : α → List Value} {k B g m : Nat} {e : TypeId} {w : World} {L : List α} (h : Bl enc k e w g m L) (hB : B ≤ g) : Out enc k B w (some ⟨g, 0, none⟩) L.length L := ⟨h.sl, fun _ => ⟨g, 0, rfl, hB, h.lt, fun j => h.frozen j⟩⟩
theorem Ow.noneNil {α : Type} {enc : α → List Value} {k B c : Nat} {e : TypeId} {w : World} {A : Option Addr} {l : List α} (h : Ow enc k e B w A c l) : A = none → l = [] := by
  rintro rfl
  rcases h with ⟨_, _, h⟩ | ⟨g, h, _⟩
  · exact h
  · cases h
def touchR (l : List Mp) (p now : Int) : List Mp :=
  match l.findIdx? (sameP p) with
  | some k => l.set k ⟨((l[k]?).getD zeroMp).a, ((l[k]?).getD zeroMp).q, ((l[k]?).getD zeroMp).p, max ((l[k]?).getD zeroMp).l now⟩
  | none => []
def touchO (l : List Mp) (p now : Int) : Bool := vM l && (inR now 0 10000 && used l p)
def touchV (l : List Mp) (p now : Int) : List Mp := if touchO l p now then touchR l p now else []
theorem touch_found {l : List Mp} {p now : Int} {k : Nat} {x : Mp} (h : l[k]? = some x) (hp : sameP p x = true) (hn : ∀ y ∈ l.take k, sameP p y = false) : touchR l p now = l.set k ⟨x.a, x.q, x.p, max x.l now⟩ := by
  unfold touchR
  rw [findIdx_at h hp hn]
  simp only [h, Option.getD_some]
set_option maxHeartbeats 4000000 in
theorem impl_MapEnd (A : Option Addr) (c n : Nat) (l : List Mp) (fa fq now : Int) (w : World) (hn : n = l.length) (hl : l.length ≤ 2000000) (hs : Sl encM 4 w A c l) :
    Calls Try.prog 27 #[.slice A n c, .agg #[.int .i64 fa, .int .i64 fq], .int .i64 now] w (fun e w' => ∃ A', e = .returned (mapRes A' (mapV l fa fq now).1.length (mapV l fa fq now)) ∧ Out encM 4 w.heap.size w' A' (mapV l fa fq now).1.length (mapV l fa fq now).1 ∧ Below w.heap.size w w') := by
  subst hn
  obtain ⟨wq, hwq⟩ : ∃ x, x = w.alloc (.cells #[.int .i64 fa, .int .i64 fq] 28) := ⟨_, rfl⟩
  have hq : Below w.heap.size w wq := by subst hwq; exact (Below.refl _ _).alloc (Nat.le_refl _) _
  have EC := Lib.hid (fun W (h : Below wq.heap.size wq W) => end_cells w fa fq (W := W) (by subst hwq; exact h))
  have SL := Lib.hid (fun W (h : Below wq.heap.size wq W) => hs.below (hq.trans (h.mono hq.size)))
  have WQ := Lib.hid hwq
  have hk : Below wq.heap.size wq wq := Below.refl _ _
  have NIL := Lib.hid (fun W => (⟨Sl.nil, Fr.nil⟩ : Out encM 4 w.heap.size W none 0 ([] : List Mp)))
  clear hwq hs
  cases hv : vM l
  · have hr : mapV l fa fq now = ([], -1, false) := by unfold mapV; rw [hv]; rfl
    rw [hr]
    have HV := Lib.hid hv
    clear hv hr
    go_enter Try.func27, Try.ntmps27
    go_wp2_with fail
    rw [← WQ.out]
    refine (impl_ValidTable _ _ _ _ _ rfl hl (SL.out _ hk)).mono ?_
    rintro e w3 ⟨rfl, hb3⟩
    rw [HV.out]
    go_wp2
    go_ret3
    exact ⟨none, rfl, NIL.out _, hq.trans (hb3.mono hq.size)⟩
  have hl8 := ((vM_iff l).1 hv).1
  cases h1 : (isW fa && isW fq)
  · have hr : mapV l fa fq now = ([], -1, false) := by unfold mapV; rw [hv, h1]; rfl
    rw [hr]
    have HV := Lib.hid hv
    have H1 := Lib.hid h1
    clear hv hr h1
    go_enter Try.func27, Try.ntmps27
    go_wp2_with fail
    rw [← WQ.out]
    refine (impl_ValidTable _ _ _ _ _ rfl hl (SL.out _ hk)).mono ?_
    rintro e w3 ⟨rfl, hb3⟩
    rw [HV.out]
    obtain ⟨x0, x1, xz⟩ := EC.out _ hb3
    go_wp2_with fail
    refine (impl_End_valid _ _ _).mono ?_
    rintro e w4 ⟨rfl, hb4⟩
    rw [H1.out]
    have hk4 := bstep hb3 hb4 hb3.size
    clear x0 x1 xz
    go_wp2
    go_ret3
    exact ⟨none, rfl, NIL.out _, hq.trans (hk4.mono hq.size)⟩
  have hfq : 0 ≤ fq ∧ fq ≤ 65535 := by simp only [Bool.and_eq_true] at h1; exact of_decide_eq_true h1.2
  obtain ⟨hfq0, hfq1⟩ := hfq
  cases h2 : inR now 0 10000
  · have hr : mapV l fa fq now = ([], -1, false) := by unfold mapV; rw [hv, h1, h2]; rfl
    rw [hr]
    have HV := Lib.hid hv
    have H1 := Lib.hid h1
    have H2 := Lib.hid h2
    clear hv hr h1 h2
    go_enter Try.func27, Try.ntmps27
    go_wp2_with fail
    rw [← WQ.out]
    refine (impl_ValidTable _ _ _ _ _ rfl hl (SL.out _ hk)).mono ?_
    rintro e w3 ⟨rfl, hb3⟩
    rw [HV.out]
    obtain ⟨x0, x1, xz⟩ := EC.out _ hb3
    go_wp2_with fail
    refine (impl_End_valid _ _ _).mono ?_
    rintro e w4 ⟨rfl, hb4⟩
    rw [H1.out]
    have hk4 := bstep hb3 hb4 hb3.size
    clear x0 x1 xz
    obtain ⟨x0, x1, xz⟩ := EC.out _ hk4
    go_wp2_with (first | (go_at_call 65; refine (impl_isTime _ _).mono ?_; rintro e w' ⟨rfl, rfl⟩; rw [H2.out]))
    go_ret3
    exact ⟨none, rfl, NIL.out _, hq.trans (hk4.mono hq.size)⟩
  have hr : mapV l fa fq now = mapR l fa fq now := by unfold mapV; rw [hv, h1, h2]; rfl
  rw [hr]
  have HV := Lib.hid hv
  have H1 := Lib.hid h1
  have H2 := Lib.hid h2
  clear hv hr h1 h2
  obtain ⟨e, he⟩ : ∃ e, byE l fa fq = e := ⟨_, rfl⟩
  have HE := Lib.hid he
  by_cases h0 : 0 ≤ e
  · obtain ⟨k, x, hkx, hx, hp, hnn⟩ := idx_pos (p := sameE fa fq) (l := l) (by unfold byE at he; omega)
    rw [map_found hx hp hnn]
    have hek : e = (k : Int) := by unfold byE at he; omega
    subst hek
    obtain ⟨a, q, p, t⟩ := x
    have hkl := lt_of_get hx
    have X := Lib.hid hx
    have hl1 : l ≠ [] := by rintro rfl; simp at hx
    clear he hkx hx hp hnn
    rcases Int.lt_trichotomy t now with hmx | hmx | hmx
    · have MX := Lib.hid (show max t now = now from by omega)
      go_enter Try.func27, Try.ntmps27
      go_wp2_with fail
      rw [← WQ.out]
      refine (impl_ValidTable _ _ _ _ _ rfl hl (SL.out _ hk)).mono ?_
      rintro e w3 ⟨rfl, hb3⟩
      rw [HV.out]
      obtain ⟨x0, x1, xz⟩ := EC.out _ hb3
      go_wp2_with fail
      refine (impl_End_valid _ _ _).mono ?_
      rintro e w4 ⟨rfl, hb4⟩
      rw [H1.out]
      have hk4 := bstep hb3 hb4 hb3.size
      clear x0 x1 xz
      obtain ⟨x0, x1, xz⟩ := EC.out _ hk4
      go_wp2_with (first | (go_at_call 65; refine (impl_isTime _ _).mono ?_; rintro e w' ⟨rfl, rfl⟩; rw [H2.out]))
      refine (clone_mt _ _ _ _ _ rfl hl (SL.out _ hk4)).mono ?_
      rintro e w5 ⟨A5, c5, rfl, how5, hb5⟩
      have hk5 := bstep hk4 hb5 hk4.size
      have H5 := Lib.hid (how5.base (Nat.le_trans hq.size hk4.size))
      clear how5 x0 x1 xz hb5
      obtain ⟨x0, x1, xz⟩ := EC.out _ hk5
      go_wp2_with fail
      refine (impl_byEnd _ _ _ _ _ _ _ rfl hl (SL.out _ hk5)).mono ?_
      rintro e w6 ⟨rfl, hb6⟩
      rw [HE.out]
      have hk6 := bstep hk5 hb6 hk5.size
      have H6 := Lib.hid (H5.out.below hb6)
      have HB6 := Lib.hid (hq.trans (hk6.mono hq.size))
      have HK6 := Lib.hid hk6
      clear x0 x1 xz hb6
      obtain ⟨x0, x1, xz⟩ := EC.out _ hk6
      clear hk hk4 hk5 hb3 hb4
      obtain ⟨g3, rfl, hgB, hlc3, hcm3, hbl3⟩ := H6.out.resolve_left (by rintro ⟨_, _, h⟩; exact hl1 h)
      obtain ⟨⟨d0, d1, d2, d3⟩, f0, f1, f2, f3⟩ := hbl3.mtAt X.out
      have BL3 := Lib.hid hbl3
      clear hbl3 hcm3 hlc3 hk6
      go_wp2
      go_quiet (fail)
      go_wp2
      go_ret3
      have hst := BL3.out.store (x := ⟨a, q, p, t⟩) (x' := ⟨a, q, p, max t now⟩) (u := .int .i64 (max t now)) (i := k) (j := 3) (fun _ => rfl) X.out (by decide) rfl
      rw [MX.out] at hst ⊢
      have ho := hst.outB hgB
      refine ⟨some ⟨g3, 0, none⟩, by unfold mapRes; rw [List.length_set]; rfl, ho, ?_⟩
      exact bdrewN (HB6.out.setCell (show w.heap.size ≤ g3 by omega) _) _
    · obtain rfl : now = t := hmx.symm
      have MX := Lib.hid (show max now now = now from by omega)
      go_enter Try.func27, Try.ntmps27
      go_wp2_with fail
      rw [← WQ.out]
      refine (impl_ValidTable _ _ _ _ _ rfl hl (SL.out _ hk)).mono ?_
      rintro e w3 ⟨rfl, hb3⟩
      rw [HV.out]
      obtain ⟨x0, x1, xz⟩ := EC.out _ hb3
      go_wp2_with fail
      refine (impl_End_valid _ _ _).mono ?_
      rintro e w4 ⟨rfl, hb4⟩
      rw [H1.out]
      have hk4 := bstep hb3 hb4 hb3.size
      clear x0 x1 xz
      obtain ⟨x0, x1, xz⟩ := EC.out _ hk4
      go_wp2_with (first | (go_at_call 65; refine (impl_isTime _ _).mono ?_; rintro e w' ⟨rfl, rfl⟩; rw [H2.out]))
      refine (clone_mt _ _ _ _ _ rfl hl (SL.out _ hk4)).mono ?_
      rintro e w5 ⟨A5, c5, rfl, how5, hb5⟩
      have hk5 := bstep hk4 hb5 hk4.size
      have H5 := Lib.hid (how5.base (Nat.le_trans hq.size hk4.size))
      clear how5 x0 x1 xz hb5
      obtain ⟨x0, x1, xz⟩ := EC.out _ hk5
      go_wp2_with fail
      refine (impl_byEnd _ _ _ _ _ _ _ rfl hl (SL.out _ hk5)).mono ?_
      rintro e w6 ⟨rfl, hb6⟩
      rw [HE.out]
      have hk6 := bstep hk5 hb6 hk5.size
      have H6 := Lib.hid (H5.out.below hb6)
      have HB6 := Lib.hid (hq.trans (hk6.mono hq.size))
      have HK6 := Lib.hid hk6
      clear x0 x1 xz hb6
      obtain ⟨x0, x1, xz⟩ := EC.out _ hk6
      clear hk hk4 hk5 hb3 hb4
      obtain ⟨g3, rfl, hgB, hlc3, hcm3, hbl3⟩ := H6.out.resolve_left (by rintro ⟨_, _, h⟩; exact hl1 h)
      obtain ⟨⟨d0, d1, d2, d3⟩, f0, f1, f2, f3⟩ := hbl3.mtAt X.out
      have BL3 := Lib.hid hbl3
      clear hbl3 hcm3 hlc3 hk6
      go_wp2
      go_quiet (fail)
      go_wp2
      go_ret3
      have hst := BL3.out.store (x := ⟨a, q, p, now⟩) (x' := ⟨a, q, p, max now now⟩) (u := .int .i64 (max now now)) (i := k) (j := 3) (fun _ => rfl) X.out (by decide) rfl
      rw [MX.out] at hst ⊢
      have ho := hst.outB hgB
      refine ⟨some ⟨g3, 0, none⟩, by unfold mapRes; rw [List.length_set]; rfl, ho, ?_⟩
      exact bdrewN (HB6.out.setCell (show w.heap.size ≤ g3 by omega) _) _
    · have MX := Lib.hid (show max t now = t from by omega)
      go_enter Try.func27, Try.ntmps27
      go_wp2_with fail
      rw [← WQ.out]
      refine (impl_ValidTable _ _ _ _ _ rfl hl (SL.out _ hk)).mono ?_
      rintro e w3 ⟨rfl, hb3⟩
      rw [HV.out]
      obtain ⟨x0, x1, xz⟩ := EC.out _ hb3
      go_wp2_with fail
      refine (impl_End_valid _ _ _).mono ?_
      rintro e w4 ⟨rfl, hb4⟩
      rw [H1.out]
      have hk4 := bstep hb3 hb4 hb3.size
      clear x0 x1 xz
      obtain ⟨x0, x1, xz⟩ := EC.out _ hk4
      go_wp2_with (first | (go_at_call 65; refine (impl_isTime _ _).mono ?_; rintro e w' ⟨rfl, rfl⟩; rw [H2.out]))
      refine (clone_mt _ _ _ _ _ rfl hl (SL.out _ hk4)).mono ?_
      rintro e w5 ⟨A5, c5, rfl, how5, hb5⟩
      have hk5 := bstep hk4 hb5 hk4.size
      have H5 := Lib.hid (how5.base (Nat.le_trans hq.size hk4.size))
      clear how5 x0 x1 xz hb5
      obtain ⟨x0, x1, xz⟩ := EC.out _ hk5
      go_wp2_with fail
      refine (impl_byEnd _ _ _ _ _ _ _ rfl hl (SL.out _ hk5)).mono ?_
      rintro e w6 ⟨rfl, hb6⟩
      rw [HE.out]
      have hk6 := bstep hk5 hb6 hk5.size
      have H6 := Lib.hid (H5.out.below hb6)
      have HB6 := Lib.hid (hq.trans (hk6.mono hq.size))
      have HK6 := Lib.hid hk6
      clear x0 x1 xz hb6
      obtain ⟨x0, x1, xz⟩ := EC.out _ hk6
      clear hk hk4 hk5 hb3 hb4
      obtain ⟨g3, rfl, hgB, hlc3, hcm3, hbl3⟩ := H6.out.resolve_left (by rintro ⟨_, _, h⟩; exact hl1 h)
      obtain ⟨⟨d0, d1, d2, d3⟩, f0, f1, f2, f3⟩ := hbl3.mtAt X.out
      have BL3 := Lib.hid hbl3
      clear hbl3 hcm3 hlc3 hk6
      go_wp2
      go_quiet (fail)
      go_wp2
      go_ret3
      have hst := BL3.out.store (x := ⟨a, q, p, t⟩) (x' := ⟨a, q, p, max t now⟩) (u := .int .i64 (max t now)) (i := k) (j := 3) (fun _ => rfl) X.out (by decide) rfl
      rw [MX.out] at hst ⊢
      have ho := hst.outB hgB
      refine ⟨some ⟨g3, 0, none⟩, by unfold mapRes; rw [List.length_set]; rfl, ho, ?_⟩
      exact bdrewN (HB6.out.setCell (show w.heap.size ≤ g3 by omega) _) _
  · have hlt : byE l fa fq < 0 := by omega
    have hfr := freeP_hi l fq
    obtain ⟨f, hf⟩ : ∃ f, freeP l fq = f := ⟨_, rfl⟩
    rw [hf] at hfr
    have HF := Lib.hid hf
    by_cases hf0 : f < 0
    · rw [map_none hlt (by rw [hf]; exact hf0)]
      clear he hlt hf
      go_enter Try.func27, Try.ntmps27
      go_wp2_with fail
      rw [← WQ.out]
      refine (impl_ValidTable _ _ _ _ _ rfl hl (SL.out _ hk)).mono ?_
      rintro e w3 ⟨rfl, hb3⟩
      rw [HV.out]
      obtain ⟨x0, x1, xz⟩ := EC.out _ hb3
      go_wp2_with fail
      refine (impl_End_valid _ _ _).mono ?_
      rintro e w4 ⟨rfl, hb4⟩
      rw [H1.out]
      have hk4 := bstep hb3 hb4 hb3.size
      clear x0 x1 xz
      obtain ⟨x0, x1, xz⟩ := EC.out _ hk4
      go_wp2_with (first | (go_at_call 65; refine (impl_isTime _ _).mono ?_; rintro e w' ⟨rfl, rfl⟩; rw [H2.out]))
      refine (clone_mt _ _ _ _ _ rfl hl (SL.out _ hk4)).mono ?_
      rintro e w5 ⟨A5, c5, rfl, how5, hb5⟩
      have hk5 := bstep hk4 hb5 hk4.size
      have H5 := Lib.hid (how5.base (Nat.le_trans hq.size hk4.size))
      clear how5 x0 x1 xz hb5
      obtain ⟨x0, x1, xz⟩ := EC.out _ hk5
      go_wp2_with fail
      refine (impl_byEnd _ _ _ _ _ _ _ rfl hl (SL.out _ hk5)).mono ?_
      rintro e w6 ⟨rfl, hb6⟩
      rw [HE.out]
      have hk6 := bstep hk5 hb6 hk5.size
      have H6 := Lib.hid (H5.out.below hb6)
      have HB6 := Lib.hid (hq.trans (hk6.mono hq.size))
      have HK6 := Lib.hid hk6
      clear x0 x1 xz hb6
      obtain ⟨x0, x1, xz⟩ := EC.out _ hk6
      clear hk hk4 hk5 hb3 hb4
      go_wp2_with fail
      refine (impl_freePort _ _ _ _ _ _ hfq0 hfq1 rfl hl (SL.out _ hk6)).mono ?_
      rintro e w7 ⟨rfl, hb7⟩
      rw [HF.out]
      have hk7 := bstep hk6 hb7 hk6.size
      go_wp2
      go_ret3
      exact ⟨none, rfl, NIL.out _, hq.trans (hk7.mono hq.size)⟩
    · rw [map_new hlt (by rw [hf]; omega), hf]
      clear he hlt hf
      go_enter Try.func27, Try.ntmps27
      go_wp2_with fail
      rw [← WQ.out]
      refine (impl_ValidTable _ _ _ _ _ rfl hl (SL.out _ hk)).mono ?_
      rintro e w3 ⟨rfl, hb3⟩
      rw [HV.out]
      obtain ⟨x0, x1, xz⟩ := EC.out _ hb3
      go_wp2_with fail
      refine (impl_End_valid _ _ _).mono ?_
      rintro e w4 ⟨rfl, hb4⟩
      rw [H1.out]
      have hk4 := bstep hb3 hb4 hb3.size
      clear x0 x1 xz
      obtain ⟨x0, x1, xz⟩ := EC.out _ hk4
      go_wp2_with (first | (go_at_call 65; refine (impl_isTime _ _).mono ?_; rintro e w' ⟨rfl, rfl⟩; rw [H2.out]))
      refine (clone_mt _ _ _ _ _ rfl hl (SL.out _ hk4)).mono ?_
      rintro e w5 ⟨A5, c5, rfl, how5, hb5⟩
      have hk5 := bstep hk4 hb5 hk4.size
      have H5 := Lib.hid (how5.base (Nat.le_trans hq.size hk4.size))
      clear how5 x0 x1 xz hb5
      obtain ⟨x0, x1, xz⟩ := EC.out _ hk5
      go_wp2_with fail
      refine (impl_byEnd _ _ _ _ _ _ _ rfl hl (SL.out _ hk5)).mono ?_
      rintro e w6 ⟨rfl, hb6⟩
      rw [HE.out]
      have hk6 := bstep hk5 hb6 hk5.size
      have H6 := Lib.hid (H5.out.below hb6)
      have HB6 := Lib.hid (hq.trans (hk6.mono hq.size))
      have HK6 := Lib.hid hk6
      clear x0 x1 xz hb6
      obtain ⟨x0, x1, xz⟩ := EC.out _ hk6
      clear hk hk4 hk5 hb3 hb4
      go_wp2_with fail
      refine (impl_freePort _ _ _ _ _ _ hfq0 hfq1 rfl hl (SL.out _ hk6)).mono ?_
      rintro e w7 ⟨rfl, hb7⟩
      rw [HF.out]
      have hk7 := bstep hk6 hb7 hk6.size
      have H7 := Lib.hid (H6.out.below hb7)
      have HB7 := Lib.hid (hq.trans (hk7.mono hq.size))
      clear x0 x1 xz
      obtain ⟨x0, x1, xz⟩ := EC.out _ hk7
      have B1 := Lib.hid (blM w7 fa fq f now)
      go_wp2_with (at_builtin; (refine wpList_grow elM rfl (.tmp 55) (.tmp 60) rfl A5 l.length l ?c5 rfl ((H7.out.alloc _).sl.cap) H7.out.noneNil _ _ _ [⟨fa, fq, f, now⟩] (by simp) ?c6 rfl B1.out.sl ?c7 (by decide) ?_))
      case c5 => rfl
      case c6 => rfl
      case c7 => first | omega | (simp; omega)
      intro A8 c8 w8 how8 hb8
      have HB8 := Lib.hid ((HB7.out.alloc HB7.out.size (.cells #[.int .i64 fa, .int .i64 fq, .int .i64 f, .int .i64 now] 37)).trans (hb8.mono (Nat.le_succ_of_le HB7.out.size)))
      have H8 := Lib.hid how8
      have hle8 : l.length + 1 ≤ c8 := by have := how8.le; simpa using this
      have hm8 := how8.capm
      clear how8 hb8
      go_wp2_with fail
      refine (Clip_mt _ _ _ _ hle8 hm8).mono ?_
      rintro e w9 ⟨rfl, rfl⟩
      go_wp2
      go_ret3
      exact ⟨A8, by unfold mapRes; rw [List.length_append]; rfl, ⟨H8.out.sl.cap, (H8.out.base (Nat.le_succ_of_le HB7.out.size)).fr⟩, HB8.out⟩
end Go.Proofs.Ytpfmlenodgjebaa
