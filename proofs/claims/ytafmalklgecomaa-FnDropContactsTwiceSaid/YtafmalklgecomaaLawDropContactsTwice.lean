/- The walk of FnDropContactsTwice. -/
import Derived.Test.YtafmalklgecomaaCk
namespace Go.Proofs.Ytafmalklgecomaa
open Go.RowKit
set_option maxHeartbeats 4000000 in
theorem FnDropContactsTwice_walk (A : Option Addr) (c : Nat) (l : List Int) (w : World) (hi : CodeIn w A c l) :
    Calls Try.prog 11 #[.slice A l.length c] w (Ret w (.bool true)) := by
  have hc := hi.1
  have hlc := hi.2.1.1
  unfold maxLen at hc
  have HI := Lib.hid hi
  clear hi
  by_cases hbig : 1048576 < l.length
  · go_enter Try.func11, Try.ntmps11
    go_wp2
    go_ret
    exact ⟨rfl, Below.refl _ _⟩
  go_enter Try.func11, Try.ntmps11
  go_wp2_with fail
  refine (DrawDropContacts_ _ _ _ _ HI.out).mono ?_
  rintro e wq ⟨A1, c1, l1, p, rfl, hl1, ho, hb⟩
  have SL := Lib.hid (fun W (h : Below wq.heap.size wq W) => ho.sl.below h)
  have HB := Lib.hid hb
  have hk : Below wq.heap.size wq wq := Below.refl _ _
  have hl2 : l1.length ≤ 2000000 := by omega
  clear hb ho
  obtain ⟨D, hD⟩ : ∃ D, dropV l1 p = D := ⟨_, rfl⟩
  obtain ⟨n, hn⟩ : ∃ n, D.length = n := ⟨_, rfl⟩
  have hle : n ≤ l1.length := by
    rw [← hn, ← hD]; unfold dropV; split
    · exact (dropC_sub l1 p).length_le
    · simp
  have HD := Lib.hid hD
  have HN := Lib.hid hn
  have hD2 : D.length ≤ 2000000 := by omega
  clear hD hn
  go_wp2_with fail
  refine (Drop HD.out HN.out rfl hl2 (SL.out _ hk)).mono ?_
  rintro e w3 ⟨A3, rfl, hout, hb3⟩
  have hk3 : Below wq.heap.size wq w3 := bstep hk hb3 hk.size
  have HO3 := Lib.hid hout
  clear hout
  go_wp2_with fail
  refine (spec_Drop HD.out HN.out rfl hl2 (SL.out _ hk3)).mono ?_
  rintro e w4 ⟨A4, c4, rfl, hown, hb4⟩
  have hk4 : Below wq.heap.size wq w4 := bstep hk3 hb4 hk3.size
  have HO4 := Lib.hid (HO3.out.below hb4)
  have HW4 := Lib.hid hown
  clear hown
  go_wp2_with fail
  refine (eqCts (l := D) (l' := D) (r := true) (decide_eq_true rfl) HN.out.symm HN.out.symm hD2 hD2 HO4.out.1 HW4.out.sl).mono ?_
  rintro e w5 ⟨rfl, hb5⟩
  have hk5 : Below wq.heap.size wq w5 := bstep hk4 hb5 hk4.size
  have HO := Lib.hid (HO4.out.below hb5)
  have SL5 := Lib.hid (fun W (h : Below w5.heap.size w5 W) => SL.out W (hk5.trans (h.mono hk5.size)))
  have OL5 := Lib.hid (fun W (h : Below w5.heap.size w5 W) => HO.out.1.below h)
  have HB5 := Lib.hid (HB.out.trans (hk5.mono HB.out.size))
  clear hb3 hb4 hb5 hk hk3 hk4 hk5 HO4 HO3 HW4 SL
  have hk : Below w5.heap.size w5 w5 := Below.refl _ _
  cases hv : vC l1
  · have HV := Lib.hid hv
    clear hv
    go_wp2_with fail
    refine (impl_VC HV.out rfl hl2 (SL5.out _ hk)).mono ?_
    rintro e w6 ⟨rfl, hb6⟩
    go_wp2_with fail
    refine (spec_Drop HD.out HN.out rfl hl2 (SL5.out _ hb6)).mono ?_
    rintro e w7 ⟨A7, c7, rfl, hown, hb7⟩
    have hb8 := bstep hb6 hb7 hb6.size
    go_wp2_with fail
    refine (eqCts (l := D) (l' := D) (r := true) (decide_eq_true rfl) HN.out.symm HN.out.symm hD2 hD2 (OL5.out _ hb8) hown.sl).mono ?_
    rintro e w9 ⟨rfl, hb9⟩
    have hb10 := bstep hb8 hb9 hb8.size
    go_wp2
    go_ret
    exact ⟨rfl, HB5.out.trans (hb10.mono HB5.out.size)⟩
  · have HV := Lib.hid hv
    clear hv
    go_wp2_with fail
    refine (impl_VC HV.out rfl hl2 (SL5.out _ hk)).mono ?_
    rintro e w6 ⟨rfl, hb6⟩
    have HVD := Lib.hid (show vC D = true by rw [← HD.out, (dropV_good HV.out).1]; exact (dropV_good HV.out).2)
    have HDC := Lib.hid (show dropC l1 p = D by rw [← HD.out, (dropV_good HV.out).1])
    obtain ⟨F, hF⟩ : ∃ F, dropC l1 1002 = F := ⟨_, rfl⟩
    obtain ⟨G, hG⟩ : ∃ G, dropC D 1002 = G := ⟨_, rfl⟩
    obtain ⟨f, hf⟩ : ∃ f, F.length = f := ⟨_, rfl⟩
    obtain ⟨g, hg⟩ : ∃ g, G.length = g := ⟨_, rfl⟩
    have hF2 : F.length ≤ 2000000 := by rw [← hF]; exact Nat.le_trans (dropC_sub _ _).length_le hl2
    have hG2 : G.length ≤ 2000000 := by rw [← hG]; exact Nat.le_trans (dropC_sub _ _).length_le hD2
    have h1 : dropV D p = D := by rw [(dropV_good HVD.out).1, ← HDC.out, dropC_twice]
    have h2 : dropV D 1002 = G := by rw [(dropV_good HVD.out).1, hG]
    have h3 : dropV l1 1002 = F := by rw [(dropV_good HV.out).1, hF]
    have h4 : dropV F p = G := by rw [(dropV_good (l := F) (by rw [← hF]; exact (dropV_good HV.out).2)).1, ← hF, dropC_comm, HDC.out, hG]
    have H1 := Lib.hid h1
    have H2 := Lib.hid h2
    have H3 := Lib.hid h3
    have H4 := Lib.hid h4
    have HF := Lib.hid hf
    have HG := Lib.hid hg
    clear h1 h2 h3 h4 hf hg hF hG
    go_wp2_with fail
    refine (Drop H1.out HN.out HN.out.symm hD2 (OL5.out _ hb6)).mono ?_
    rintro e w7 ⟨A7, rfl, ho7, hb7⟩
    have hk7 := bstep hb6 hb7 hb6.size
    have HO7 := Lib.hid ho7.1
    clear ho7
    go_wp2_with fail
    refine (eqCts (l := D) (l' := D) (r := true) (decide_eq_true rfl) HN.out.symm HN.out.symm hD2 hD2 HO7.out (OL5.out _ hk7)).mono ?_
    rintro e w8 ⟨rfl, hb8⟩
    have hk8 := bstep hk7 hb8 hk7.size
    go_wp2_with fail
    refine (Drop H2.out HG.out HN.out.symm hD2 (OL5.out _ hk8)).mono ?_
    rintro e w9 ⟨A9, rfl, ho9, hb9⟩
    have hk9 := bstep hk8 hb9 hk8.size
    have HO9 := Lib.hid ho9.1
    clear ho9
    go_wp2_with fail
    refine (Drop H3.out HF.out rfl hl2 (SL5.out _ hk9)).mono ?_
    rintro e w10 ⟨A10, rfl, ho10, hb10⟩
    have hk10 := bstep hk9 hb10 hk9.size
    have HO10 := Lib.hid ho10.1
    clear ho10
    go_wp2_with fail
    refine (Drop H4.out HG.out HF.out.symm hF2 HO10.out).mono ?_
    rintro e w11 ⟨A11, rfl, ho11, hb11⟩
    have hk11 := bstep hk10 hb11 hk10.size
    have HO11 := Lib.hid ho11.1
    clear ho11
    go_wp2_with fail
    refine (eqCts (l := G) (l' := G) (r := true) (decide_eq_true rfl) HG.out.symm HG.out.symm hG2 hG2 ((HO9.out.below hb10).below hb11) HO11.out).mono ?_
    rintro e w12 ⟨rfl, hb12⟩
    have hk12 := bstep hk11 hb12 hk11.size
    go_wp2
    go_ret
    exact ⟨rfl, HB5.out.trans (hk12.mono HB5.out.size)⟩
end Go.Proofs.Ytafmalklgecomaa
