/- The walk of FnValidTableTwice. -/
import Derived.Test.YtmnoooekppmkkaaMk
namespace Go.Proofs.Ytmnoooekppmkkaa
open Go.RowKit
set_option maxHeartbeats 4000000 in
theorem FnValidTableTwice_walk (A : Option Addr) (c : Nat) (l : List Int) (w : World) (hi : CodeIn w A c l) :
    Calls Try.prog 6 #[.slice A l.length c] w (Ret w (.bool true)) := by
  have hc := hi.1
  have hlc := hi.2.1.1
  unfold maxLen at hc
  have HI := Lib.hid hi
  clear hi
  by_cases hbig : 1048576 < l.length
  · go_enter Try.func6, Try.ntmps6
    go_wp2
    go_ret
    exact ⟨rfl, Below.refl _ _⟩
  go_enter Try.func6, Try.ntmps6
  go_wp2_with fail
  refine (DrawValidTable_ _ _ _ _ HI.out).mono ?_
  rintro e w2 ⟨A1, c1, l1, rfl, hl1, ho, hb⟩
  have SL := Lib.hid (fun W (h : Below w2.heap.size w2 W) => ho.sl.below h)
  have HB := Lib.hid hb
  have HO := Lib.hid ho
  have hk : Below w2.heap.size w2 w2 := Below.refl _ _
  have hl2 : l1.length ≤ 2000000 := by omega
  clear hb ho
  cases hv : vM l1
  · have HV := Lib.hid hv
    clear hv
    go_wp2_with (first | (go_at_call 25; (refine (impl_VT HV.out rfl hl2 (SL.out _ (by assumption))).mono ?_); rintro e w3 ⟨rfl, hb3⟩; have hk3 : Below w2.heap.size w2 w3 := bstep (by assumption) hb3 (Below.size (by assumption))) | (go_at_call 26; (refine (spec_VT HV.out rfl hl2 (SL.out _ (by assumption))).mono ?_); rintro e w3 ⟨rfl, hb3⟩; have hk3 : Below w2.heap.size w2 w3 := bstep (by assumption) hb3 (Below.size (by assumption))))
    go_ret
    exact ⟨rfl, HB.out.trans (Below.mono (by assumption) HB.out.size)⟩
  by_cases h0 : l1 = []
  · subst h0
    have HV := Lib.hid hv
    clear hv
    go_wp2_with (first | (go_at_call 25; (refine (impl_VT HV.out rfl hl2 (SL.out _ (by assumption))).mono ?_); rintro e w3 ⟨rfl, hb3⟩; have hk3 : Below w2.heap.size w2 w3 := bstep (by assumption) hb3 (Below.size (by assumption))) | (go_at_call 26; (refine (spec_VT HV.out rfl hl2 (SL.out _ (by assumption))).mono ?_); rintro e w3 ⟨rfl, hb3⟩; have hk3 : Below w2.heap.size w2 w3 := bstep (by assumption) hb3 (Below.size (by assumption))))
    go_ret
    exact ⟨rfl, HB.out.trans (Below.mono (by assumption) HB.out.size)⟩
  obtain ⟨x, l', rfl⟩ := List.exists_cons_of_ne_nil h0
  have HV := Lib.hid hv
  have hl0 : 0 < (x :: l').length := by simp
  clear hv h0
  go_wp2_with (first | (go_at_call 25; (refine (impl_VT HV.out rfl hl2 (SL.out _ (by assumption))).mono ?_); rintro e w3 ⟨rfl, hb3⟩; have hk3 : Below w2.heap.size w2 w3 := bstep (by assumption) hb3 (Below.size (by assumption))) | (go_at_call 26; (refine (spec_VT HV.out rfl hl2 (SL.out _ (by assumption))).mono ?_); rintro e w3 ⟨rfl, hb3⟩; have hk3 : Below w2.heap.size w2 w3 := bstep (by assumption) hb3 (Below.size (by assumption))))
  obtain ⟨g, rfl, _, hlc1, hcm1, hbl⟩ := HO.out.resolve_left (by rintro ⟨_, _, h⟩; cases h)
  obtain ⟨a, q, p, t⟩ := x
  have X0 := Lib.hid (fun W (h : Below w2.heap.size w2 W) => (hbl.below h hbl.lt).mt4)
  have V2 := Lib.hid (vM_again (l := ⟨a, q, p, t⟩ :: l') (x := ⟨a, q, p, t⟩) rfl)
  have hl12 : l'.length ≤ 9 := by simpa using hl1
  clear hbl hlc1 hcm1
  have L2 := Lib.hid (show (((⟨a, q, p, t⟩ : Mp) :: l') ++ [(⟨a, q, p, t⟩ : Mp)] : List Mp).length ≤ 2000000 by simp; omega)
  have e0 : ∀ W, Below w2.heap.size w2 W → W.cell? ⟨g, 0, none⟩ = some (.int .i64 a) := fun W h => (X0.out W h).1.1
  have e1 : ∀ W, Below w2.heap.size w2 W → W.cell? ⟨g, 1, none⟩ = some (.int .i64 q) := fun W h => (X0.out W h).1.2.1
  have e2 : ∀ W, Below w2.heap.size w2 W → W.cell? ⟨g, 2, none⟩ = some (.int .i64 p) := fun W h => (X0.out W h).1.2.2.1
  have e3 : ∀ W, Below w2.heap.size w2 W → W.cell? ⟨g, 3, none⟩ = some (.int .i64 t) := fun W h => (X0.out W h).1.2.2.2
  go_region_held3 (fun W => Below w2.heap.size w2 W) (first | exact (Below.drew hk3) | assumption | (refine Below.alloc (by assumption) ?_ _; exact Below.size (by assumption))) (first | (go_at_call 25; (with_reducible refine (impl_VT V2.out ?_ L2.out hownd.sl).mono ?_); (focus first | rfl | (simp; done) | (simp; omega)); rintro e w9 ⟨rfl, hb9⟩; have hk9 : Below w2.heap.size w2 w9 := bstep (by assumption) hb9 (Below.size (by assumption))) | (refine step_app elM rfl (.tmp 29) (.tmp 30) rfl w2.heap.size _ _ _ (([] : List Mp)) rfl (by first | (simp; done) | (simp; omega)) (by first | exact Ow.empty _ (Below.size (by assumption)) | exact (Ow.empty _ (Below.size (by assumption))).alloc _ | exact empty_two (Nat.le_succ_of_le (Below.size (by assumption)))) _ _ _ ((⟨a, q, p, t⟩ :: l')) rfl (by first | (simp; done) | (simp; omega)) (by exact SL.out _ (by assumption)) (by simp; omega) (by decide) (Below.size (by assumption)) ?_; intro Ac cc wc hownc hgc _; have hkc : Below w2.heap.size w2 wc := below_app (by assumption) hgc (Below.size (by assumption)) (by intro g' hg'; simp [blk] at hg'; subst hg'; first | exact Below.size (by assumption) | exact Nat.le_succ_of_le (Below.size (by assumption)))) | (refine step_app elM rfl (.tmp 31) (.tmp 35) rfl w2.heap.size _ _ _ ([] ++ (⟨a, q, p, t⟩ :: l')) rfl (by first | (simp; done) | (simp; omega)) (by first | exact hownc | exact hownc.alloc _) _ _ _ ([⟨a, q, p, t⟩]) rfl (by first | (simp; done) | (simp; omega)) (by first | exact (blM _ a q p t).sl | exact blM_after hgc rfl | exact blM_before hgc rfl | exact blM_after (grown_undrew hgc) rfl | exact blM_before (grown_undrew hgc) rfl) (by simp; omega) (by decide) (Below.size (by assumption)) ?_; intro Ad cd wd hownd hgd _; have hkd : Below w2.heap.size w2 wd := below_app (by assumption) hgd (Below.size (by assumption)) (by exact fun g' hg' => (hownc.blk g' hg').1)))
  all_goals
    go_wp2
    go_ret
    exact ⟨rfl, HB.out.trans (Below.mono (by assumption) HB.out.size)⟩
end Go.Proofs.Ytmnoooekppmkkaa
