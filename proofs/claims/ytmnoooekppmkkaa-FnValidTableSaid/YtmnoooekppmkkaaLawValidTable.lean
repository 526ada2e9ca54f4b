/- The walk of FnValidTable. -/
import Derived.Test.YtmnoooekppmkkaaMk
namespace Go.Proofs.Ytmnoooekppmkkaa
open Go.RowKit
set_option maxHeartbeats 4000000 in
theorem FnValidTable_walk (A : Option Addr) (c : Nat) (l : List Int) (w : World) (hi : CodeIn w A c l) :
    Calls Try.prog 5 #[.slice A l.length c] w (Ret w (.bool true)) := by
  have hc := hi.1
  have hlc := hi.2.1.1
  unfold maxLen at hc
  have HI := Lib.hid hi
  clear hi
  by_cases hbig : 1048576 < l.length
  · go_enter Try.func5, Try.ntmps5
    go_wp2
    go_ret
    exact ⟨rfl, Below.refl _ _⟩
  go_enter Try.func5, Try.ntmps5
  go_wp2_with fail
  refine (DrawValidTable_ _ _ _ _ HI.out).mono ?_
  rintro e w2 ⟨A1, c1, l1, rfl, hl1, ho, hb⟩
  have SL := Lib.hid (fun W (h : Below w2.heap.size w2 W) => ho.sl.below h)
  have HB := Lib.hid hb
  have HO := Lib.hid ho
  have hk : Below w2.heap.size w2 w2 := Below.refl _ _
  have hl2 : l1.length ≤ 2000000 := by omega
  clear hb ho
  cases hv : vM l1
  · have HV := Lib.hid hv
    clear hv
    go_wp2_with (first | (go_at_call 25; (refine (impl_VT HV.out rfl hl2 (SL.out _ (by assumption))).mono ?_); rintro e w3 ⟨rfl, hb3⟩; have hk3 : Below w2.heap.size w2 w3 := bstep (by assumption) hb3 (Below.size (by assumption))) | (go_at_call 26; (refine (spec_VT HV.out rfl hl2 (SL.out _ (by assumption))).mono ?_); rintro e w3 ⟨rfl, hb3⟩; have hk3 : Below w2.heap.size w2 w3 := bstep (by assumption) hb3 (Below.size (by assumption))))
    go_ret
    exact ⟨rfl, HB.out.trans (Below.mono (by assumption) HB.out.size)⟩
  by_cases h0 : l1 = []
  · subst h0
    have HV := Lib.hid hv
    clear hv
    go_wp2_with (first | (go_at_call 25; (refine (impl_VT HV.out rfl hl2 (SL.out _ (by assumption))).mono ?_); rintro e w3 ⟨rfl, hb3⟩; have hk3 : Below w2.heap.size w2 w3 := bstep (by assumption) hb3 (Below.size (by assumption))) | (go_at_call 26; (refine (spec_VT HV.out rfl hl2 (SL.out _ (by assumption))).mono ?_); rintro e w3 ⟨rfl, hb3⟩; have hk3 : Below w2.heap.size w2 w3 := bstep (by assumption) hb3 (Below.size (by assumption))))
    go_ret
    exact ⟨rfl, HB.out.trans (Below.mono (by assumption) HB.out.size)⟩
  obtain ⟨x, l', rfl⟩ := List.exists_cons_of_ne_nil h0
  have HV := Lib.hid hv
  have hl0 : 0 < (x :: l').length := by simp
  clear hv h0
  go_wp2_with (first | (go_at_call 25; (refine (impl_VT HV.out rfl hl2 (SL.out _ (by assumption))).mono ?_); rintro e w3 ⟨rfl, hb3⟩; have hk3 : Below w2.heap.size w2 w3 := bstep (by assumption) hb3 (Below.size (by assumption))) | (go_at_call 26; (refine (spec_VT HV.out rfl hl2 (SL.out _ (by assumption))).mono ?_); rintro e w3 ⟨rfl, hb3⟩; have hk3 : Below w2.heap.size w2 w3 := bstep (by assumption) hb3 (Below.size (by assumption))))
  obtain ⟨k, hk0, hk1⟩ : ∃ k : Nat, (l.length : Int) % ((l'.length : Int) + 1) = (k : Int) ∧ k < l'.length + 1 := ⟨l.length % (l'.length + 1), by simp, Nat.mod_lt _ (by omega)⟩
  rw [hk0]
  obtain ⟨g, rfl, _, hlc1, hcm1, hbl⟩ := HO.out.resolve_left (by rintro ⟨_, _, h⟩; cases h)
  have hlc2 : l'.length + 1 ≤ c1 := by simpa using hlc1
  obtain ⟨a, q, p, t⟩ := x
  have V1 := Lib.hid (vM_cut HV.out k)
  have SD : Hid (∀ W, Below w2.heap.size w2 W → Sl encM 4 W (if c1 = k + 1 then some ⟨g, 0, none⟩ else some ⟨g, (k + 1) * 4, none⟩) (c1 - (k + 1)) ((⟨a, q, p, t⟩ :: l').drop (k + 1))) := Lib.hid (fun W h => by
    have := (SL.out W h).drop (k + 1) (by simp; omega)
    simpa [Addr.add] using this)
  have hm1 : c1 ≤ 9223372036854775807 := by unfold maxLen at hcm1; omega
  have hl12 : l'.length ≤ 9 := by simpa using hl1
  have b1 : (0 : Int) ≤ (k : Int) := by omega
  have b2 : (k : Int) ≤ (c1 : Int) := by omega
  have b3 : (k : Int) + 1 ≤ (l'.length : Int) + 1 := by omega
  have b4 : (k : Int) + 1 ≤ (c1 : Int) := by omega
  have b5 : (0 : Int) ≤ (k : Int) + 1 := by omega
  clear hk0 hbl hlc1 hcm1
  have L1 := Lib.hid (show (((⟨a, q, p, t⟩ : Mp) :: l').take k ++ ((⟨a, q, p, t⟩ : Mp) :: l').drop (k + 1)).length ≤ 2000000 by simp; omega)
  by_cases hck : c1 = k + 1
  · obtain rfl : k = l'.length := by omega
    subst hck
    have q1 : IntKind.i64.wrap ((l'.length : Int) + 1) = (l'.length : Int) + 1 := IntWalk.i64_in _ (by omega)
    have q2 : ((l'.length : Int) + 1).toNat = l'.length + 1 := by omega
    have q3 : ((l'.length : Int)).toNat = l'.length := by omega
    have t1 : (0 : Int) ≤ (l'.length : Int) := by omega
    have t2 : (l'.length : Int) ≤ (l'.length : Int) + 1 := by omega
    have hdrop : Hid ((((⟨a, q, p, t⟩ : Mp) :: l').drop (l'.length + 1)) = []) := Lib.hid (List.drop_of_length_le (by simp))
    go_region_held3 (fun W => Below w2.heap.size w2 W) (first | exact (Below.drew hk3) | assumption | (refine Below.alloc (by assumption) ?_ _; exact Below.size (by assumption))) (first | (go_at_call 25; (with_reducible refine (impl_VT V1.out ?_ L1.out hownb.sl).mono ?_); (focus first | rfl | (simp; done) | (simp; omega)); rintro e w9 ⟨rfl, hb9⟩; have hk9 : Below w2.heap.size w2 w9 := bstep (by assumption) hb9 (Below.size (by assumption))) | (go_at_call 25; (with_reducible refine (impl_VT (A := none) (c := 0) (n := 0) (l := []) vM_nil (List.length_nil).symm (Nat.zero_le _) Sl.nil).mono ?_); rintro e w9 ⟨rfl, hb9⟩; have hk9 : Below w2.heap.size w2 w9 := bstep (by assumption) hb9 (Below.size (by assumption))) | (refine step_app elM rfl (.tmp 35) (.tmp 38) rfl w2.heap.size _ _ _ (([] : List Mp)) rfl (by first | (simp; done) | (simp; omega)) (by first | exact Ow.empty _ (Below.size (by assumption)) | exact (Ow.empty _ (Below.size (by assumption))).alloc _ | exact empty_two (Nat.le_succ_of_le (Below.size (by assumption)))) _ _ _ ((⟨a, q, p, t⟩ :: l').take l'.length) rfl (by first | (simp; done) | (simp; omega)) (by exact (SL.out _ (by assumption)).take l'.length) (by simp; omega) (by decide) (Below.size (by assumption)) ?_; intro Aa ca wa howna hga _; have hka : Below w2.heap.size w2 wa := below_app (by assumption) hga (Below.size (by assumption)) (by intro g' hg'; simp [blk] at hg'; subst hg'; first | exact Below.size (by assumption) | exact Nat.le_succ_of_le (Below.size (by assumption)))) | (refine step_app elM rfl (.tmp 39) (.tmp 43) rfl w2.heap.size _ _ _ ([] ++ (⟨a, q, p, t⟩ :: l').take l'.length) rfl (by first | (simp; done) | (simp; omega)) (by exact howna) _ _ _ ((⟨a, q, p, t⟩ :: l').drop (l'.length + 1)) rfl (by first | (simp; done) | (simp; omega)) (by rw [hdrop.out]; exact Sl.nil) (by simp; omega) (by decide) (Below.size (by assumption)) ?_; intro Ab cb wb hownb hgb _; have hkb : Below w2.heap.size w2 wb := below_app (by assumption) hgb (Below.size (by assumption)) (by exact fun g' hg' => (howna.blk g' hg').1)))
    all_goals
      go_wp2
      go_ret
      exact ⟨rfl, HB.out.trans (Below.mono (by assumption) HB.out.size)⟩
  · have hck' : k + 1 < c1 := by omega
    have SD2 : Hid (∀ W, Below w2.heap.size w2 W → Sl encM 4 W (some ⟨g, (k + 1) * 4, none⟩) (c1 - (k + 1)) ((⟨a, q, p, t⟩ :: l').drop (k + 1))) := Lib.hid (fun W h => by
      have := SD.out W h
      rwa [if_neg hck] at this)
    clear SD
    have q1 : IntKind.i64.wrap ((k : Int) + 1) = (k : Int) + 1 := IntWalk.i64_in _ (by omega)
    have q2 : ((k : Int) + 1).toNat = k + 1 := by omega
    have q3 : ((k : Int)).toNat = k := by omega
    go_region_held3 (fun W => Below w2.heap.size w2 W) (first | exact (Below.drew hk3) | assumption | (refine Below.alloc (by assumption) ?_ _; exact Below.size (by assumption))) (first | (go_at_call 25; (with_reducible refine (impl_VT V1.out ?_ L1.out hownb.sl).mono ?_); (focus first | rfl | (simp; done) | (simp; omega)); rintro e w9 ⟨rfl, hb9⟩; have hk9 : Below w2.heap.size w2 w9 := bstep (by assumption) hb9 (Below.size (by assumption))) | (go_at_call 25; (with_reducible refine (impl_VT (A := none) (c := 0) (n := 0) (l := []) vM_nil (List.length_nil).symm (Nat.zero_le _) Sl.nil).mono ?_); rintro e w9 ⟨rfl, hb9⟩; have hk9 : Below w2.heap.size w2 w9 := bstep (by assumption) hb9 (Below.size (by assumption))) | (refine step_app elM rfl (.tmp 35) (.tmp 38) rfl w2.heap.size _ _ _ (([] : List Mp)) rfl (by first | (simp; done) | (simp; omega)) (by first | exact Ow.empty _ (Below.size (by assumption)) | exact (Ow.empty _ (Below.size (by assumption))).alloc _ | exact empty_two (Nat.le_succ_of_le (Below.size (by assumption)))) _ _ _ ((⟨a, q, p, t⟩ :: l').take k) rfl (by first | (simp; done) | (simp; omega)) (by exact (SL.out _ (by assumption)).take k) (by simp; omega) (by decide) (Below.size (by assumption)) ?_; intro Aa ca wa howna hga _; have hka : Below w2.heap.size w2 wa := below_app (by assumption) hga (Below.size (by assumption)) (by intro g' hg'; simp [blk] at hg'; subst hg'; first | exact Below.size (by assumption) | exact Nat.le_succ_of_le (Below.size (by assumption)))) | (refine step_app elM rfl (.tmp 39) (.tmp 43) rfl w2.heap.size _ _ _ ([] ++ (⟨a, q, p, t⟩ :: l').take k) rfl (by first | (simp; done) | (simp; omega)) (by exact howna) _ _ _ ((⟨a, q, p, t⟩ :: l').drop (k + 1)) rfl (by first | (simp; done) | (simp; omega)) (by exact SD2.out _ (by assumption)) (by simp; omega) (by decide) (Below.size (by assumption)) ?_; intro Ab cb wb hownb hgb _; have hkb : Below w2.heap.size w2 wb := below_app (by assumption) hgb (Below.size (by assumption)) (by exact fun g' hg' => (howna.blk g' hg').1)))
    all_goals
      go_wp2
      go_ret
      exact ⟨rfl, HB.out.trans (Below.mono (by assumption) HB.out.size)⟩
end Go.Proofs.Ytmnoooekppmkkaa
