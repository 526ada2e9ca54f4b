/- The walk of FnValidContacts. -/
import Derived.Test.YtafmalklgecomaaCh
import Derived.IntWalk
namespace Go.Proofs.Ytafmalklgecomaa
open Go.RowKit
theorem impl_VC {A : Option Addr} {c n : Nat} {l : List Ct} {w : World} {r : Bool} (hr : vC l = r) (hn : n = l.length) (hl : l.length ≤ 2000000) (hs : Sl encC 3 w A c l) :
    Calls Try.prog 18 #[.slice A n c] w (Ret w (.bool r)) := by
  subst hn
  subst hr
  exact impl_ValidContacts A c l w hl hs
theorem empty_after {B : Nat} {w : World} {o : Obj} (hB : B ≤ w.heap.size) : Ow encC 3 29 B ((w.alloc o).alloc (.cells #[] 29)) (some ⟨w.heap.size + 1, 0, none⟩) 0 ([] : List Ct) := by
  have := Ow.empty (enc := encC) (k := 3) (e := 29) (B := B) (w.alloc o) (by rw [alloc_size]; omega)
  rw [alloc_size] at this
  exact this
theorem blC_after {w w' : World} {p a q : Int} {A : Option Addr} {o : Obj} (hg : ((w.alloc o).alloc (.cells #[.int .i64 p, .int .i64 a, .int .i64 q] 29)).grownBy w' (blk A)) (hA : blk A = some w.heap.size) : Sl encC 3 w' (some ⟨w.heap.size + 1, 0, none⟩) 1 [⟨p, a, q⟩] := by
  have := ((blC (w.alloc o) p a q).grown hg (by rw [hA, alloc_size]; simp)).sl
  rw [alloc_size] at this
  exact this
theorem blC_before {w w' : World} {p a q : Int} {A : Option Addr} {o : Obj} (hg : ((w.alloc (.cells #[.int .i64 p, .int .i64 a, .int .i64 q] 29)).alloc o).grownBy w' (blk A)) (hA : blk A = some (w.heap.size + 1)) : Sl encC 3 w' (some ⟨w.heap.size, 0, none⟩) 1 [⟨p, a, q⟩] :=
  (((blC w p a q).alloc o).grown hg (by rw [hA]; simp)).sl
set_option maxHeartbeats 4000000 in
theorem FnValidContacts_walk (A : Option Addr) (c : Nat) (l : List Int) (w : World) (hi : CodeIn w A c l) :
    Calls Try.prog 3 #[.slice A l.length c] w (Ret w (.bool true)) := by
  have hc := hi.1
  have hlc := hi.2.1.1
  unfold maxLen at hc
  have HI := Lib.hid hi
  clear hi
  by_cases hbig : 1048576 < l.length
  · go_enter Try.func3, Try.ntmps3
    go_wp2
    go_ret
    exact ⟨rfl, Below.refl _ _⟩
  go_enter Try.func3, Try.ntmps3
  go_wp2_with fail
  refine (DrawValidContacts_ _ _ _ _ HI.out).mono ?_
  rintro e w2 ⟨A1, c1, l1, rfl, hl1, ho, hb⟩
  have SL := Lib.hid (fun W (h : Below w2.heap.size w2 W) => ho.sl.below h)
  have HB := Lib.hid hb
  have HO := Lib.hid ho
  have hk : Below w2.heap.size w2 w2 := Below.refl _ _
  clear hb ho
  cases hv : vC l1
  · have HV := Lib.hid hv
    clear hv
    go_wp2_with (first | (go_at_call 18; refine (impl_ValidContacts _ _ _ _ (by omega) (SL.out _ (by assumption))).mono ?_; rintro e w3 ⟨rfl, hb3⟩; rw [HV.out]; have hk3 : Below w2.heap.size w2 w3 := bstep (by assumption) hb3 (Below.size (by assumption))) | (go_at_call 19; refine (spec_ValidContacts _ _ _ _ (by omega) (SL.out _ (by assumption))).mono ?_; rintro e w3 ⟨rfl, hb3⟩; rw [HV.out]; have hk3 : Below w2.heap.size w2 w3 := bstep (by assumption) hb3 (Below.size (by assumption))))
    go_ret
    exact ⟨rfl, HB.out.trans (Below.mono (by assumption) HB.out.size)⟩
  by_cases h0 : l1 = []
  · subst h0
    have HV := Lib.hid hv
    clear hv
    go_wp2_with (first | (go_at_call 18; refine (impl_VC HV.out rfl (by simp) (SL.out _ (by assumption))).mono ?_; rintro e w3 ⟨rfl, hb3⟩; have hk3 : Below w2.heap.size w2 w3 := bstep (by assumption) hb3 (Below.size (by assumption))) | (go_at_call 19; refine (spec_ValidContacts _ _ [] _ (by simp) (SL.out _ (by assumption))).mono ?_; rintro e w3 ⟨rfl, hb3⟩; rw [HV.out]; have hk3 : Below w2.heap.size w2 w3 := bstep (by assumption) hb3 (Below.size (by assumption))))
    go_ret
    exact ⟨rfl, HB.out.trans (Below.mono (by assumption) HB.out.size)⟩
  obtain ⟨x, l', rfl⟩ := List.exists_cons_of_ne_nil h0
  have HV := Lib.hid hv
  have hl0 : 0 < (x :: l').length := by simp
  clear hv h0
  go_wp2_with (first | (go_at_call 18; refine (impl_VC HV.out rfl (by omega) (SL.out _ (by assumption))).mono ?_; rintro e w3 ⟨rfl, hb3⟩; have hk3 : Below w2.heap.size w2 w3 := bstep (by assumption) hb3 (Below.size (by assumption))) | (go_at_call 19; refine (spec_ValidContacts _ _ (x :: l') _ (by omega) (SL.out _ (by assumption))).mono ?_; rintro e w3 ⟨rfl, hb3⟩; rw [HV.out]; have hk3 : Below w2.heap.size w2 w3 := bstep (by assumption) hb3 (Below.size (by assumption))))
  obtain ⟨k, hk0, hk1⟩ : ∃ k : Nat, (l.length : Int) % ((l'.length : Int) + 1) = (k : Int) ∧ k < l'.length + 1 := ⟨l.length % (l'.length + 1), by simp, Nat.mod_lt _ (by omega)⟩
  rw [hk0]
  obtain ⟨g, rfl, _, hlc1, hcm1, hbl⟩ := HO.out.resolve_left (by rintro ⟨_, _, h⟩; cases h)
  have hlc2 : l'.length + 1 ≤ c1 := by simpa using hlc1
  obtain ⟨p, a, q⟩ := x
  have X0 := Lib.hid (fun W (h : Below w2.heap.size w2 W) => (hbl.below h hbl.lt).ct3)
  have V1 := Lib.hid (vC_cut HV.out k)
  have V2 := Lib.hid (vC_again (l := ⟨p, a, q⟩ :: l') (x := ⟨p, a, q⟩) rfl)
  have SD : Hid (∀ W, Below w2.heap.size w2 W → Sl encC 3 W (if c1 = k + 1 then some ⟨g, 0, none⟩ else some ⟨g, (k + 1) * 3, none⟩) (c1 - (k + 1)) ((⟨p, a, q⟩ :: l').drop (k + 1))) := Lib.hid (fun W h => by
    have := (SL.out W h).drop (k + 1) (by simp; omega)
    simpa [Addr.add] using this)
  have hm1 : c1 ≤ 9223372036854775807 := by unfold maxLen at hcm1; omega
  have hl12 : l'.length ≤ 11 := by simpa using hl1
  have b1 : (0 : Int) ≤ (k : Int) := by omega
  have b2 : (k : Int) ≤ (c1 : Int) := by omega
  have b3 : (k : Int) + 1 ≤ (l'.length : Int) + 1 := by omega
  have b4 : (k : Int) + 1 ≤ (c1 : Int) := by omega
  have b5 : (0 : Int) ≤ (k : Int) + 1 := by omega
  clear hk0 hbl hlc1 hcm1
  have e0 : ∀ W, Below w2.heap.size w2 W → W.cell? ⟨g, 0, none⟩ = some (.int .i64 p) := fun W h => (X0.out W h).1.1
  have e1 : ∀ W, Below w2.heap.size w2 W → W.cell? ⟨g, 1, none⟩ = some (.int .i64 a) := fun W h => (X0.out W h).1.2.1
  have e2 : ∀ W, Below w2.heap.size w2 W → W.cell? ⟨g, 2, none⟩ = some (.int .i64 q) := fun W h => (X0.out W h).1.2.2
  have L1 := Lib.hid (show (((⟨p, a, q⟩ : Ct) :: l').take k ++ ((⟨p, a, q⟩ : Ct) :: l').drop (k + 1)).length ≤ 2000000 by simp; omega)
  have L2 := Lib.hid (show (((⟨p, a, q⟩ : Ct) :: l') ++ [(⟨p, a, q⟩ : Ct)] : List Ct).length ≤ 2000000 by simp; omega)
  by_cases hck : c1 = k + 1
  · obtain rfl : k = l'.length := by omega
    subst hck
    have q1 : IntKind.i64.wrap ((l'.length : Int) + 1) = (l'.length : Int) + 1 := IntWalk.i64_in _ (by omega)
    have q2 : ((l'.length : Int) + 1).toNat = l'.length + 1 := by omega
    have q3 : ((l'.length : Int)).toNat = l'.length := by omega
    have t1 : (0 : Int) ≤ (l'.length : Int) := by omega
    have t2 : (l'.length : Int) ≤ (l'.length : Int) + 1 := by omega
    have hdrop : Hid ((((⟨p, a, q⟩ : Ct) :: l').drop (l'.length + 1)) = []) := Lib.hid (List.drop_of_length_le (by simp))
    go_region_held3 (fun W => Below w2.heap.size w2 W) (first | exact (Below.drew hk3) | assumption | (refine Below.alloc (by assumption) ?_ _; exact Below.size (by assumption))) (first | (go_at_call 18; refine (impl_VC V2.out ?_ L2.out hownd.sl).mono ?_; (focus (first | rfl | (simp; done) | (simp; omega))); rintro e w9 ⟨rfl, hb9⟩; have hk9 : Below w2.heap.size w2 w9 := bstep (by assumption) hb9 (Below.size (by assumption))) | (go_at_call 18; refine (impl_VC V1.out ?_ L1.out hownb.sl).mono ?_; (focus (first | rfl | (simp; done) | (simp; omega))); rintro e w9 ⟨rfl, hb9⟩; have hk9 : Below w2.heap.size w2 w9 := bstep (by assumption) hb9 (Below.size (by assumption))) | (refine step_app elC rfl (.tmp 35) (.tmp 38) rfl w2.heap.size _ _ _ (([] : List Ct)) rfl (by first | (simp; done) | (simp; omega)) (by first | exact Ow.empty _ (Below.size (by assumption)) | exact (Ow.empty _ (Below.size (by assumption))).alloc _ | exact empty_after (Below.size (by assumption))) _ _ _ ((⟨p, a, q⟩ :: l').take l'.length) rfl (by first | (simp; done) | (simp; omega)) (by exact (SL.out _ (by assumption)).take l'.length) (by simp; omega) (by decide) (Below.size (by assumption)) ?_; intro Aa ca wa howna hga _; have hka : Below w2.heap.size w2 wa := below_app (by assumption) hga (Below.size (by assumption)) (by intro g' hg'; simp [blk] at hg'; subst hg'; first | exact Below.size (by assumption) | exact Nat.le_succ_of_le (Below.size (by assumption)))) | (refine step_app elC rfl (.tmp 39) (.tmp 43) rfl w2.heap.size _ _ _ ([] ++ (⟨p, a, q⟩ :: l').take l'.length) rfl (by first | (simp; done) | (simp; omega)) (by exact howna) _ _ _ ((⟨p, a, q⟩ :: l').drop (l'.length + 1)) rfl (by first | (simp; done) | (simp; omega)) (by rw [hdrop.out]; exact Sl.nil) (by simp; omega) (by decide) (Below.size (by assumption)) ?_; intro Ab cb wb hownb hgb _; have hkb : Below w2.heap.size w2 wb := below_app (by assumption) hgb (Below.size (by assumption)) (by exact fun g' hg' => (howna.blk g' hg').1)) | (refine step_app elC rfl (.tmp 47) (.tmp 48) rfl w2.heap.size _ _ _ (([] : List Ct)) rfl (by first | (simp; done) | (simp; omega)) (by first | exact Ow.empty _ (Below.size (by assumption)) | exact (Ow.empty _ (Below.size (by assumption))).alloc _ | exact empty_after (Below.size (by assumption))) _ _ _ ((⟨p, a, q⟩ :: l')) rfl (by first | (simp; done) | (simp; omega)) (by exact SL.out _ (by assumption)) (by simp; omega) (by decide) (Below.size (by assumption)) ?_; intro Ac cc wc hownc hgc _; have hkc : Below w2.heap.size w2 wc := below_app (by assumption) hgc (Below.size (by assumption)) (by intro g' hg'; simp [blk] at hg'; subst hg'; first | exact Below.size (by assumption) | exact Nat.le_succ_of_le (Below.size (by assumption)))) | (refine step_app elC rfl (.tmp 49) (.tmp 53) rfl w2.heap.size _ _ _ ([] ++ (⟨p, a, q⟩ :: l')) rfl (by first | (simp; done) | (simp; omega)) (by first | exact hownc | exact hownc.alloc _) _ _ _ ([⟨p, a, q⟩]) rfl (by first | (simp; done) | (simp; omega)) (by first | exact (blC _ p a q).sl | exact blC_after hgc rfl | exact blC_before hgc rfl) (by simp; omega) (by decide) (Below.size (by assumption)) ?_; intro Ad cd wd hownd hgd _; have hkd : Below w2.heap.size w2 wd := below_app (by assumption) hgd (Below.size (by assumption)) (by exact fun g' hg' => (hownc.blk g' hg').1)))
    all_goals
      go_wp2
      go_ret
      exact ⟨rfl, HB.out.trans (Below.mono (by assumption) HB.out.size)⟩
  · have hck' : k + 1 < c1 := by omega
    have SD2 : Hid (∀ W, Below w2.heap.size w2 W → Sl encC 3 W (some ⟨g, (k + 1) * 3, none⟩) (c1 - (k + 1)) ((⟨p, a, q⟩ :: l').drop (k + 1))) := Lib.hid (fun W h => by
      have := SD.out W h
      rwa [if_neg hck] at this)
    clear SD
    have q1 : IntKind.i64.wrap ((k : Int) + 1) = (k : Int) + 1 := IntWalk.i64_in _ (by omega)
    have q2 : ((k : Int) + 1).toNat = k + 1 := by omega
    have q3 : ((k : Int)).toNat = k := by omega
    go_region_held3 (fun W => Below w2.heap.size w2 W) (first | exact (Below.drew hk3) | assumption | (refine Below.alloc (by assumption) ?_ _; exact Below.size (by assumption))) (first | (go_at_call 18; refine (impl_VC V2.out ?_ L2.out hownd.sl).mono ?_; (focus (first | rfl | (simp; done) | (simp; omega))); rintro e w9 ⟨rfl, hb9⟩; have hk9 : Below w2.heap.size w2 w9 := bstep (by assumption) hb9 (Below.size (by assumption))) | (go_at_call 18; refine (impl_VC V1.out ?_ L1.out hownb.sl).mono ?_; (focus (first | rfl | (simp; done) | (simp; omega))); rintro e w9 ⟨rfl, hb9⟩; have hk9 : Below w2.heap.size w2 w9 := bstep (by assumption) hb9 (Below.size (by assumption))) | (refine step_app elC rfl (.tmp 35) (.tmp 38) rfl w2.heap.size _ _ _ (([] : List Ct)) rfl (by first | (simp; done) | (simp; omega)) (by first | exact Ow.empty _ (Below.size (by assumption)) | exact (Ow.empty _ (Below.size (by assumption))).alloc _ | exact empty_after (Below.size (by assumption))) _ _ _ ((⟨p, a, q⟩ :: l').take k) rfl (by first | (simp; done) | (simp; omega)) (by exact (SL.out _ (by assumption)).take k) (by simp; omega) (by decide) (Below.size (by assumption)) ?_; intro Aa ca wa howna hga _; have hka : Below w2.heap.size w2 wa := below_app (by assumption) hga (Below.size (by assumption)) (by intro g' hg'; simp [blk] at hg'; subst hg'; first | exact Below.size (by assumption) | exact Nat.le_succ_of_le (Below.size (by assumption)))) | (refine step_app elC rfl (.tmp 39) (.tmp 43) rfl w2.heap.size _ _ _ ([] ++ (⟨p, a, q⟩ :: l').take k) rfl (by first | (simp; done) | (simp; omega)) (by exact howna) _ _ _ ((⟨p, a, q⟩ :: l').drop (k + 1)) rfl (by first | (simp; done) | (simp; omega)) (by exact SD2.out _ (by assumption)) (by simp; omega) (by decide) (Below.size (by assumption)) ?_; intro Ab cb wb hownb hgb _; have hkb : Below w2.heap.size w2 wb := below_app (by assumption) hgb (Below.size (by assumption)) (by exact fun g' hg' => (howna.blk g' hg').1)) | (refine step_app elC rfl (.tmp 47) (.tmp 48) rfl w2.heap.size _ _ _ (([] : List Ct)) rfl (by first | (simp; done) | (simp; omega)) (by first | exact Ow.empty _ (Below.size (by assumption)) | exact (Ow.empty _ (Below.size (by assumption))).alloc _ | exact empty_after (Below.size (by assumption))) _ _ _ ((⟨p, a, q⟩ :: l')) rfl (by first | (simp; done) | (simp; omega)) (by exact SL.out _ (by assumption)) (by simp; omega) (by decide) (Below.size (by assumption)) ?_; intro Ac cc wc hownc hgc _; have hkc : Below w2.heap.size w2 wc := below_app (by assumption) hgc (Below.size (by assumption)) (by intro g' hg'; simp [blk] at hg'; subst hg'; first | exact Below.size (by assumption) | exact Nat.le_succ_of_le (Below.size (by assumption)))) | (refine step_app elC rfl (.tmp 49) (.tmp 53) rfl w2.heap.size _ _ _ ([] ++ (⟨p, a, q⟩ :: l')) rfl (by first | (simp; done) | (simp; omega)) (by first | exact hownc | exact hownc.alloc _) _ _ _ ([⟨p, a, q⟩]) rfl (by first | (simp; done) | (simp; omega)) (by first | exact (blC _ p a q).sl | exact blC_after hgc rfl | exact blC_before hgc rfl) (by simp; omega) (by decide) (Below.size (by assumption)) ?_; intro Ad cd wd hownd hgd _; have hkd : Below w2.heap.size w2 wd := below_app (by assumption) hgd (Below.size (by assumption)) (by exact fun g' hg' => (hownc.blk g' hg').1)))
    all_goals
      go_wp2
      go_ret
      exact ⟨rfl, HB.out.trans (Below.mono (by assumption) HB.out.size)⟩
end Go.Proofs.Ytafmalklgecomaa
