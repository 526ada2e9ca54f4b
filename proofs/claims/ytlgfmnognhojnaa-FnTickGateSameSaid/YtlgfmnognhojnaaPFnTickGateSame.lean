/- FnTickGateSame returns true for every input, and what came in reads as it did.
   No condition. -/
import Derived.Test.YtlgfmnognhojnaaLawTickGateSame
import Derived.Test.YtlgfmnognhojnaaOpen
import Derived.Test.YtlgfmnognhojnaaCy
namespace Go.Proofs.Ytlgfmnognhojnaa
open Go.ChangeShapes Go.WideShapes Go.ChangeAt Go.RowKit
set_option maxRecDepth 100000 in
theorem FnTickGateSame_lifted (os : Os) (started : os.Started) (H : Type) (enc : TypeId × Value → H) :
    ReturnsInHanded {} Try.checked os 5 .any (Rows.fnTickGateSameSpec.pre6 enc Try.prog Try.f5 Rows.fnTickGateSameRow.domain false) (Rows.fnTickGateSameSpec.post enc Try.prog Try.f5 false true false false) := by
  refine returnsInHanded_of_change (C := Try.checked) own started (by kernel_rfl) Try.func5
    (ChangeSpec.witness6 (enc := enc) (C := Try.checked) false ⟨#[], #[.slice none 0 0], []⟩ 8 (by kernel_rfl) (by kernel_rfl) (by kernel_rfl) (by kernel_rfl)) ?_
  intro W base args ds gs before hval0 hW hcnd _
  have hval : ∀ (j : Nat) t v, Try.f5.params[j]? = some t → args[j]? = some v → Value.okWide Try.prog W .any base t v := hval0
  have hW' := hW
  obtain ⟨p, q, hA0, hV, rfl, hfz, hnd⟩ := hW
  have hA : DataW.TrodAll enc Try.prog W 0 (fun _ => true) true Try.f5.params.toList args.toList ds p := hA0
  rw [Try.params5] at hA hval
  obtain ⟨v0, vs0, d0, ds0, p0, q0, hargs, rfl, rfl, h0, r0⟩ := trodAll_cons hA
  obtain ⟨rfl, rfl, rfl⟩ := trodAll_nil r0
  obtain rfl : args = #[v0] := by cases args; simp_all
  obtain ⟨rfl, rfl⟩ := trodVars_none hV
  have k0 := h0
  have lt0 : ∀ x ∈ p0, x.block < W.heap.size := by obtain ⟨m, hm⟩ := k0; exact DataW.trod_lt m _ _ _ hm
  obtain ⟨A0, n0, c0, rfl⟩ := okWide_slice Try.underlying22 (hval 0 22 v0 rfl rfl)
  obtain ⟨fu0, hf0⟩ := h0
  obtain ⟨hm0, l0, rfl, s0⟩ := slice_bytes hf0
  clear hA0 hval0
  refine (FnTickGateSame_walk A0 c0 l0 W s0).mono fun e W' ⟨he, bel⟩ => ?_
  subst he
  exact ⟨_, rfl, _, _, _, [], _, [], hW', trodAll_mk1 (shut_bool Try.underlying4 _), (trodAll_cons_mk (Below.trod laidOut (by kernel_rfl) (of_decide_eq_true (by kernel_rfl)) k0 bel lt0) trodAll_mk0), (rfl : ([] : List MemPlace) = []), bel.frame _, fun h => by cases h⟩
theorem FnTickGateSame_facts : joinedFacts Try.pinned.checked.prog 5 Try.f5 Rows.fnTickGateSameSpec Rows.fnTickGateSameRow = true := by
  unfold joinedFacts
  rw [show Try.pinned.checked.prog = Try.prog from rfl, no_round, may_enter, lifts_final, make_cut]
  kernel_rfl
theorem FnTickGateSame_over : Rows.fnTickGateSameRow.holds Try.pinned (OpenSpec.ofChange Rows.fnTickGateSameSpec) :=
  OpenClaim.holds_of_wide 5 Try.f5 rfl rfl rfl rfl rfl rfl rfl ⟨rfl, rfl, rfl, rfl, rfl⟩ rfl rfl rfl rfl rfl (by kernel_rfl) Try.func5 FnTickGateSame_facts
    (of_decide_eq_true (by kernel_rfl)) (by unfold Func.isWrapper; first | (rw [if_pos (by decide +kernel)]; kernel_rfl) | (rw [if_neg (by decide +kernel)]; exact ⟨rfl, rfl⟩))
    (fun os started H enc _ => FnTickGateSame_lifted os started H enc)
theorem FnTickGateSame_proved : Rows.FnTickGateSameSaid := FnTickGateSame_over
#print axioms FnTickGateSame_proved
end Go.Proofs.Ytlgfmnognhojnaa
