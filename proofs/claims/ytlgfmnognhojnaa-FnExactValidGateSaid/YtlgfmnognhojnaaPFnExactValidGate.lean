/- FnExactValidGate returns true for every input, and what came in reads as it did.
   No condition. -/
import Derived.Test.YtlgfmnognhojnaaLawExactValidGate
import Derived.Test.YtlgfmnognhojnaaOpen
import Derived.Test.YtlgfmnognhojnaaCy
namespace Go.Proofs.Ytlgfmnognhojnaa
open Go.ChangeShapes Go.WideShapes Go.ChangeAt Go.RowKit
set_option maxRecDepth 100000 in
theorem FnExactValidGate_lifted (os : Os) (started : os.Started) (H : Type) (enc : TypeId × Value → H) :
    ReturnsInHanded {} Try.checked os 6 .any (Rows.fnExactValidGateSpec.pre6 enc Try.prog Try.f6 Rows.fnExactValidGateRow.domain false) (Rows.fnExactValidGateSpec.post enc Try.prog Try.f6 false true false false) := by
  refine returnsInHanded_of_change (C := Try.checked) own started (by kernel_rfl) Try.func6
    (ChangeSpec.witness6 (enc := enc) (C := Try.checked) false ⟨#[], #[.agg #[.int .i64 0, .int .i64 0, .int .i64 0, .slice none 0 0, .slice none 0 0, .int .i64 0, .int .i64 0, .int .i64 0]], []⟩ 8 (by kernel_rfl) (by kernel_rfl) (by kernel_rfl) (by kernel_rfl)) ?_
  intro W base args ds gs before hval0 hW hcnd _
  have hval : ∀ (j : Nat) t v, Try.f6.params[j]? = some t → args[j]? = some v → Value.okWide Try.prog W .any base t v := hval0
  have hW' := hW
  obtain ⟨p, q, hA0, hV, rfl, hfz, hnd⟩ := hW
  have hA : DataW.TrodAll enc Try.prog W 0 (fun _ => true) true Try.f6.params.toList args.toList ds p := hA0
  rw [Try.params6] at hA hval
  obtain ⟨v0, vs0, d0, ds0, p0, q0, hargs, rfl, rfl, h0, r0⟩ := trodAll_cons hA
  obtain ⟨rfl, rfl, rfl⟩ := trodAll_nil r0
  obtain rfl : args = #[v0] := by cases args; simp_all
  obtain ⟨rfl, rfl⟩ := trodVars_none hV
  have k0 := h0
  have lt0 : ∀ x ∈ p0, x.block < W.heap.size := by obtain ⟨m, hm⟩ := k0; exact DataW.trod_lt m _ _ _ hm
  obtain ⟨cs0, rfl, hsz0⟩ := okWide_struct Try.underlying42 (hval 0 42 v0 rfl rfl)
  obtain ⟨fu0, hf0⟩ := h0
  obtain ⟨b0, nb0, o0, At0, nt0, ct0, Ac0, nc0, cc0, f0, hh0, t0, hcs0, hmt0, hmc0, ⟨T0, rfl, sT0⟩, C0, rfl, sC0⟩ := tr_gate hf0
  obtain rfl : cs0 = #[.int .i64 b0, .int .i64 nb0, .int .i64 o0, .slice At0 T0.length ct0, .slice Ac0 C0.length cc0, .int .i64 f0, .int .i64 hh0, .int .i64 t0] := by apply Array.toList_inj.1; simpa [Value.cells] using hcs0
  clear hA0 hval0
  refine (FnExactValidGate_walk b0 nb0 o0 f0 hh0 t0 T0 C0 At0 Ac0 ct0 cc0 W hmt0 hmc0 sT0 sC0).mono fun e W' ⟨he, bel⟩ => ?_
  subst he
  exact ⟨_, rfl, _, _, _, [], _, [], hW', trodAll_mk1 (shut_bool Try.underlying4 _), (trodAll_cons_mk (Below.trod laidOut (by kernel_rfl) (of_decide_eq_true (by kernel_rfl)) k0 bel lt0) trodAll_mk0), (rfl : ([] : List MemPlace) = []), bel.frame _, fun h => by cases h⟩
theorem FnExactValidGate_facts : joinedFacts Try.pinned.checked.prog 6 Try.f6 Rows.fnExactValidGateSpec Rows.fnExactValidGateRow = true := by
  unfold joinedFacts
  rw [show Try.pinned.checked.prog = Try.prog from rfl, no_round, may_enter, lifts_final, make_cut]
  kernel_rfl
theorem FnExactValidGate_over : Rows.fnExactValidGateRow.holds Try.pinned (OpenSpec.ofChange Rows.fnExactValidGateSpec) :=
  OpenClaim.holds_of_wide 6 Try.f6 rfl rfl rfl rfl rfl rfl rfl ⟨rfl, rfl, rfl, rfl, rfl⟩ rfl rfl rfl rfl rfl (by kernel_rfl) Try.func6 FnExactValidGate_facts
    (of_decide_eq_true (by kernel_rfl)) (by unfold Func.isWrapper; first | (rw [if_pos (by decide +kernel)]; kernel_rfl) | (rw [if_neg (by decide +kernel)]; exact ⟨rfl, rfl⟩))
    (fun os started H enc _ => FnExactValidGate_lifted os started H enc)
theorem FnExactValidGate_proved : Rows.FnExactValidGateSaid := FnExactValidGate_over
#print axioms FnExactValidGate_proved
end Go.Proofs.Ytlgfmnognhojnaa
