/-
  No cell of these rows narrows 'for every input' (looked for: loops, veiled, ifaces, maps, wideKeys, modest, calm, conditions, laid).
  DERIVED. THE GIVEN ROWS OF THIS SEAT. 5 by the template 'for every input the law returns true; each argument reads behind the call as it read before'; 0 by the template 'total and deterministic' (their statements: YtlgfmnognhojnaaTotals.lean).
  GIVEN WITH THE SEED: the statements are not yours to turn. If you find one false, say at which input.
  Laid BY PROGRAM, IN A SANDBOX (cutbox-rows.mjs): the forced cells as the released guide's own fill.sh prints them over the translation a26d9362eef03181… (all of the seat's roots in one cut). By AI agents, Wed Nov 11 2026. No macro, syntax, notation, axiom, sorry.
-/
import Derived.Test.YtlgfmnognhojnaaChecked
import GoSem.Claim
import GoSem.ClaimJoined
import GoSem.ClaimMapViews
import Derived.JoinedTies
import Derived.KernelRfl
namespace Go.Proofs.Ytlgfmnognhojnaa
/- THE CELL 'sum', in the pinned program and in every row, IS THE sha256 OF THE DUMP (.gsa) THAT YtlgfmnognhojnaaProg.lean LOADS. Nothing in Lean hashes anything: it is a label: what it is worth is what the hold of that sum in a sandbox is worth. -/
noncomputable def Try.pinned : Pinned := { name := "ytlgfmnognhojnaa", sum := "a26d9362eef031810289a858bbf7752c91a77695c8b2cf843900d189f51106f8", checked := Try.checked }
namespace Rows
def none {H : Type} : Left H := { results := [], args := [] }

/-- 'laws.FnTickGate': WHATEVER THE INPUT: true; the input reads as it did. -/
def fnTickGateSpec : ChangeSpec := { name := "fnTickGate", fn := fun _ => fun
  | [d] => { results := [.lit (.bool true)], args := [d] }
  | _ => none }
def fnTickGateRow : OpenClaim := { program := "ytlgfmnognhojnaa", sum := "a26d9362eef031810289a858bbf7752c91a77695c8b2cf843900d189f51106f8", func := "loop.example/portmapper/laws.FnTickGate", spec := "fnTickGate", unfollowed := true, recurses := true, apart := false }
def FnTickGateSaid : Prop := fnTickGateRow.holds Try.pinned (OpenSpec.ofChange fnTickGateSpec)

/-- ITS FALSE NEIGHBOUR: 'it returns false'. Refute it at one input. -/
def fnTickGateWrong : ChangeSpec := { name := "fnTickGate", fn := fun _ => fun
  | [d] => { results := [.lit (.bool false)], args := [d] }
  | _ => none }
def FnTickGateWrongFalsely : Prop := fnTickGateRow.holds Try.pinned (OpenSpec.ofChange fnTickGateWrong)

/-- 'laws.FnTickGateAll': WHATEVER THE INPUT: true; the input reads as it did. -/
def fnTickGateAllSpec : ChangeSpec := { name := "fnTickGateAll", fn := fun _ => fun
  | [d] => { results := [.lit (.bool true)], args := [d] }
  | _ => none }
def fnTickGateAllRow : OpenClaim := { program := "ytlgfmnognhojnaa", sum := "a26d9362eef031810289a858bbf7752c91a77695c8b2cf843900d189f51106f8", func := "loop.example/portmapper/laws.FnTickGateAll", spec := "fnTickGateAll", unfollowed := true, recurses := true, apart := false }
def FnTickGateAllSaid : Prop := fnTickGateAllRow.holds Try.pinned (OpenSpec.ofChange fnTickGateAllSpec)

/-- ITS FALSE NEIGHBOUR: 'it returns false'. Refute it at one input. -/
def fnTickGateAllWrong : ChangeSpec := { name := "fnTickGateAll", fn := fun _ => fun
  | [d] => { results := [.lit (.bool false)], args := [d] }
  | _ => none }
def FnTickGateAllWrongFalsely : Prop := fnTickGateAllRow.holds Try.pinned (OpenSpec.ofChange fnTickGateAllWrong)

/-- 'laws.FnTickGateSame': WHATEVER THE INPUT: true; the input reads as it did. -/
def fnTickGateSameSpec : ChangeSpec := { name := "fnTickGateSame", fn := fun _ => fun
  | [d] => { results := [.lit (.bool true)], args := [d] }
  | _ => none }
def fnTickGateSameRow : OpenClaim := { program := "ytlgfmnognhojnaa", sum := "a26d9362eef031810289a858bbf7752c91a77695c8b2cf843900d189f51106f8", func := "loop.example/portmapper/laws.FnTickGateSame", spec := "fnTickGateSame", unfollowed := true, recurses := true, apart := false }
def FnTickGateSameSaid : Prop := fnTickGateSameRow.holds Try.pinned (OpenSpec.ofChange fnTickGateSameSpec)

/-- ITS FALSE NEIGHBOUR: 'it returns false'. Refute it at one input. -/
def fnTickGateSameWrong : ChangeSpec := { name := "fnTickGateSame", fn := fun _ => fun
  | [d] => { results := [.lit (.bool false)], args := [d] }
  | _ => none }
def FnTickGateSameWrongFalsely : Prop := fnTickGateSameRow.holds Try.pinned (OpenSpec.ofChange fnTickGateSameWrong)

/-- 'laws.FnExactValidGate': WHATEVER THE INPUT: true; the input reads as it did. -/
def fnExactValidGateSpec : ChangeSpec := { name := "fnExactValidGate", fn := fun _ => fun
  | [d] => { results := [.lit (.bool true)], args := [d] }
  | _ => none }
def fnExactValidGateRow : OpenClaim := { program := "ytlgfmnognhojnaa", sum := "a26d9362eef031810289a858bbf7752c91a77695c8b2cf843900d189f51106f8", func := "loop.example/portmapper/laws.FnExactValidGate", spec := "fnExactValidGate", unfollowed := true, recurses := true, apart := false }
def FnExactValidGateSaid : Prop := fnExactValidGateRow.holds Try.pinned (OpenSpec.ofChange fnExactValidGateSpec)

/-- ITS FALSE NEIGHBOUR: 'it returns false'. Refute it at one input. -/
def fnExactValidGateWrong : ChangeSpec := { name := "fnExactValidGate", fn := fun _ => fun
  | [d] => { results := [.lit (.bool false)], args := [d] }
  | _ => none }
def FnExactValidGateWrongFalsely : Prop := fnExactValidGateRow.holds Try.pinned (OpenSpec.ofChange fnExactValidGateWrong)

/-- 'laws.FnValidGate': WHATEVER THE INPUT: true; the input reads as it did. -/
def fnValidGateSpec : ChangeSpec := { name := "fnValidGate", fn := fun _ => fun
  | [d] => { results := [.lit (.bool true)], args := [d] }
  | _ => none }
def fnValidGateRow : OpenClaim := { program := "ytlgfmnognhojnaa", sum := "a26d9362eef031810289a858bbf7752c91a77695c8b2cf843900d189f51106f8", func := "loop.example/portmapper/laws.FnValidGate", spec := "fnValidGate", unfollowed := true, recurses := true, apart := false }
def FnValidGateSaid : Prop := fnValidGateRow.holds Try.pinned (OpenSpec.ofChange fnValidGateSpec)

/-- ITS FALSE NEIGHBOUR: 'it returns false'. Refute it at one input. -/
def fnValidGateWrong : ChangeSpec := { name := "fnValidGate", fn := fun _ => fun
  | [d] => { results := [.lit (.bool false)], args := [d] }
  | _ => none }
def FnValidGateWrongFalsely : Prop := fnValidGateRow.holds Try.pinned (OpenSpec.ofChange fnValidGateWrong)

/- THE SECOND FORM. 'bulk': how many values and letters a reading holds, each counted each time it is reached (what is shared counts as often as it is met; a slice's spare places count too). A statement '..UptoSaid' is the law's where the arguments, and the package variables that the reading takes, are together of bulk at most 1048576: NARROWER than '..Said'. Prove '..Said' where nothing that the law and all that it calls make is longer than what came in: it says more and counts as full. Else prove '..UptoSaid'. A law counts once. -/
mutual
def uptoBulk {H : Type} : DataW H → Nat
  | .lit (.string bytes) => bytes.length + 1
  | .lit _ => 1
  | .nil => 1
  | .ptr d => uptoBulk d + 1
  | .slice elems spare => uptoBulkAll elems + uptoBulkAll spare + 1
  | .agg parts => uptoBulkAll parts + 1
  | .iface _ d => uptoBulk d + 1
  | .map entries => uptoBulkEntries entries + 1
  | .held _ => 1
def uptoBulkAll {H : Type} : List (DataW H) → Nat
  | [] => 0
  | d :: r => uptoBulk d + uptoBulkAll r
def uptoBulkEntries {H : Type} : List (Lit × DataW H) → Nat
  | [] => 0
  | x :: r => uptoBulkEntry x + uptoBulkEntries r
def uptoBulkEntry {H : Type} : Lit × DataW H → Nat
  | (.string bytes, d) => bytes.length + uptoBulk d + 1
  | (_, d) => uptoBulk d + 1
 end
def uptoSmall : (H : Type) → List (DataW H) → Bool := fun _ ds => decide (uptoBulkAll ds ≤ 1048576)
def OpenSpec.upto (s : _root_.Go.ChangeSpec) : _root_.Go.OpenSpec := { _root_.Go.OpenSpec.ofChange s with cond := some uptoSmall }

/-- 'laws.FnTickGate', WHERE WHAT IT READS IS OF BULK AT MOST 1048576: true; the input reads as it did. -/
def fnTickGateUptoRow : OpenClaim := { program := "ytlgfmnognhojnaa", sum := "a26d9362eef031810289a858bbf7752c91a77695c8b2cf843900d189f51106f8", func := "loop.example/portmapper/laws.FnTickGate", spec := "fnTickGate", unfollowed := true, recurses := true, apart := false, narrowed := true }
def FnTickGateUptoSaid : Prop := fnTickGateUptoRow.holds Try.pinned (OpenSpec.upto fnTickGateSpec)

/-- 'laws.FnTickGateAll', WHERE WHAT IT READS IS OF BULK AT MOST 1048576: true; the input reads as it did. -/
def fnTickGateAllUptoRow : OpenClaim := { program := "ytlgfmnognhojnaa", sum := "a26d9362eef031810289a858bbf7752c91a77695c8b2cf843900d189f51106f8", func := "loop.example/portmapper/laws.FnTickGateAll", spec := "fnTickGateAll", unfollowed := true, recurses := true, apart := false, narrowed := true }
def FnTickGateAllUptoSaid : Prop := fnTickGateAllUptoRow.holds Try.pinned (OpenSpec.upto fnTickGateAllSpec)

/-- 'laws.FnTickGateSame', WHERE WHAT IT READS IS OF BULK AT MOST 1048576: true; the input reads as it did. -/
def fnTickGateSameUptoRow : OpenClaim := { program := "ytlgfmnognhojnaa", sum := "a26d9362eef031810289a858bbf7752c91a77695c8b2cf843900d189f51106f8", func := "loop.example/portmapper/laws.FnTickGateSame", spec := "fnTickGateSame", unfollowed := true, recurses := true, apart := false, narrowed := true }
def FnTickGateSameUptoSaid : Prop := fnTickGateSameUptoRow.holds Try.pinned (OpenSpec.upto fnTickGateSameSpec)

/-- 'laws.FnExactValidGate', WHERE WHAT IT READS IS OF BULK AT MOST 1048576: true; the input reads as it did. -/
def fnExactValidGateUptoRow : OpenClaim := { program := "ytlgfmnognhojnaa", sum := "a26d9362eef031810289a858bbf7752c91a77695c8b2cf843900d189f51106f8", func := "loop.example/portmapper/laws.FnExactValidGate", spec := "fnExactValidGate", unfollowed := true, recurses := true, apart := false, narrowed := true }
def FnExactValidGateUptoSaid : Prop := fnExactValidGateUptoRow.holds Try.pinned (OpenSpec.upto fnExactValidGateSpec)

/-- 'laws.FnValidGate', WHERE WHAT IT READS IS OF BULK AT MOST 1048576: true; the input reads as it did. -/
def fnValidGateUptoRow : OpenClaim := { program := "ytlgfmnognhojnaa", sum := "a26d9362eef031810289a858bbf7752c91a77695c8b2cf843900d189f51106f8", func := "loop.example/portmapper/laws.FnValidGate", spec := "fnValidGate", unfollowed := true, recurses := true, apart := false, narrowed := true }
def FnValidGateUptoSaid : Prop := fnValidGateUptoRow.holds Try.pinned (OpenSpec.upto fnValidGateSpec)

end Rows
end Go.Proofs.Ytlgfmnognhojnaa
