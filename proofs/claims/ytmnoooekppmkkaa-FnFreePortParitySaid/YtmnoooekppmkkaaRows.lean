/-
  No cell of these rows narrows 'for every input' (looked for: loops, veiled, ifaces, maps, wideKeys, modest, calm, conditions, laid).
  DERIVED. THE GIVEN ROWS OF THIS SEAT. 12 by the template 'for every input the law returns true; each argument reads behind the call as it read before'; 0 by the template 'total and deterministic' (their statements: YtmnoooekppmkkaaTotals.lean).
  GIVEN WITH THE SEED: the statements are not yours to turn. If you find one false, say at which input.
  Laid BY PROGRAM, IN A SANDBOX (cutbox-rows.mjs): the forced cells as the released guide's own fill.sh prints them over the translation d15c078e404224f7… (all of the seat's roots in one cut). By AI agents, Wed Nov 11 2026. No macro, syntax, notation, axiom, sorry.
-/
import Derived.Test.YtmnoooekppmkkaaChecked
import GoSem.Claim
import GoSem.ClaimJoined
import GoSem.ClaimMapViews
import Derived.JoinedTies
import Derived.KernelRfl
namespace Go.Proofs.Ytmnoooekppmkkaa
/- THE CELL 'sum', in the pinned program and in every row, IS THE sha256 OF THE DUMP (.gsa) THAT YtmnoooekppmkkaaProg.lean LOADS. Nothing in Lean hashes anything: it is a label: what it is worth is what the hold of that sum in a sandbox is worth. -/
noncomputable def Try.pinned : Pinned := { name := "ytmnoooekppmkkaa", sum := "d15c078e404224f71c691435a4549d8c8853910d2f470866cdad3dbd3775e6ba", checked := Try.checked }
namespace Rows
def none {H : Type} : Left H := { results := [], args := [] }

/-- 'laws.FnExactInsideEnd': WHATEVER THE INPUT: true; the input reads as it did. -/
def fnExactInsideEndSpec : ChangeSpec := { name := "fnExactInsideEnd", fn := fun _ => fun
  | [d1, d2] => { results := [.lit (.bool true)], args := [d1, d2] }
  | _ => none }
def fnExactInsideEndRow : OpenClaim := { program := "ytmnoooekppmkkaa", sum := "d15c078e404224f71c691435a4549d8c8853910d2f470866cdad3dbd3775e6ba", func := "loop.example/portmapper/laws.FnExactInsideEnd", spec := "fnExactInsideEnd", unfollowed := true, recurses := true, apart := false }
def FnExactInsideEndSaid : Prop := fnExactInsideEndRow.holds Try.pinned (OpenSpec.ofChange fnExactInsideEndSpec)

/-- ITS FALSE NEIGHBOUR: 'it returns false'. Refute it at one input. -/
def fnExactInsideEndWrong : ChangeSpec := { name := "fnExactInsideEnd", fn := fun _ => fun
  | [d1, d2] => { results := [.lit (.bool false)], args := [d1, d2] }
  | _ => none }
def FnExactInsideEndWrongFalsely : Prop := fnExactInsideEndRow.holds Try.pinned (OpenSpec.ofChange fnExactInsideEndWrong)

/-- 'laws.FnExactOutsidePort': WHATEVER THE INPUT: true; the input reads as it did. -/
def fnExactOutsidePortSpec : ChangeSpec := { name := "fnExactOutsidePort", fn := fun _ => fun
  | [d1, d2] => { results := [.lit (.bool true)], args := [d1, d2] }
  | _ => none }
def fnExactOutsidePortRow : OpenClaim := { program := "ytmnoooekppmkkaa", sum := "d15c078e404224f71c691435a4549d8c8853910d2f470866cdad3dbd3775e6ba", func := "loop.example/portmapper/laws.FnExactOutsidePort", spec := "fnExactOutsidePort", unfollowed := true, recurses := true, apart := false }
def FnExactOutsidePortSaid : Prop := fnExactOutsidePortRow.holds Try.pinned (OpenSpec.ofChange fnExactOutsidePortSpec)

/-- ITS FALSE NEIGHBOUR: 'it returns false'. Refute it at one input. -/
def fnExactOutsidePortWrong : ChangeSpec := { name := "fnExactOutsidePort", fn := fun _ => fun
  | [d1, d2] => { results := [.lit (.bool false)], args := [d1, d2] }
  | _ => none }
def FnExactOutsidePortWrongFalsely : Prop := fnExactOutsidePortRow.holds Try.pinned (OpenSpec.ofChange fnExactOutsidePortWrong)

/-- 'laws.FnValidTable': WHATEVER THE INPUT: true; the input reads as it did. -/
def fnValidTableSpec : ChangeSpec := { name := "fnValidTable", fn := fun _ => fun
  | [d] => { results := [.lit (.bool true)], args := [d] }
  | _ => none }
def fnValidTableRow : OpenClaim := { program := "ytmnoooekppmkkaa", sum := "d15c078e404224f71c691435a4549d8c8853910d2f470866cdad3dbd3775e6ba", func := "loop.example/portmapper/laws.FnValidTable", spec := "fnValidTable", unfollowed := true, recurses := true, apart := false }
def FnValidTableSaid : Prop := fnValidTableRow.holds Try.pinned (OpenSpec.ofChange fnValidTableSpec)

/-- ITS FALSE NEIGHBOUR: 'it returns false'. Refute it at one input. -/
def fnValidTableWrong : ChangeSpec := { name := "fnValidTable", fn := fun _ => fun
  | [d] => { results := [.lit (.bool false)], args := [d] }
  | _ => none }
def FnValidTableWrongFalsely : Prop := fnValidTableRow.holds Try.pinned (OpenSpec.ofChange fnValidTableWrong)

/-- 'laws.FnValidTableTwice': WHATEVER THE INPUT: true; the input reads as it did. -/
def fnValidTableTwiceSpec : ChangeSpec := { name := "fnValidTableTwice", fn := fun _ => fun
  | [d] => { results := [.lit (.bool true)], args := [d] }
  | _ => none }
def fnValidTableTwiceRow : OpenClaim := { program := "ytmnoooekppmkkaa", sum := "d15c078e404224f71c691435a4549d8c8853910d2f470866cdad3dbd3775e6ba", func := "loop.example/portmapper/laws.FnValidTableTwice", spec := "fnValidTableTwice", unfollowed := true, recurses := true, apart := false }
def FnValidTableTwiceSaid : Prop := fnValidTableTwiceRow.holds Try.pinned (OpenSpec.ofChange fnValidTableTwiceSpec)

/-- ITS FALSE NEIGHBOUR: 'it returns false'. Refute it at one input. -/
def fnValidTableTwiceWrong : ChangeSpec := { name := "fnValidTableTwice", fn := fun _ => fun
  | [d] => { results := [.lit (.bool false)], args := [d] }
  | _ => none }
def FnValidTableTwiceWrongFalsely : Prop := fnValidTableTwiceRow.holds Try.pinned (OpenSpec.ofChange fnValidTableTwiceWrong)

/-- 'laws.FnInsideEndNone': WHATEVER THE INPUT: true; the input reads as it did. -/
def fnInsideEndNoneSpec : ChangeSpec := { name := "fnInsideEndNone", fn := fun _ => fun
  | [d] => { results := [.lit (.bool true)], args := [d] }
  | _ => none }
def fnInsideEndNoneRow : OpenClaim := { program := "ytmnoooekppmkkaa", sum := "d15c078e404224f71c691435a4549d8c8853910d2f470866cdad3dbd3775e6ba", func := "loop.example/portmapper/laws.FnInsideEndNone", spec := "fnInsideEndNone", unfollowed := true, recurses := true, apart := false }
def FnInsideEndNoneSaid : Prop := fnInsideEndNoneRow.holds Try.pinned (OpenSpec.ofChange fnInsideEndNoneSpec)

/-- ITS FALSE NEIGHBOUR: 'it returns false'. Refute it at one input. -/
def fnInsideEndNoneWrong : ChangeSpec := { name := "fnInsideEndNone", fn := fun _ => fun
  | [d] => { results := [.lit (.bool false)], args := [d] }
  | _ => none }
def FnInsideEndNoneWrongFalsely : Prop := fnInsideEndNoneRow.holds Try.pinned (OpenSpec.ofChange fnInsideEndNoneWrong)

/-- 'laws.FnExactFreePort': WHATEVER THE INPUT: true; the input reads as it did. -/
def fnExactFreePortSpec : ChangeSpec := { name := "fnExactFreePort", fn := fun _ => fun
  | [d1, d2] => { results := [.lit (.bool true)], args := [d1, d2] }
  | _ => none }
def fnExactFreePortRow : OpenClaim := { program := "ytmnoooekppmkkaa", sum := "d15c078e404224f71c691435a4549d8c8853910d2f470866cdad3dbd3775e6ba", func := "loop.example/portmapper/laws.FnExactFreePort", spec := "fnExactFreePort", unfollowed := true, recurses := true, apart := false }
def FnExactFreePortSaid : Prop := fnExactFreePortRow.holds Try.pinned (OpenSpec.ofChange fnExactFreePortSpec)

/-- ITS FALSE NEIGHBOUR: 'it returns false'. Refute it at one input. -/
def fnExactFreePortWrong : ChangeSpec := { name := "fnExactFreePort", fn := fun _ => fun
  | [d1, d2] => { results := [.lit (.bool false)], args := [d1, d2] }
  | _ => none }
def FnExactFreePortWrongFalsely : Prop := fnExactFreePortRow.holds Try.pinned (OpenSpec.ofChange fnExactFreePortWrong)

/-- 'laws.FnInsideEnd': WHATEVER THE INPUT: true; the input reads as it did. -/
def fnInsideEndSpec : ChangeSpec := { name := "fnInsideEnd", fn := fun _ => fun
  | [d] => { results := [.lit (.bool true)], args := [d] }
  | _ => none }
def fnInsideEndRow : OpenClaim := { program := "ytmnoooekppmkkaa", sum := "d15c078e404224f71c691435a4549d8c8853910d2f470866cdad3dbd3775e6ba", func := "loop.example/portmapper/laws.FnInsideEnd", spec := "fnInsideEnd", unfollowed := true, recurses := true, apart := false }
def FnInsideEndSaid : Prop := fnInsideEndRow.holds Try.pinned (OpenSpec.ofChange fnInsideEndSpec)

/-- ITS FALSE NEIGHBOUR: 'it returns false'. Refute it at one input. -/
def fnInsideEndWrong : ChangeSpec := { name := "fnInsideEnd", fn := fun _ => fun
  | [d] => { results := [.lit (.bool false)], args := [d] }
  | _ => none }
def FnInsideEndWrongFalsely : Prop := fnInsideEndRow.holds Try.pinned (OpenSpec.ofChange fnInsideEndWrong)

/-- 'laws.FnOutsidePortAll': WHATEVER THE INPUT: true; the input reads as it did. -/
def fnOutsidePortAllSpec : ChangeSpec := { name := "fnOutsidePortAll", fn := fun _ => fun
  | [d] => { results := [.lit (.bool true)], args := [d] }
  | _ => none }
def fnOutsidePortAllRow : OpenClaim := { program := "ytmnoooekppmkkaa", sum := "d15c078e404224f71c691435a4549d8c8853910d2f470866cdad3dbd3775e6ba", func := "loop.example/portmapper/laws.FnOutsidePortAll", spec := "fnOutsidePortAll", unfollowed := true, recurses := true, apart := false }
def FnOutsidePortAllSaid : Prop := fnOutsidePortAllRow.holds Try.pinned (OpenSpec.ofChange fnOutsidePortAllSpec)

/-- ITS FALSE NEIGHBOUR: 'it returns false'. Refute it at one input. -/
def fnOutsidePortAllWrong : ChangeSpec := { name := "fnOutsidePortAll", fn := fun _ => fun
  | [d] => { results := [.lit (.bool false)], args := [d] }
  | _ => none }
def FnOutsidePortAllWrongFalsely : Prop := fnOutsidePortAllRow.holds Try.pinned (OpenSpec.ofChange fnOutsidePortAllWrong)

/-- 'laws.FnOutsidePort': WHATEVER THE INPUT: true; the input reads as it did. -/
def fnOutsidePortSpec : ChangeSpec := { name := "fnOutsidePort", fn := fun _ => fun
  | [d] => { results := [.lit (.bool true)], args := [d] }
  | _ => none }
def fnOutsidePortRow : OpenClaim := { program := "ytmnoooekppmkkaa", sum := "d15c078e404224f71c691435a4549d8c8853910d2f470866cdad3dbd3775e6ba", func := "loop.example/portmapper/laws.FnOutsidePort", spec := "fnOutsidePort", unfollowed := true, recurses := true, apart := false }
def FnOutsidePortSaid : Prop := fnOutsidePortRow.holds Try.pinned (OpenSpec.ofChange fnOutsidePortSpec)

/-- ITS FALSE NEIGHBOUR: 'it returns false'. Refute it at one input. -/
def fnOutsidePortWrong : ChangeSpec := { name := "fnOutsidePort", fn := fun _ => fun
  | [d] => { results := [.lit (.bool false)], args := [d] }
  | _ => none }
def FnOutsidePortWrongFalsely : Prop := fnOutsidePortRow.holds Try.pinned (OpenSpec.ofChange fnOutsidePortWrong)

/-- 'laws.FnFreePortNone': WHATEVER THE INPUT: true; the input reads as it did. -/
def fnFreePortNoneSpec : ChangeSpec := { name := "fnFreePortNone", fn := fun _ => fun
  | [d] => { results := [.lit (.bool true)], args := [d] }
  | _ => none }
def fnFreePortNoneRow : OpenClaim := { program := "ytmnoooekppmkkaa", sum := "d15c078e404224f71c691435a4549d8c8853910d2f470866cdad3dbd3775e6ba", func := "loop.example/portmapper/laws.FnFreePortNone", spec := "fnFreePortNone", unfollowed := true, recurses := true, apart := false }
def FnFreePortNoneSaid : Prop := fnFreePortNoneRow.holds Try.pinned (OpenSpec.ofChange fnFreePortNoneSpec)

/-- ITS FALSE NEIGHBOUR: 'it returns false'. Refute it at one input. -/
def fnFreePortNoneWrong : ChangeSpec := { name := "fnFreePortNone", fn := fun _ => fun
  | [d] => { results := [.lit (.bool false)], args := [d] }
  | _ => none }
def FnFreePortNoneWrongFalsely : Prop := fnFreePortNoneRow.holds Try.pinned (OpenSpec.ofChange fnFreePortNoneWrong)

/-- 'laws.FnFreePort': WHATEVER THE INPUT: true; the input reads as it did. -/
def fnFreePortSpec : ChangeSpec := { name := "fnFreePort", fn := fun _ => fun
  | [d] => { results := [.lit (.bool true)], args := [d] }
  | _ => none }
def fnFreePortRow : OpenClaim := { program := "ytmnoooekppmkkaa", sum := "d15c078e404224f71c691435a4549d8c8853910d2f470866cdad3dbd3775e6ba", func := "loop.example/portmapper/laws.FnFreePort", spec := "fnFreePort", unfollowed := true, recurses := true, apart := false }
def FnFreePortSaid : Prop := fnFreePortRow.holds Try.pinned (OpenSpec.ofChange fnFreePortSpec)

/-- ITS FALSE NEIGHBOUR: 'it returns false'. Refute it at one input. -/
def fnFreePortWrong : ChangeSpec := { name := "fnFreePort", fn := fun _ => fun
  | [d] => { results := [.lit (.bool false)], args := [d] }
  | _ => none }
def FnFreePortWrongFalsely : Prop := fnFreePortRow.holds Try.pinned (OpenSpec.ofChange fnFreePortWrong)

/-- 'laws.FnFreePortParity': WHATEVER THE INPUT: true; the input reads as it did. -/
def fnFreePortParitySpec : ChangeSpec := { name := "fnFreePortParity", fn := fun _ => fun
  | [d] => { results := [.lit (.bool true)], args := [d] }
  | _ => none }
def fnFreePortParityRow : OpenClaim := { program := "ytmnoooekppmkkaa", sum := "d15c078e404224f71c691435a4549d8c8853910d2f470866cdad3dbd3775e6ba", func := "loop.example/portmapper/laws.FnFreePortParity", spec := "fnFreePortParity", unfollowed := true, recurses := true, apart := false }
def FnFreePortParitySaid : Prop := fnFreePortParityRow.holds Try.pinned (OpenSpec.ofChange fnFreePortParitySpec)

/-- ITS FALSE NEIGHBOUR: 'it returns false'. Refute it at one input. -/
def fnFreePortParityWrong : ChangeSpec := { name := "fnFreePortParity", fn := fun _ => fun
  | [d] => { results := [.lit (.bool false)], args := [d] }
  | _ => none }
def FnFreePortParityWrongFalsely : Prop := fnFreePortParityRow.holds Try.pinned (OpenSpec.ofChange fnFreePortParityWrong)

/- THE SECOND FORM. 'bulk': how many values and letters a reading holds, each counted each time it is reached (what is shared counts as often as it is met; a slice's spare places count too). A statement '..UptoSaid' is the law's where the arguments, and the package variables that the reading takes, are together of bulk at most 1048576: NARROWER than '..Said'. Prove '..Said' where nothing that the law and all that it calls make is longer than what came in: it says more and counts as full. Else prove '..UptoSaid'. A law counts once. -/
mutual
def uptoBulk {H : Type} : DataW H → Nat
  | .lit (.string bytes) => bytes.length + 1
  | .lit _ => 1
  | .nil => 1
  | .ptr d => uptoBulk d + 1
  | .slice elems spare => uptoBulkAll elems + uptoBulkAll spare + 1
  | .agg parts => uptoBulkAll parts + 1
  | .iface _ d => uptoBulk d + 1
  | .map entries => uptoBulkEntries entries + 1
  | .held _ => 1
def uptoBulkAll {H : Type} : List (DataW H) → Nat
  | [] => 0
  | d :: r => uptoBulk d + uptoBulkAll r
def uptoBulkEntries {H : Type} : List (Lit × DataW H) → Nat
  | [] => 0
  | x :: r => uptoBulkEntry x + uptoBulkEntries r
def uptoBulkEntry {H : Type} : Lit × DataW H → Nat
  | (.string bytes, d) => bytes.length + uptoBulk d + 1
  | (_, d) => uptoBulk d + 1
 end
def uptoSmall : (H : Type) → List (DataW H) → Bool := fun _ ds => decide (uptoBulkAll ds ≤ 1048576)
def OpenSpec.upto (s : _root_.Go.ChangeSpec) : _root_.Go.OpenSpec := { _root_.Go.OpenSpec.ofChange s with cond := some uptoSmall }

/-- 'laws.FnExactInsideEnd', WHERE WHAT IT READS IS OF BULK AT MOST 1048576: true; the input reads as it did. -/
def fnExactInsideEndUptoRow : OpenClaim := { program := "ytmnoooekppmkkaa", sum := "d15c078e404224f71c691435a4549d8c8853910d2f470866cdad3dbd3775e6ba", func := "loop.example/portmapper/laws.FnExactInsideEnd", spec := "fnExactInsideEnd", unfollowed := true, recurses := true, apart := false, narrowed := true }
def FnExactInsideEndUptoSaid : Prop := fnExactInsideEndUptoRow.holds Try.pinned (OpenSpec.upto fnExactInsideEndSpec)

/-- 'laws.FnExactOutsidePort', WHERE WHAT IT READS IS OF BULK AT MOST 1048576: true; the input reads as it did. -/
def fnExactOutsidePortUptoRow : OpenClaim := { program := "ytmnoooekppmkkaa", sum := "d15c078e404224f71c691435a4549d8c8853910d2f470866cdad3dbd3775e6ba", func := "loop.example/portmapper/laws.FnExactOutsidePort", spec := "fnExactOutsidePort", unfollowed := true, recurses := true, apart := false, narrowed := true }
def FnExactOutsidePortUptoSaid : Prop := fnExactOutsidePortUptoRow.holds Try.pinned (OpenSpec.upto fnExactOutsidePortSpec)

/-- 'laws.FnValidTable', WHERE WHAT IT READS IS OF BULK AT MOST 1048576: true; the input reads as it did. -/
def fnValidTableUptoRow : OpenClaim := { program := "ytmnoooekppmkkaa", sum := "d15c078e404224f71c691435a4549d8c8853910d2f470866cdad3dbd3775e6ba", func := "loop.example/portmapper/laws.FnValidTable", spec := "fnValidTable", unfollowed := true, recurses := true, apart := false, narrowed := true }
def FnValidTableUptoSaid : Prop := fnValidTableUptoRow.holds Try.pinned (OpenSpec.upto fnValidTableSpec)

/-- 'laws.FnValidTableTwice', WHERE WHAT IT READS IS OF BULK AT MOST 1048576: true; the input reads as it did. -/
def fnValidTableTwiceUptoRow : OpenClaim := { program := "ytmnoooekppmkkaa", sum := "d15c078e404224f71c691435a4549d8c8853910d2f470866cdad3dbd3775e6ba", func := "loop.example/portmapper/laws.FnValidTableTwice", spec := "fnValidTableTwice", unfollowed := true, recurses := true, apart := false, narrowed := true }
def FnValidTableTwiceUptoSaid : Prop := fnValidTableTwiceUptoRow.holds Try.pinned (OpenSpec.upto fnValidTableTwiceSpec)

/-- 'laws.FnInsideEndNone', WHERE WHAT IT READS IS OF BULK AT MOST 1048576: true; the input reads as it did. -/
def fnInsideEndNoneUptoRow : OpenClaim := { program := "ytmnoooekppmkkaa", sum := "d15c078e404224f71c691435a4549d8c8853910d2f470866cdad3dbd3775e6ba", func := "loop.example/portmapper/laws.FnInsideEndNone", spec := "fnInsideEndNone", unfollowed := true, recurses := true, apart := false, narrowed := true }
def FnInsideEndNoneUptoSaid : Prop := fnInsideEndNoneUptoRow.holds Try.pinned (OpenSpec.upto fnInsideEndNoneSpec)

/-- 'laws.FnExactFreePort', WHERE WHAT IT READS IS OF BULK AT MOST 1048576: true; the input reads as it did. -/
def fnExactFreePortUptoRow : OpenClaim := { program := "ytmnoooekppmkkaa", sum := "d15c078e404224f71c691435a4549d8c8853910d2f470866cdad3dbd3775e6ba", func := "loop.example/portmapper/laws.FnExactFreePort", spec := "fnExactFreePort", unfollowed := true, recurses := true, apart := false, narrowed := true }
def FnExactFreePortUptoSaid : Prop := fnExactFreePortUptoRow.holds Try.pinned (OpenSpec.upto fnExactFreePortSpec)

/-- 'laws.FnInsideEnd', WHERE WHAT IT READS IS OF BULK AT MOST 1048576: true; the input reads as it did. -/
def fnInsideEndUptoRow : OpenClaim := { program := "ytmnoooekppmkkaa", sum := "d15c078e404224f71c691435a4549d8c8853910d2f470866cdad3dbd3775e6ba", func := "loop.example/portmapper/laws.FnInsideEnd", spec := "fnInsideEnd", unfollowed := true, recurses := true, apart := false, narrowed := true }
def FnInsideEndUptoSaid : Prop := fnInsideEndUptoRow.holds Try.pinned (OpenSpec.upto fnInsideEndSpec)

/-- 'laws.FnOutsidePortAll', WHERE WHAT IT READS IS OF BULK AT MOST 1048576: true; the input reads as it did. -/
def fnOutsidePortAllUptoRow : OpenClaim := { program := "ytmnoooekppmkkaa", sum := "d15c078e404224f71c691435a4549d8c8853910d2f470866cdad3dbd3775e6ba", func := "loop.example/portmapper/laws.FnOutsidePortAll", spec := "fnOutsidePortAll", unfollowed := true, recurses := true, apart := false, narrowed := true }
def FnOutsidePortAllUptoSaid : Prop := fnOutsidePortAllUptoRow.holds Try.pinned (OpenSpec.upto fnOutsidePortAllSpec)

/-- 'laws.FnOutsidePort', WHERE WHAT IT READS IS OF BULK AT MOST 1048576: true; the input reads as it did. -/
def fnOutsidePortUptoRow : OpenClaim := { program := "ytmnoooekppmkkaa", sum := "d15c078e404224f71c691435a4549d8c8853910d2f470866cdad3dbd3775e6ba", func := "loop.example/portmapper/laws.FnOutsidePort", spec := "fnOutsidePort", unfollowed := true, recurses := true, apart := false, narrowed := true }
def FnOutsidePortUptoSaid : Prop := fnOutsidePortUptoRow.holds Try.pinned (OpenSpec.upto fnOutsidePortSpec)

/-- 'laws.FnFreePortNone', WHERE WHAT IT READS IS OF BULK AT MOST 1048576: true; the input reads as it did. -/
def fnFreePortNoneUptoRow : OpenClaim := { program := "ytmnoooekppmkkaa", sum := "d15c078e404224f71c691435a4549d8c8853910d2f470866cdad3dbd3775e6ba", func := "loop.example/portmapper/laws.FnFreePortNone", spec := "fnFreePortNone", unfollowed := true, recurses := true, apart := false, narrowed := true }
def FnFreePortNoneUptoSaid : Prop := fnFreePortNoneUptoRow.holds Try.pinned (OpenSpec.upto fnFreePortNoneSpec)

/-- 'laws.FnFreePort', WHERE WHAT IT READS IS OF BULK AT MOST 1048576: true; the input reads as it did. -/
def fnFreePortUptoRow : OpenClaim := { program := "ytmnoooekppmkkaa", sum := "d15c078e404224f71c691435a4549d8c8853910d2f470866cdad3dbd3775e6ba", func := "loop.example/portmapper/laws.FnFreePort", spec := "fnFreePort", unfollowed := true, recurses := true, apart := false, narrowed := true }
def FnFreePortUptoSaid : Prop := fnFreePortUptoRow.holds Try.pinned (OpenSpec.upto fnFreePortSpec)

/-- 'laws.FnFreePortParity', WHERE WHAT IT READS IS OF BULK AT MOST 1048576: true; the input reads as it did. -/
def fnFreePortParityUptoRow : OpenClaim := { program := "ytmnoooekppmkkaa", sum := "d15c078e404224f71c691435a4549d8c8853910d2f470866cdad3dbd3775e6ba", func := "loop.example/portmapper/laws.FnFreePortParity", spec := "fnFreePortParity", unfollowed := true, recurses := true, apart := false, narrowed := true }
def FnFreePortParityUptoSaid : Prop := fnFreePortParityUptoRow.holds Try.pinned (OpenSpec.upto fnFreePortParitySpec)

end Rows
end Go.Proofs.Ytmnoooekppmkkaa
