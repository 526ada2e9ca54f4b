/-
  No cell of these rows narrows 'for every input' (looked for: loops, veiled, ifaces, maps, wideKeys, modest, calm, conditions, laid).
  DERIVED. THE GIVEN ROWS OF THIS SEAT. 20 by the template 'for every input the law returns true; each argument reads behind the call as it read before'; 0 by the template 'total and deterministic' (their statements: YtpfmlenodgjebaaTotals.lean).
  GIVEN WITH THE SEED: the statements are not yours to turn. If you find one false, say at which input.
  Laid BY PROGRAM, IN A SANDBOX (cutbox-rows.mjs): the forced cells as the released guide's own fill.sh prints them over the translation 8fc60f25af869161… (all of the seat's roots in one cut). By AI agents, Wed Nov 11 2026. No macro, syntax, notation, axiom, sorry.
-/
import Derived.Test.YtpfmlenodgjebaaChecked
import GoSem.Claim
import GoSem.ClaimJoined
import GoSem.ClaimMapViews
import Derived.JoinedTies
import Derived.KernelRfl
namespace Go.Proofs.Ytpfmlenodgjebaa
/- THE CELL 'sum', in the pinned program and in every row, IS THE sha256 OF THE DUMP (.gsa) THAT YtpfmlenodgjebaaProg.lean LOADS. Nothing in Lean hashes anything: it is a label: what it is worth is what the hold of that sum in a sandbox is worth. -/
noncomputable def Try.pinned : Pinned := { name := "ytpfmlenodgjebaa", sum := "8fc60f25af8691619dd22d15acac3c516d0d1b04fcd0ad1cbc3dfc0cc6ddc479", checked := Try.checked }
namespace Rows
def none {H : Type} : Left H := { results := [], args := [] }

/-- 'laws.FnFreePortMap': WHATEVER THE INPUT: true; the input reads as it did. -/
def fnFreePortMapSpec : ChangeSpec := { name := "fnFreePortMap", fn := fun _ => fun
  | [d] => { results := [.lit (.bool true)], args := [d] }
  | _ => none }
def fnFreePortMapRow : OpenClaim := { program := "ytpfmlenodgjebaa", sum := "8fc60f25af8691619dd22d15acac3c516d0d1b04fcd0ad1cbc3dfc0cc6ddc479", func := "loop.example/portmapper/laws.FnFreePortMap", spec := "fnFreePortMap", unfollowed := true, recurses := true, apart := false }
def FnFreePortMapSaid : Prop := fnFreePortMapRow.holds Try.pinned (OpenSpec.ofChange fnFreePortMapSpec)

/-- ITS FALSE NEIGHBOUR: 'it returns false'. Refute it at one input. -/
def fnFreePortMapWrong : ChangeSpec := { name := "fnFreePortMap", fn := fun _ => fun
  | [d] => { results := [.lit (.bool false)], args := [d] }
  | _ => none }
def FnFreePortMapWrongFalsely : Prop := fnFreePortMapRow.holds Try.pinned (OpenSpec.ofChange fnFreePortMapWrong)

/-- 'laws.FnMapEnd': WHATEVER THE INPUT: true; the input reads as it did. -/
def fnMapEndSpec : ChangeSpec := { name := "fnMapEnd", fn := fun _ => fun
  | [d] => { results := [.lit (.bool true)], args := [d] }
  | _ => none }
def fnMapEndRow : OpenClaim := { program := "ytpfmlenodgjebaa", sum := "8fc60f25af8691619dd22d15acac3c516d0d1b04fcd0ad1cbc3dfc0cc6ddc479", func := "loop.example/portmapper/laws.FnMapEnd", spec := "fnMapEnd", unfollowed := true, recurses := true, apart := false }
def FnMapEndSaid : Prop := fnMapEndRow.holds Try.pinned (OpenSpec.ofChange fnMapEndSpec)

/-- ITS FALSE NEIGHBOUR: 'it returns false'. Refute it at one input. -/
def fnMapEndWrong : ChangeSpec := { name := "fnMapEnd", fn := fun _ => fun
  | [d] => { results := [.lit (.bool false)], args := [d] }
  | _ => none }
def FnMapEndWrongFalsely : Prop := fnMapEndRow.holds Try.pinned (OpenSpec.ofChange fnMapEndWrong)

/-- 'laws.FnMapEndTwice': WHATEVER THE INPUT: true; the input reads as it did. -/
def fnMapEndTwiceSpec : ChangeSpec := { name := "fnMapEndTwice", fn := fun _ => fun
  | [d] => { results := [.lit (.bool true)], args := [d] }
  | _ => none }
def fnMapEndTwiceRow : OpenClaim := { program := "ytpfmlenodgjebaa", sum := "8fc60f25af8691619dd22d15acac3c516d0d1b04fcd0ad1cbc3dfc0cc6ddc479", func := "loop.example/portmapper/laws.FnMapEndTwice", spec := "fnMapEndTwice", unfollowed := true, recurses := true, apart := false }
def FnMapEndTwiceSaid : Prop := fnMapEndTwiceRow.holds Try.pinned (OpenSpec.ofChange fnMapEndTwiceSpec)

/-- ITS FALSE NEIGHBOUR: 'it returns false'. Refute it at one input. -/
def fnMapEndTwiceWrong : ChangeSpec := { name := "fnMapEndTwice", fn := fun _ => fun
  | [d] => { results := [.lit (.bool false)], args := [d] }
  | _ => none }
def FnMapEndTwiceWrongFalsely : Prop := fnMapEndTwiceRow.holds Try.pinned (OpenSpec.ofChange fnMapEndTwiceWrong)

/-- 'laws.FnMapEndLast': WHATEVER THE INPUT: true; the input reads as it did. -/
def fnMapEndLastSpec : ChangeSpec := { name := "fnMapEndLast", fn := fun _ => fun
  | [d] => { results := [.lit (.bool true)], args := [d] }
  | _ => none }
def fnMapEndLastRow : OpenClaim := { program := "ytpfmlenodgjebaa", sum := "8fc60f25af8691619dd22d15acac3c516d0d1b04fcd0ad1cbc3dfc0cc6ddc479", func := "loop.example/portmapper/laws.FnMapEndLast", spec := "fnMapEndLast", unfollowed := true, recurses := true, apart := false }
def FnMapEndLastSaid : Prop := fnMapEndLastRow.holds Try.pinned (OpenSpec.ofChange fnMapEndLastSpec)

/-- ITS FALSE NEIGHBOUR: 'it returns false'. Refute it at one input. -/
def fnMapEndLastWrong : ChangeSpec := { name := "fnMapEndLast", fn := fun _ => fun
  | [d] => { results := [.lit (.bool false)], args := [d] }
  | _ => none }
def FnMapEndLastWrongFalsely : Prop := fnMapEndLastRow.holds Try.pinned (OpenSpec.ofChange fnMapEndLastWrong)

/-- 'laws.FnMapEndNew': WHATEVER THE INPUT: true; the input reads as it did. -/
def fnMapEndNewSpec : ChangeSpec := { name := "fnMapEndNew", fn := fun _ => fun
  | [d] => { results := [.lit (.bool true)], args := [d] }
  | _ => none }
def fnMapEndNewRow : OpenClaim := { program := "ytpfmlenodgjebaa", sum := "8fc60f25af8691619dd22d15acac3c516d0d1b04fcd0ad1cbc3dfc0cc6ddc479", func := "loop.example/portmapper/laws.FnMapEndNew", spec := "fnMapEndNew", unfollowed := true, recurses := true, apart := false }
def FnMapEndNewSaid : Prop := fnMapEndNewRow.holds Try.pinned (OpenSpec.ofChange fnMapEndNewSpec)

/-- ITS FALSE NEIGHBOUR: 'it returns false'. Refute it at one input. -/
def fnMapEndNewWrong : ChangeSpec := { name := "fnMapEndNew", fn := fun _ => fun
  | [d] => { results := [.lit (.bool false)], args := [d] }
  | _ => none }
def FnMapEndNewWrongFalsely : Prop := fnMapEndNewRow.holds Try.pinned (OpenSpec.ofChange fnMapEndNewWrong)

/-- 'laws.FnExactMapEnd': WHATEVER THE INPUT: true; the input reads as it did. -/
def fnExactMapEndSpec : ChangeSpec := { name := "fnExactMapEnd", fn := fun _ => fun
  | [d1, d2, d3] => { results := [.lit (.bool true)], args := [d1, d2, d3] }
  | _ => none }
def fnExactMapEndRow : OpenClaim := { program := "ytpfmlenodgjebaa", sum := "8fc60f25af8691619dd22d15acac3c516d0d1b04fcd0ad1cbc3dfc0cc6ddc479", func := "loop.example/portmapper/laws.FnExactMapEnd", spec := "fnExactMapEnd", unfollowed := true, recurses := true, apart := false }
def FnExactMapEndSaid : Prop := fnExactMapEndRow.holds Try.pinned (OpenSpec.ofChange fnExactMapEndSpec)

/-- ITS FALSE NEIGHBOUR: 'it returns false'. Refute it at one input. -/
def fnExactMapEndWrong : ChangeSpec := { name := "fnExactMapEnd", fn := fun _ => fun
  | [d1, d2, d3] => { results := [.lit (.bool false)], args := [d1, d2, d3] }
  | _ => none }
def FnExactMapEndWrongFalsely : Prop := fnExactMapEndRow.holds Try.pinned (OpenSpec.ofChange fnExactMapEndWrong)

/-- 'laws.FnExactNextExpiry': WHATEVER THE INPUT: true; the input reads as it did. -/
def fnExactNextExpirySpec : ChangeSpec := { name := "fnExactNextExpiry", fn := fun _ => fun
  | [d1, d2] => { results := [.lit (.bool true)], args := [d1, d2] }
  | _ => none }
def fnExactNextExpiryRow : OpenClaim := { program := "ytpfmlenodgjebaa", sum := "8fc60f25af8691619dd22d15acac3c516d0d1b04fcd0ad1cbc3dfc0cc6ddc479", func := "loop.example/portmapper/laws.FnExactNextExpiry", spec := "fnExactNextExpiry", unfollowed := true, recurses := true, apart := false }
def FnExactNextExpirySaid : Prop := fnExactNextExpiryRow.holds Try.pinned (OpenSpec.ofChange fnExactNextExpirySpec)

/-- ITS FALSE NEIGHBOUR: 'it returns false'. Refute it at one input. -/
def fnExactNextExpiryWrong : ChangeSpec := { name := "fnExactNextExpiry", fn := fun _ => fun
  | [d1, d2] => { results := [.lit (.bool false)], args := [d1, d2] }
  | _ => none }
def FnExactNextExpiryWrongFalsely : Prop := fnExactNextExpiryRow.holds Try.pinned (OpenSpec.ofChange fnExactNextExpiryWrong)

/-- 'laws.FnNextExpiryNone': WHATEVER THE INPUT: true; the input reads as it did. -/
def fnNextExpiryNoneSpec : ChangeSpec := { name := "fnNextExpiryNone", fn := fun _ => fun
  | [d] => { results := [.lit (.bool true)], args := [d] }
  | _ => none }
def fnNextExpiryNoneRow : OpenClaim := { program := "ytpfmlenodgjebaa", sum := "8fc60f25af8691619dd22d15acac3c516d0d1b04fcd0ad1cbc3dfc0cc6ddc479", func := "loop.example/portmapper/laws.FnNextExpiryNone", spec := "fnNextExpiryNone", unfollowed := true, recurses := true, apart := false }
def FnNextExpiryNoneSaid : Prop := fnNextExpiryNoneRow.holds Try.pinned (OpenSpec.ofChange fnNextExpiryNoneSpec)

/-- ITS FALSE NEIGHBOUR: 'it returns false'. Refute it at one input. -/
def fnNextExpiryNoneWrong : ChangeSpec := { name := "fnNextExpiryNone", fn := fun _ => fun
  | [d] => { results := [.lit (.bool false)], args := [d] }
  | _ => none }
def FnNextExpiryNoneWrongFalsely : Prop := fnNextExpiryNoneRow.holds Try.pinned (OpenSpec.ofChange fnNextExpiryNoneWrong)

/-- 'laws.FnExactTouchPort': WHATEVER THE INPUT: true; the input reads as it did. -/
def fnExactTouchPortSpec : ChangeSpec := { name := "fnExactTouchPort", fn := fun _ => fun
  | [d1, d2, d3] => { results := [.lit (.bool true)], args := [d1, d2, d3] }
  | _ => none }
def fnExactTouchPortRow : OpenClaim := { program := "ytpfmlenodgjebaa", sum := "8fc60f25af8691619dd22d15acac3c516d0d1b04fcd0ad1cbc3dfc0cc6ddc479", func := "loop.example/portmapper/laws.FnExactTouchPort", spec := "fnExactTouchPort", unfollowed := true, recurses := true, apart := false }
def FnExactTouchPortSaid : Prop := fnExactTouchPortRow.holds Try.pinned (OpenSpec.ofChange fnExactTouchPortSpec)

/-- ITS FALSE NEIGHBOUR: 'it returns false'. Refute it at one input. -/
def fnExactTouchPortWrong : ChangeSpec := { name := "fnExactTouchPort", fn := fun _ => fun
  | [d1, d2, d3] => { results := [.lit (.bool false)], args := [d1, d2, d3] }
  | _ => none }
def FnExactTouchPortWrongFalsely : Prop := fnExactTouchPortRow.holds Try.pinned (OpenSpec.ofChange fnExactTouchPortWrong)

/-- 'laws.FnExactExpiredPorts': WHATEVER THE INPUT: true; the input reads as it did. -/
def fnExactExpiredPortsSpec : ChangeSpec := { name := "fnExactExpiredPorts", fn := fun _ => fun
  | [d1, d2, d3] => { results := [.lit (.bool true)], args := [d1, d2, d3] }
  | _ => none }
def fnExactExpiredPortsRow : OpenClaim := { program := "ytpfmlenodgjebaa", sum := "8fc60f25af8691619dd22d15acac3c516d0d1b04fcd0ad1cbc3dfc0cc6ddc479", func := "loop.example/portmapper/laws.FnExactExpiredPorts", spec := "fnExactExpiredPorts", unfollowed := true, recurses := true, apart := false }
def FnExactExpiredPortsSaid : Prop := fnExactExpiredPortsRow.holds Try.pinned (OpenSpec.ofChange fnExactExpiredPortsSpec)

/-- ITS FALSE NEIGHBOUR: 'it returns false'. Refute it at one input. -/
def fnExactExpiredPortsWrong : ChangeSpec := { name := "fnExactExpiredPorts", fn := fun _ => fun
  | [d1, d2, d3] => { results := [.lit (.bool false)], args := [d1, d2, d3] }
  | _ => none }
def FnExactExpiredPortsWrongFalsely : Prop := fnExactExpiredPortsRow.holds Try.pinned (OpenSpec.ofChange fnExactExpiredPortsWrong)

/-- 'laws.FnTouchPort': WHATEVER THE INPUT: true; the input reads as it did. -/
def fnTouchPortSpec : ChangeSpec := { name := "fnTouchPort", fn := fun _ => fun
  | [d] => { results := [.lit (.bool true)], args := [d] }
  | _ => none }
def fnTouchPortRow : OpenClaim := { program := "ytpfmlenodgjebaa", sum := "8fc60f25af8691619dd22d15acac3c516d0d1b04fcd0ad1cbc3dfc0cc6ddc479", func := "loop.example/portmapper/laws.FnTouchPort", spec := "fnTouchPort", unfollowed := true, recurses := true, apart := false }
def FnTouchPortSaid : Prop := fnTouchPortRow.holds Try.pinned (OpenSpec.ofChange fnTouchPortSpec)

/-- ITS FALSE NEIGHBOUR: 'it returns false'. Refute it at one input. -/
def fnTouchPortWrong : ChangeSpec := { name := "fnTouchPort", fn := fun _ => fun
  | [d] => { results := [.lit (.bool false)], args := [d] }
  | _ => none }
def FnTouchPortWrongFalsely : Prop := fnTouchPortRow.holds Try.pinned (OpenSpec.ofChange fnTouchPortWrong)

/-- 'laws.FnTouchPortTwice': WHATEVER THE INPUT: true; the input reads as it did. -/
def fnTouchPortTwiceSpec : ChangeSpec := { name := "fnTouchPortTwice", fn := fun _ => fun
  | [d] => { results := [.lit (.bool true)], args := [d] }
  | _ => none }
def fnTouchPortTwiceRow : OpenClaim := { program := "ytpfmlenodgjebaa", sum := "8fc60f25af8691619dd22d15acac3c516d0d1b04fcd0ad1cbc3dfc0cc6ddc479", func := "loop.example/portmapper/laws.FnTouchPortTwice", spec := "fnTouchPortTwice", unfollowed := true, recurses := true, apart := false }
def FnTouchPortTwiceSaid : Prop := fnTouchPortTwiceRow.holds Try.pinned (OpenSpec.ofChange fnTouchPortTwiceSpec)

/-- ITS FALSE NEIGHBOUR: 'it returns false'. Refute it at one input. -/
def fnTouchPortTwiceWrong : ChangeSpec := { name := "fnTouchPortTwice", fn := fun _ => fun
  | [d] => { results := [.lit (.bool false)], args := [d] }
  | _ => none }
def FnTouchPortTwiceWrongFalsely : Prop := fnTouchPortTwiceRow.holds Try.pinned (OpenSpec.ofChange fnTouchPortTwiceWrong)

/-- 'laws.FnExactExpireTable': WHATEVER THE INPUT: true; the input reads as it did. -/
def fnExactExpireTableSpec : ChangeSpec := { name := "fnExactExpireTable", fn := fun _ => fun
  | [d1, d2, d3] => { results := [.lit (.bool true)], args := [d1, d2, d3] }
  | _ => none }
def fnExactExpireTableRow : OpenClaim := { program := "ytpfmlenodgjebaa", sum := "8fc60f25af8691619dd22d15acac3c516d0d1b04fcd0ad1cbc3dfc0cc6ddc479", func := "loop.example/portmapper/laws.FnExactExpireTable", spec := "fnExactExpireTable", unfollowed := true, recurses := true, apart := false }
def FnExactExpireTableSaid : Prop := fnExactExpireTableRow.holds Try.pinned (OpenSpec.ofChange fnExactExpireTableSpec)

/-- ITS FALSE NEIGHBOUR: 'it returns false'. Refute it at one input. -/
def fnExactExpireTableWrong : ChangeSpec := { name := "fnExactExpireTable", fn := fun _ => fun
  | [d1, d2, d3] => { results := [.lit (.bool false)], args := [d1, d2, d3] }
  | _ => none }
def FnExactExpireTableWrongFalsely : Prop := fnExactExpireTableRow.holds Try.pinned (OpenSpec.ofChange fnExactExpireTableWrong)

/-- 'laws.FnNextExpiryTouch': WHATEVER THE INPUT: true; the input reads as it did. -/
def fnNextExpiryTouchSpec : ChangeSpec := { name := "fnNextExpiryTouch", fn := fun _ => fun
  | [d] => { results := [.lit (.bool true)], args := [d] }
  | _ => none }
def fnNextExpiryTouchRow : OpenClaim := { program := "ytpfmlenodgjebaa", sum := "8fc60f25af8691619dd22d15acac3c516d0d1b04fcd0ad1cbc3dfc0cc6ddc479", func := "loop.example/portmapper/laws.FnNextExpiryTouch", spec := "fnNextExpiryTouch", unfollowed := true, recurses := true, apart := false }
def FnNextExpiryTouchSaid : Prop := fnNextExpiryTouchRow.holds Try.pinned (OpenSpec.ofChange fnNextExpiryTouchSpec)

/-- ITS FALSE NEIGHBOUR: 'it returns false'. Refute it at one input. -/
def fnNextExpiryTouchWrong : ChangeSpec := { name := "fnNextExpiryTouch", fn := fun _ => fun
  | [d] => { results := [.lit (.bool false)], args := [d] }
  | _ => none }
def FnNextExpiryTouchWrongFalsely : Prop := fnNextExpiryTouchRow.holds Try.pinned (OpenSpec.ofChange fnNextExpiryTouchWrong)

/-- 'laws.FnNextExpiry': WHATEVER THE INPUT: true; the input reads as it did. -/
def fnNextExpirySpec : ChangeSpec := { name := "fnNextExpiry", fn := fun _ => fun
  | [d] => { results := [.lit (.bool true)], args := [d] }
  | _ => none }
def fnNextExpiryRow : OpenClaim := { program := "ytpfmlenodgjebaa", sum := "8fc60f25af8691619dd22d15acac3c516d0d1b04fcd0ad1cbc3dfc0cc6ddc479", func := "loop.example/portmapper/laws.FnNextExpiry", spec := "fnNextExpiry", unfollowed := true, recurses := true, apart := false }
def FnNextExpirySaid : Prop := fnNextExpiryRow.holds Try.pinned (OpenSpec.ofChange fnNextExpirySpec)

/-- ITS FALSE NEIGHBOUR: 'it returns false'. Refute it at one input. -/
def fnNextExpiryWrong : ChangeSpec := { name := "fnNextExpiry", fn := fun _ => fun
  | [d] => { results := [.lit (.bool false)], args := [d] }
  | _ => none }
def FnNextExpiryWrongFalsely : Prop := fnNextExpiryRow.holds Try.pinned (OpenSpec.ofChange fnNextExpiryWrong)

/-- 'laws.FnExpireTable': WHATEVER THE INPUT: true; the input reads as it did. -/
def fnExpireTableSpec : ChangeSpec := { name := "fnExpireTable", fn := fun _ => fun
  | [d] => { results := [.lit (.bool true)], args := [d] }
  | _ => none }
def fnExpireTableRow : OpenClaim := { program := "ytpfmlenodgjebaa", sum := "8fc60f25af8691619dd22d15acac3c516d0d1b04fcd0ad1cbc3dfc0cc6ddc479", func := "loop.example/portmapper/laws.FnExpireTable", spec := "fnExpireTable", unfollowed := true, recurses := true, apart := false }
def FnExpireTableSaid : Prop := fnExpireTableRow.holds Try.pinned (OpenSpec.ofChange fnExpireTableSpec)

/-- ITS FALSE NEIGHBOUR: 'it returns false'. Refute it at one input. -/
def fnExpireTableWrong : ChangeSpec := { name := "fnExpireTable", fn := fun _ => fun
  | [d] => { results := [.lit (.bool false)], args := [d] }
  | _ => none }
def FnExpireTableWrongFalsely : Prop := fnExpireTableRow.holds Try.pinned (OpenSpec.ofChange fnExpireTableWrong)

/-- 'laws.FnExpireTableLater': WHATEVER THE INPUT: true; the input reads as it did. -/
def fnExpireTableLaterSpec : ChangeSpec := { name := "fnExpireTableLater", fn := fun _ => fun
  | [d] => { results := [.lit (.bool true)], args := [d] }
  | _ => none }
def fnExpireTableLaterRow : OpenClaim := { program := "ytpfmlenodgjebaa", sum := "8fc60f25af8691619dd22d15acac3c516d0d1b04fcd0ad1cbc3dfc0cc6ddc479", func := "loop.example/portmapper/laws.FnExpireTableLater", spec := "fnExpireTableLater", unfollowed := true, recurses := true, apart := false }
def FnExpireTableLaterSaid : Prop := fnExpireTableLaterRow.holds Try.pinned (OpenSpec.ofChange fnExpireTableLaterSpec)

/-- ITS FALSE NEIGHBOUR: 'it returns false'. Refute it at one input. -/
def fnExpireTableLaterWrong : ChangeSpec := { name := "fnExpireTableLater", fn := fun _ => fun
  | [d] => { results := [.lit (.bool false)], args := [d] }
  | _ => none }
def FnExpireTableLaterWrongFalsely : Prop := fnExpireTableLaterRow.holds Try.pinned (OpenSpec.ofChange fnExpireTableLaterWrong)

/-- 'laws.FnExpireTableTwice': WHATEVER THE INPUT: true; the input reads as it did. -/
def fnExpireTableTwiceSpec : ChangeSpec := { name := "fnExpireTableTwice", fn := fun _ => fun
  | [d] => { results := [.lit (.bool true)], args := [d] }
  | _ => none }
def fnExpireTableTwiceRow : OpenClaim := { program := "ytpfmlenodgjebaa", sum := "8fc60f25af8691619dd22d15acac3c516d0d1b04fcd0ad1cbc3dfc0cc6ddc479", func := "loop.example/portmapper/laws.FnExpireTableTwice", spec := "fnExpireTableTwice", unfollowed := true, recurses := true, apart := false }
def FnExpireTableTwiceSaid : Prop := fnExpireTableTwiceRow.holds Try.pinned (OpenSpec.ofChange fnExpireTableTwiceSpec)

/-- ITS FALSE NEIGHBOUR: 'it returns false'. Refute it at one input. -/
def fnExpireTableTwiceWrong : ChangeSpec := { name := "fnExpireTableTwice", fn := fun _ => fun
  | [d] => { results := [.lit (.bool false)], args := [d] }
  | _ => none }
def FnExpireTableTwiceWrongFalsely : Prop := fnExpireTableTwiceRow.holds Try.pinned (OpenSpec.ofChange fnExpireTableTwiceWrong)

/-- 'laws.FnExpiredPortsNone': WHATEVER THE INPUT: true; the input reads as it did. -/
def fnExpiredPortsNoneSpec : ChangeSpec := { name := "fnExpiredPortsNone", fn := fun _ => fun
  | [d] => { results := [.lit (.bool true)], args := [d] }
  | _ => none }
def fnExpiredPortsNoneRow : OpenClaim := { program := "ytpfmlenodgjebaa", sum := "8fc60f25af8691619dd22d15acac3c516d0d1b04fcd0ad1cbc3dfc0cc6ddc479", func := "loop.example/portmapper/laws.FnExpiredPortsNone", spec := "fnExpiredPortsNone", unfollowed := true, recurses := true, apart := false }
def FnExpiredPortsNoneSaid : Prop := fnExpiredPortsNoneRow.holds Try.pinned (OpenSpec.ofChange fnExpiredPortsNoneSpec)

/-- ITS FALSE NEIGHBOUR: 'it returns false'. Refute it at one input. -/
def fnExpiredPortsNoneWrong : ChangeSpec := { name := "fnExpiredPortsNone", fn := fun _ => fun
  | [d] => { results := [.lit (.bool false)], args := [d] }
  | _ => none }
def FnExpiredPortsNoneWrongFalsely : Prop := fnExpiredPortsNoneRow.holds Try.pinned (OpenSpec.ofChange fnExpiredPortsNoneWrong)

/-- 'laws.FnExpiredPorts': WHATEVER THE INPUT: true; the input reads as it did. -/
def fnExpiredPortsSpec : ChangeSpec := { name := "fnExpiredPorts", fn := fun _ => fun
  | [d] => { results := [.lit (.bool true)], args := [d] }
  | _ => none }
def fnExpiredPortsRow : OpenClaim := { program := "ytpfmlenodgjebaa", sum := "8fc60f25af8691619dd22d15acac3c516d0d1b04fcd0ad1cbc3dfc0cc6ddc479", func := "loop.example/portmapper/laws.FnExpiredPorts", spec := "fnExpiredPorts", unfollowed := true, recurses := true, apart := false }
def FnExpiredPortsSaid : Prop := fnExpiredPortsRow.holds Try.pinned (OpenSpec.ofChange fnExpiredPortsSpec)

/-- ITS FALSE NEIGHBOUR: 'it returns false'. Refute it at one input. -/
def fnExpiredPortsWrong : ChangeSpec := { name := "fnExpiredPorts", fn := fun _ => fun
  | [d] => { results := [.lit (.bool false)], args := [d] }
  | _ => none }
def FnExpiredPortsWrongFalsely : Prop := fnExpiredPortsRow.holds Try.pinned (OpenSpec.ofChange fnExpiredPortsWrong)

/- THE SECOND FORM. 'bulk': how many values and letters a reading holds, each counted each time it is reached (what is shared counts as often as it is met; a slice's spare places count too). A statement '..UptoSaid' is the law's where the arguments, and the package variables that the reading takes, are together of bulk at most 1048576: NARROWER than '..Said'. Prove '..Said' where nothing that the law and all that it calls make is longer than what came in: it says more and counts as full. Else prove '..UptoSaid'. A law counts once. -/
mutual
def uptoBulk {H : Type} : DataW H → Nat
  | .lit (.string bytes) => bytes.length + 1
  | .lit _ => 1
  | .nil => 1
  | .ptr d => uptoBulk d + 1
  | .slice elems spare => uptoBulkAll elems + uptoBulkAll spare + 1
  | .agg parts => uptoBulkAll parts + 1
  | .iface _ d => uptoBulk d + 1
  | .map entries => uptoBulkEntries entries + 1
  | .held _ => 1
def uptoBulkAll {H : Type} : List (DataW H) → Nat
  | [] => 0
  | d :: r => uptoBulk d + uptoBulkAll r
def uptoBulkEntries {H : Type} : List (Lit × DataW H) → Nat
  | [] => 0
  | x :: r => uptoBulkEntry x + uptoBulkEntries r
def uptoBulkEntry {H : Type} : Lit × DataW H → Nat
  | (.string bytes, d) => bytes.length + uptoBulk d + 1
  | (_, d) => uptoBulk d + 1
 end
def uptoSmall : (H : Type) → List (DataW H) → Bool := fun _ ds => decide (uptoBulkAll ds ≤ 1048576)
def OpenSpec.upto (s : _root_.Go.ChangeSpec) : _root_.Go.OpenSpec := { _root_.Go.OpenSpec.ofChange s with cond := some uptoSmall }

/-- 'laws.FnFreePortMap', WHERE WHAT IT READS IS OF BULK AT MOST 1048576: true; the input reads as it did. -/
def fnFreePortMapUptoRow : OpenClaim := { program := "ytpfmlenodgjebaa", sum := "8fc60f25af8691619dd22d15acac3c516d0d1b04fcd0ad1cbc3dfc0cc6ddc479", func := "loop.example/portmapper/laws.FnFreePortMap", spec := "fnFreePortMap", unfollowed := true, recurses := true, apart := false, narrowed := true }
def FnFreePortMapUptoSaid : Prop := fnFreePortMapUptoRow.holds Try.pinned (OpenSpec.upto fnFreePortMapSpec)

/-- 'laws.FnMapEnd', WHERE WHAT IT READS IS OF BULK AT MOST 1048576: true; the input reads as it did. -/
def fnMapEndUptoRow : OpenClaim := { program := "ytpfmlenodgjebaa", sum := "8fc60f25af8691619dd22d15acac3c516d0d1b04fcd0ad1cbc3dfc0cc6ddc479", func := "loop.example/portmapper/laws.FnMapEnd", spec := "fnMapEnd", unfollowed := true, recurses := true, apart := false, narrowed := true }
def FnMapEndUptoSaid : Prop := fnMapEndUptoRow.holds Try.pinned (OpenSpec.upto fnMapEndSpec)

/-- 'laws.FnMapEndTwice', WHERE WHAT IT READS IS OF BULK AT MOST 1048576: true; the input reads as it did. -/
def fnMapEndTwiceUptoRow : OpenClaim := { program := "ytpfmlenodgjebaa", sum := "8fc60f25af8691619dd22d15acac3c516d0d1b04fcd0ad1cbc3dfc0cc6ddc479", func := "loop.example/portmapper/laws.FnMapEndTwice", spec := "fnMapEndTwice", unfollowed := true, recurses := true, apart := false, narrowed := true }
def FnMapEndTwiceUptoSaid : Prop := fnMapEndTwiceUptoRow.holds Try.pinned (OpenSpec.upto fnMapEndTwiceSpec)

/-- 'laws.FnMapEndLast', WHERE WHAT IT READS IS OF BULK AT MOST 1048576: true; the input reads as it did. -/
def fnMapEndLastUptoRow : OpenClaim := { program := "ytpfmlenodgjebaa", sum := "8fc60f25af8691619dd22d15acac3c516d0d1b04fcd0ad1cbc3dfc0cc6ddc479", func := "loop.example/portmapper/laws.FnMapEndLast", spec := "fnMapEndLast", unfollowed := true, recurses := true, apart := false, narrowed := true }
def FnMapEndLastUptoSaid : Prop := fnMapEndLastUptoRow.holds Try.pinned (OpenSpec.upto fnMapEndLastSpec)

/-- 'laws.FnMapEndNew', WHERE WHAT IT READS IS OF BULK AT MOST 1048576: true; the input reads as it did. -/
def fnMapEndNewUptoRow : OpenClaim := { program := "ytpfmlenodgjebaa", sum := "8fc60f25af8691619dd22d15acac3c516d0d1b04fcd0ad1cbc3dfc0cc6ddc479", func := "loop.example/portmapper/laws.FnMapEndNew", spec := "fnMapEndNew", unfollowed := true, recurses := true, apart := false, narrowed := true }
def FnMapEndNewUptoSaid : Prop := fnMapEndNewUptoRow.holds Try.pinned (OpenSpec.upto fnMapEndNewSpec)

/-- 'laws.FnExactMapEnd', WHERE WHAT IT READS IS OF BULK AT MOST 1048576: true; the input reads as it did. -/
def fnExactMapEndUptoRow : OpenClaim := { program := "ytpfmlenodgjebaa", sum := "8fc60f25af8691619dd22d15acac3c516d0d1b04fcd0ad1cbc3dfc0cc6ddc479", func := "loop.example/portmapper/laws.FnExactMapEnd", spec := "fnExactMapEnd", unfollowed := true, recurses := true, apart := false, narrowed := true }
def FnExactMapEndUptoSaid : Prop := fnExactMapEndUptoRow.holds Try.pinned (OpenSpec.upto fnExactMapEndSpec)

/-- 'laws.FnExactNextExpiry', WHERE WHAT IT READS IS OF BULK AT MOST 1048576: true; the input reads as it did. -/
def fnExactNextExpiryUptoRow : OpenClaim := { program := "ytpfmlenodgjebaa", sum := "8fc60f25af8691619dd22d15acac3c516d0d1b04fcd0ad1cbc3dfc0cc6ddc479", func := "loop.example/portmapper/laws.FnExactNextExpiry", spec := "fnExactNextExpiry", unfollowed := true, recurses := true, apart := false, narrowed := true }
def FnExactNextExpiryUptoSaid : Prop := fnExactNextExpiryUptoRow.holds Try.pinned (OpenSpec.upto fnExactNextExpirySpec)

/-- 'laws.FnNextExpiryNone', WHERE WHAT IT READS IS OF BULK AT MOST 1048576: true; the input reads as it did. -/
def fnNextExpiryNoneUptoRow : OpenClaim := { program := "ytpfmlenodgjebaa", sum := "8fc60f25af8691619dd22d15acac3c516d0d1b04fcd0ad1cbc3dfc0cc6ddc479", func := "loop.example/portmapper/laws.FnNextExpiryNone", spec := "fnNextExpiryNone", unfollowed := true, recurses := true, apart := false, narrowed := true }
def FnNextExpiryNoneUptoSaid : Prop := fnNextExpiryNoneUptoRow.holds Try.pinned (OpenSpec.upto fnNextExpiryNoneSpec)

/-- 'laws.FnExactTouchPort', WHERE WHAT IT READS IS OF BULK AT MOST 1048576: true; the input reads as it did. -/
def fnExactTouchPortUptoRow : OpenClaim := { program := "ytpfmlenodgjebaa", sum := "8fc60f25af8691619dd22d15acac3c516d0d1b04fcd0ad1cbc3dfc0cc6ddc479", func := "loop.example/portmapper/laws.FnExactTouchPort", spec := "fnExactTouchPort", unfollowed := true, recurses := true, apart := false, narrowed := true }
def FnExactTouchPortUptoSaid : Prop := fnExactTouchPortUptoRow.holds Try.pinned (OpenSpec.upto fnExactTouchPortSpec)

/-- 'laws.FnExactExpiredPorts', WHERE WHAT IT READS IS OF BULK AT MOST 1048576: true; the input reads as it did. -/
def fnExactExpiredPortsUptoRow : OpenClaim := { program := "ytpfmlenodgjebaa", sum := "8fc60f25af8691619dd22d15acac3c516d0d1b04fcd0ad1cbc3dfc0cc6ddc479", func := "loop.example/portmapper/laws.FnExactExpiredPorts", spec := "fnExactExpiredPorts", unfollowed := true, recurses := true, apart := false, narrowed := true }
def FnExactExpiredPortsUptoSaid : Prop := fnExactExpiredPortsUptoRow.holds Try.pinned (OpenSpec.upto fnExactExpiredPortsSpec)

/-- 'laws.FnTouchPort', WHERE WHAT IT READS IS OF BULK AT MOST 1048576: true; the input reads as it did. -/
def fnTouchPortUptoRow : OpenClaim := { program := "ytpfmlenodgjebaa", sum := "8fc60f25af8691619dd22d15acac3c516d0d1b04fcd0ad1cbc3dfc0cc6ddc479", func := "loop.example/portmapper/laws.FnTouchPort", spec := "fnTouchPort", unfollowed := true, recurses := true, apart := false, narrowed := true }
def FnTouchPortUptoSaid : Prop := fnTouchPortUptoRow.holds Try.pinned (OpenSpec.upto fnTouchPortSpec)

/-- 'laws.FnTouchPortTwice', WHERE WHAT IT READS IS OF BULK AT MOST 1048576: true; the input reads as it did. -/
def fnTouchPortTwiceUptoRow : OpenClaim := { program := "ytpfmlenodgjebaa", sum := "8fc60f25af8691619dd22d15acac3c516d0d1b04fcd0ad1cbc3dfc0cc6ddc479", func := "loop.example/portmapper/laws.FnTouchPortTwice", spec := "fnTouchPortTwice", unfollowed := true, recurses := true, apart := false, narrowed := true }
def FnTouchPortTwiceUptoSaid : Prop := fnTouchPortTwiceUptoRow.holds Try.pinned (OpenSpec.upto fnTouchPortTwiceSpec)

/-- 'laws.FnExactExpireTable', WHERE WHAT IT READS IS OF BULK AT MOST 1048576: true; the input reads as it did. -/
def fnExactExpireTableUptoRow : OpenClaim := { program := "ytpfmlenodgjebaa", sum := "8fc60f25af8691619dd22d15acac3c516d0d1b04fcd0ad1cbc3dfc0cc6ddc479", func := "loop.example/portmapper/laws.FnExactExpireTable", spec := "fnExactExpireTable", unfollowed := true, recurses := true, apart := false, narrowed := true }
def FnExactExpireTableUptoSaid : Prop := fnExactExpireTableUptoRow.holds Try.pinned (OpenSpec.upto fnExactExpireTableSpec)

/-- 'laws.FnNextExpiryTouch', WHERE WHAT IT READS IS OF BULK AT MOST 1048576: true; the input reads as it did. -/
def fnNextExpiryTouchUptoRow : OpenClaim := { program := "ytpfmlenodgjebaa", sum := "8fc60f25af8691619dd22d15acac3c516d0d1b04fcd0ad1cbc3dfc0cc6ddc479", func := "loop.example/portmapper/laws.FnNextExpiryTouch", spec := "fnNextExpiryTouch", unfollowed := true, recurses := true, apart := false, narrowed := true }
def FnNextExpiryTouchUptoSaid : Prop := fnNextExpiryTouchUptoRow.holds Try.pinned (OpenSpec.upto fnNextExpiryTouchSpec)

/-- 'laws.FnNextExpiry', WHERE WHAT IT READS IS OF BULK AT MOST 1048576: true; the input reads as it did. -/
def fnNextExpiryUptoRow : OpenClaim := { program := "ytpfmlenodgjebaa", sum := "8fc60f25af8691619dd22d15acac3c516d0d1b04fcd0ad1cbc3dfc0cc6ddc479", func := "loop.example/portmapper/laws.FnNextExpiry", spec := "fnNextExpiry", unfollowed := true, recurses := true, apart := false, narrowed := true }
def FnNextExpiryUptoSaid : Prop := fnNextExpiryUptoRow.holds Try.pinned (OpenSpec.upto fnNextExpirySpec)

/-- 'laws.FnExpireTable', WHERE WHAT IT READS IS OF BULK AT MOST 1048576: true; the input reads as it did. -/
def fnExpireTableUptoRow : OpenClaim := { program := "ytpfmlenodgjebaa", sum := "8fc60f25af8691619dd22d15acac3c516d0d1b04fcd0ad1cbc3dfc0cc6ddc479", func := "loop.example/portmapper/laws.FnExpireTable", spec := "fnExpireTable", unfollowed := true, recurses := true, apart := false, narrowed := true }
def FnExpireTableUptoSaid : Prop := fnExpireTableUptoRow.holds Try.pinned (OpenSpec.upto fnExpireTableSpec)

/-- 'laws.FnExpireTableLater', WHERE WHAT IT READS IS OF BULK AT MOST 1048576: true; the input reads as it did. -/
def fnExpireTableLaterUptoRow : OpenClaim := { program := "ytpfmlenodgjebaa", sum := "8fc60f25af8691619dd22d15acac3c516d0d1b04fcd0ad1cbc3dfc0cc6ddc479", func := "loop.example/portmapper/laws.FnExpireTableLater", spec := "fnExpireTableLater", unfollowed := true, recurses := true, apart := false, narrowed := true }
def FnExpireTableLaterUptoSaid : Prop := fnExpireTableLaterUptoRow.holds Try.pinned (OpenSpec.upto fnExpireTableLaterSpec)

/-- 'laws.FnExpireTableTwice', WHERE WHAT IT READS IS OF BULK AT MOST 1048576: true; the input reads as it did. -/
def fnExpireTableTwiceUptoRow : OpenClaim := { program := "ytpfmlenodgjebaa", sum := "8fc60f25af8691619dd22d15acac3c516d0d1b04fcd0ad1cbc3dfc0cc6ddc479", func := "loop.example/portmapper/laws.FnExpireTableTwice", spec := "fnExpireTableTwice", unfollowed := true, recurses := true, apart := false, narrowed := true }
def FnExpireTableTwiceUptoSaid : Prop := fnExpireTableTwiceUptoRow.holds Try.pinned (OpenSpec.upto fnExpireTableTwiceSpec)

/-- 'laws.FnExpiredPortsNone', WHERE WHAT IT READS IS OF BULK AT MOST 1048576: true; the input reads as it did. -/
def fnExpiredPortsNoneUptoRow : OpenClaim := { program := "ytpfmlenodgjebaa", sum := "8fc60f25af8691619dd22d15acac3c516d0d1b04fcd0ad1cbc3dfc0cc6ddc479", func := "loop.example/portmapper/laws.FnExpiredPortsNone", spec := "fnExpiredPortsNone", unfollowed := true, recurses := true, apart := false, narrowed := true }
def FnExpiredPortsNoneUptoSaid : Prop := fnExpiredPortsNoneUptoRow.holds Try.pinned (OpenSpec.upto fnExpiredPortsNoneSpec)

/-- 'laws.FnExpiredPorts', WHERE WHAT IT READS IS OF BULK AT MOST 1048576: true; the input reads as it did. -/
def fnExpiredPortsUptoRow : OpenClaim := { program := "ytpfmlenodgjebaa", sum := "8fc60f25af8691619dd22d15acac3c516d0d1b04fcd0ad1cbc3dfc0cc6ddc479", func := "loop.example/portmapper/laws.FnExpiredPorts", spec := "fnExpiredPorts", unfollowed := true, recurses := true, apart := false, narrowed := true }
def FnExpiredPortsUptoSaid : Prop := fnExpiredPortsUptoRow.holds Try.pinned (OpenSpec.upto fnExpiredPortsSpec)

end Rows
end Go.Proofs.Ytpfmlenodgjebaa
