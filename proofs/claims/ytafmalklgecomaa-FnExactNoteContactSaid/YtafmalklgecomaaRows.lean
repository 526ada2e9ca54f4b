/-
  No cell of these rows narrows 'for every input' (looked for: loops, veiled, ifaces, maps, wideKeys, modest, calm, conditions, laid).
  DERIVED. THE GIVEN ROWS OF THIS SEAT. 14 by the template 'for every input the law returns true; each argument reads behind the call as it read before'; 0 by the template 'total and deterministic' (their statements: YtafmalklgecomaaTotals.lean).
  GIVEN WITH THE SEED: the statements are not yours to turn. If you find one false, say at which input.
  Laid BY PROGRAM, IN A SANDBOX (cutbox-rows.mjs): the forced cells as the released guide's own fill.sh prints them over the translation 010327a17f0aa9d8… (all of the seat's roots in one cut). By AI agents, Wed Nov 11 2026. No macro, syntax, notation, axiom, sorry.
-/
import Derived.Test.YtafmalklgecomaaChecked
import GoSem.Claim
import GoSem.ClaimJoined
import GoSem.ClaimMapViews
import Derived.JoinedTies
import Derived.KernelRfl
namespace Go.Proofs.Ytafmalklgecomaa
/- THE CELL 'sum', in the pinned program and in every row, IS THE sha256 OF THE DUMP (.gsa) THAT YtafmalklgecomaaProg.lean LOADS. Nothing in Lean hashes anything: it is a label: what it is worth is what the hold of that sum in a sandbox is worth. -/
noncomputable def Try.pinned : Pinned := { name := "ytafmalklgecomaa", sum := "010327a17f0aa9d895f8fba6409991169aee9e624cbb91207ab7c33ba50a6a61", checked := Try.checked }
namespace Rows
def none {H : Type} : Left H := { results := [], args := [] }

/-- 'laws.FnValidContacts': WHATEVER THE INPUT: true; the input reads as it did. -/
def fnValidContactsSpec : ChangeSpec := { name := "fnValidContacts", fn := fun _ => fun
  | [d] => { results := [.lit (.bool true)], args := [d] }
  | _ => none }
def fnValidContactsRow : OpenClaim := { program := "ytafmalklgecomaa", sum := "010327a17f0aa9d895f8fba6409991169aee9e624cbb91207ab7c33ba50a6a61", func := "loop.example/portmapper/laws.FnValidContacts", spec := "fnValidContacts", apart := false }
def FnValidContactsSaid : Prop := fnValidContactsRow.holds Try.pinned (OpenSpec.ofChange fnValidContactsSpec)

/-- ITS FALSE NEIGHBOUR: 'it returns false'. Refute it at one input. -/
def fnValidContactsWrong : ChangeSpec := { name := "fnValidContacts", fn := fun _ => fun
  | [d] => { results := [.lit (.bool false)], args := [d] }
  | _ => none }
def FnValidContactsWrongFalsely : Prop := fnValidContactsRow.holds Try.pinned (OpenSpec.ofChange fnValidContactsWrong)

/-- 'laws.FnExactLetsIn': WHATEVER THE INPUT: true; the input reads as it did. -/
def fnExactLetsInSpec : ChangeSpec := { name := "fnExactLetsIn", fn := fun _ => fun
  | [d1, d2, d3, d4] => { results := [.lit (.bool true)], args := [d1, d2, d3, d4] }
  | _ => none }
def fnExactLetsInRow : OpenClaim := { program := "ytafmalklgecomaa", sum := "010327a17f0aa9d895f8fba6409991169aee9e624cbb91207ab7c33ba50a6a61", func := "loop.example/portmapper/laws.FnExactLetsIn", spec := "fnExactLetsIn", unfollowed := true, recurses := true, apart := false }
def FnExactLetsInSaid : Prop := fnExactLetsInRow.holds Try.pinned (OpenSpec.ofChange fnExactLetsInSpec)

/-- ITS FALSE NEIGHBOUR: 'it returns false'. Refute it at one input. -/
def fnExactLetsInWrong : ChangeSpec := { name := "fnExactLetsIn", fn := fun _ => fun
  | [d1, d2, d3, d4] => { results := [.lit (.bool false)], args := [d1, d2, d3, d4] }
  | _ => none }
def FnExactLetsInWrongFalsely : Prop := fnExactLetsInRow.holds Try.pinned (OpenSpec.ofChange fnExactLetsInWrong)

/-- 'laws.FnLetsIn': WHATEVER THE INPUT: true; the input reads as it did. -/
def fnLetsInSpec : ChangeSpec := { name := "fnLetsIn", fn := fun _ => fun
  | [d] => { results := [.lit (.bool true)], args := [d] }
  | _ => none }
def fnLetsInRow : OpenClaim := { program := "ytafmalklgecomaa", sum := "010327a17f0aa9d895f8fba6409991169aee9e624cbb91207ab7c33ba50a6a61", func := "loop.example/portmapper/laws.FnLetsIn", spec := "fnLetsIn", unfollowed := true, recurses := true, apart := false }
def FnLetsInSaid : Prop := fnLetsInRow.holds Try.pinned (OpenSpec.ofChange fnLetsInSpec)

/-- ITS FALSE NEIGHBOUR: 'it returns false'. Refute it at one input. -/
def fnLetsInWrong : ChangeSpec := { name := "fnLetsIn", fn := fun _ => fun
  | [d] => { results := [.lit (.bool false)], args := [d] }
  | _ => none }
def FnLetsInWrongFalsely : Prop := fnLetsInRow.holds Try.pinned (OpenSpec.ofChange fnLetsInWrong)

/-- 'laws.FnLetsInContact': WHATEVER THE INPUT: true; the input reads as it did. -/
def fnLetsInContactSpec : ChangeSpec := { name := "fnLetsInContact", fn := fun _ => fun
  | [d] => { results := [.lit (.bool true)], args := [d] }
  | _ => none }
def fnLetsInContactRow : OpenClaim := { program := "ytafmalklgecomaa", sum := "010327a17f0aa9d895f8fba6409991169aee9e624cbb91207ab7c33ba50a6a61", func := "loop.example/portmapper/laws.FnLetsInContact", spec := "fnLetsInContact", unfollowed := true, recurses := true, apart := false }
def FnLetsInContactSaid : Prop := fnLetsInContactRow.holds Try.pinned (OpenSpec.ofChange fnLetsInContactSpec)

/-- ITS FALSE NEIGHBOUR: 'it returns false'. Refute it at one input. -/
def fnLetsInContactWrong : ChangeSpec := { name := "fnLetsInContact", fn := fun _ => fun
  | [d] => { results := [.lit (.bool false)], args := [d] }
  | _ => none }
def FnLetsInContactWrongFalsely : Prop := fnLetsInContactRow.holds Try.pinned (OpenSpec.ofChange fnLetsInContactWrong)

/-- 'laws.FnLetsInNone': WHATEVER THE INPUT: true; the input reads as it did. -/
def fnLetsInNoneSpec : ChangeSpec := { name := "fnLetsInNone", fn := fun _ => fun
  | [d] => { results := [.lit (.bool true)], args := [d] }
  | _ => none }
def fnLetsInNoneRow : OpenClaim := { program := "ytafmalklgecomaa", sum := "010327a17f0aa9d895f8fba6409991169aee9e624cbb91207ab7c33ba50a6a61", func := "loop.example/portmapper/laws.FnLetsInNone", spec := "fnLetsInNone", unfollowed := true, recurses := true, apart := false }
def FnLetsInNoneSaid : Prop := fnLetsInNoneRow.holds Try.pinned (OpenSpec.ofChange fnLetsInNoneSpec)

/-- ITS FALSE NEIGHBOUR: 'it returns false'. Refute it at one input. -/
def fnLetsInNoneWrong : ChangeSpec := { name := "fnLetsInNone", fn := fun _ => fun
  | [d] => { results := [.lit (.bool false)], args := [d] }
  | _ => none }
def FnLetsInNoneWrongFalsely : Prop := fnLetsInNoneRow.holds Try.pinned (OpenSpec.ofChange fnLetsInNoneWrong)

/-- 'laws.FnNoteContactStay': WHATEVER THE INPUT: true; the input reads as it did. -/
def fnNoteContactStaySpec : ChangeSpec := { name := "fnNoteContactStay", fn := fun _ => fun
  | [d] => { results := [.lit (.bool true)], args := [d] }
  | _ => none }
def fnNoteContactStayRow : OpenClaim := { program := "ytafmalklgecomaa", sum := "010327a17f0aa9d895f8fba6409991169aee9e624cbb91207ab7c33ba50a6a61", func := "loop.example/portmapper/laws.FnNoteContactStay", spec := "fnNoteContactStay", unfollowed := true, recurses := true, apart := false }
def FnNoteContactStaySaid : Prop := fnNoteContactStayRow.holds Try.pinned (OpenSpec.ofChange fnNoteContactStaySpec)

/-- ITS FALSE NEIGHBOUR: 'it returns false'. Refute it at one input. -/
def fnNoteContactStayWrong : ChangeSpec := { name := "fnNoteContactStay", fn := fun _ => fun
  | [d] => { results := [.lit (.bool false)], args := [d] }
  | _ => none }
def FnNoteContactStayWrongFalsely : Prop := fnNoteContactStayRow.holds Try.pinned (OpenSpec.ofChange fnNoteContactStayWrong)

/-- 'laws.FnNoteContactTwice': WHATEVER THE INPUT: true; the input reads as it did. -/
def fnNoteContactTwiceSpec : ChangeSpec := { name := "fnNoteContactTwice", fn := fun _ => fun
  | [d] => { results := [.lit (.bool true)], args := [d] }
  | _ => none }
def fnNoteContactTwiceRow : OpenClaim := { program := "ytafmalklgecomaa", sum := "010327a17f0aa9d895f8fba6409991169aee9e624cbb91207ab7c33ba50a6a61", func := "loop.example/portmapper/laws.FnNoteContactTwice", spec := "fnNoteContactTwice", unfollowed := true, recurses := true, apart := false }
def FnNoteContactTwiceSaid : Prop := fnNoteContactTwiceRow.holds Try.pinned (OpenSpec.ofChange fnNoteContactTwiceSpec)

/-- ITS FALSE NEIGHBOUR: 'it returns false'. Refute it at one input. -/
def fnNoteContactTwiceWrong : ChangeSpec := { name := "fnNoteContactTwice", fn := fun _ => fun
  | [d] => { results := [.lit (.bool false)], args := [d] }
  | _ => none }
def FnNoteContactTwiceWrongFalsely : Prop := fnNoteContactTwiceRow.holds Try.pinned (OpenSpec.ofChange fnNoteContactTwiceWrong)

/-- 'laws.FnDropContacts': WHATEVER THE INPUT: true; the input reads as it did. -/
def fnDropContactsSpec : ChangeSpec := { name := "fnDropContacts", fn := fun _ => fun
  | [d] => { results := [.lit (.bool true)], args := [d] }
  | _ => none }
def fnDropContactsRow : OpenClaim := { program := "ytafmalklgecomaa", sum := "010327a17f0aa9d895f8fba6409991169aee9e624cbb91207ab7c33ba50a6a61", func := "loop.example/portmapper/laws.FnDropContacts", spec := "fnDropContacts", unfollowed := true, recurses := true, apart := false }
def FnDropContactsSaid : Prop := fnDropContactsRow.holds Try.pinned (OpenSpec.ofChange fnDropContactsSpec)

/-- ITS FALSE NEIGHBOUR: 'it returns false'. Refute it at one input. -/
def fnDropContactsWrong : ChangeSpec := { name := "fnDropContacts", fn := fun _ => fun
  | [d] => { results := [.lit (.bool false)], args := [d] }
  | _ => none }
def FnDropContactsWrongFalsely : Prop := fnDropContactsRow.holds Try.pinned (OpenSpec.ofChange fnDropContactsWrong)

/-- 'laws.FnDropContactsTwice': WHATEVER THE INPUT: true; the input reads as it did. -/
def fnDropContactsTwiceSpec : ChangeSpec := { name := "fnDropContactsTwice", fn := fun _ => fun
  | [d] => { results := [.lit (.bool true)], args := [d] }
  | _ => none }
def fnDropContactsTwiceRow : OpenClaim := { program := "ytafmalklgecomaa", sum := "010327a17f0aa9d895f8fba6409991169aee9e624cbb91207ab7c33ba50a6a61", func := "loop.example/portmapper/laws.FnDropContactsTwice", spec := "fnDropContactsTwice", unfollowed := true, recurses := true, apart := false }
def FnDropContactsTwiceSaid : Prop := fnDropContactsTwiceRow.holds Try.pinned (OpenSpec.ofChange fnDropContactsTwiceSpec)

/-- ITS FALSE NEIGHBOUR: 'it returns false'. Refute it at one input. -/
def fnDropContactsTwiceWrong : ChangeSpec := { name := "fnDropContactsTwice", fn := fun _ => fun
  | [d] => { results := [.lit (.bool false)], args := [d] }
  | _ => none }
def FnDropContactsTwiceWrongFalsely : Prop := fnDropContactsTwiceRow.holds Try.pinned (OpenSpec.ofChange fnDropContactsTwiceWrong)

/-- 'laws.FnLetsInMore': WHATEVER THE INPUT: true; the input reads as it did. -/
def fnLetsInMoreSpec : ChangeSpec := { name := "fnLetsInMore", fn := fun _ => fun
  | [d] => { results := [.lit (.bool true)], args := [d] }
  | _ => none }
def fnLetsInMoreRow : OpenClaim := { program := "ytafmalklgecomaa", sum := "010327a17f0aa9d895f8fba6409991169aee9e624cbb91207ab7c33ba50a6a61", func := "loop.example/portmapper/laws.FnLetsInMore", spec := "fnLetsInMore", unfollowed := true, recurses := true, apart := false }
def FnLetsInMoreSaid : Prop := fnLetsInMoreRow.holds Try.pinned (OpenSpec.ofChange fnLetsInMoreSpec)

/-- ITS FALSE NEIGHBOUR: 'it returns false'. Refute it at one input. -/
def fnLetsInMoreWrong : ChangeSpec := { name := "fnLetsInMore", fn := fun _ => fun
  | [d] => { results := [.lit (.bool false)], args := [d] }
  | _ => none }
def FnLetsInMoreWrongFalsely : Prop := fnLetsInMoreRow.holds Try.pinned (OpenSpec.ofChange fnLetsInMoreWrong)

/-- 'laws.FnNoteContact': WHATEVER THE INPUT: true; the input reads as it did. -/
def fnNoteContactSpec : ChangeSpec := { name := "fnNoteContact", fn := fun _ => fun
  | [d] => { results := [.lit (.bool true)], args := [d] }
  | _ => none }
def fnNoteContactRow : OpenClaim := { program := "ytafmalklgecomaa", sum := "010327a17f0aa9d895f8fba6409991169aee9e624cbb91207ab7c33ba50a6a61", func := "loop.example/portmapper/laws.FnNoteContact", spec := "fnNoteContact", unfollowed := true, recurses := true, apart := false }
def FnNoteContactSaid : Prop := fnNoteContactRow.holds Try.pinned (OpenSpec.ofChange fnNoteContactSpec)

/-- ITS FALSE NEIGHBOUR: 'it returns false'. Refute it at one input. -/
def fnNoteContactWrong : ChangeSpec := { name := "fnNoteContact", fn := fun _ => fun
  | [d] => { results := [.lit (.bool false)], args := [d] }
  | _ => none }
def FnNoteContactWrongFalsely : Prop := fnNoteContactRow.holds Try.pinned (OpenSpec.ofChange fnNoteContactWrong)

/-- 'laws.FnExactDropContacts': WHATEVER THE INPUT: true; the input reads as it did. -/
def fnExactDropContactsSpec : ChangeSpec := { name := "fnExactDropContacts", fn := fun _ => fun
  | [d1, d2] => { results := [.lit (.bool true)], args := [d1, d2] }
  | _ => none }
def fnExactDropContactsRow : OpenClaim := { program := "ytafmalklgecomaa", sum := "010327a17f0aa9d895f8fba6409991169aee9e624cbb91207ab7c33ba50a6a61", func := "loop.example/portmapper/laws.FnExactDropContacts", spec := "fnExactDropContacts", unfollowed := true, recurses := true, apart := false }
def FnExactDropContactsSaid : Prop := fnExactDropContactsRow.holds Try.pinned (OpenSpec.ofChange fnExactDropContactsSpec)

/-- ITS FALSE NEIGHBOUR: 'it returns false'. Refute it at one input. -/
def fnExactDropContactsWrong : ChangeSpec := { name := "fnExactDropContacts", fn := fun _ => fun
  | [d1, d2] => { results := [.lit (.bool false)], args := [d1, d2] }
  | _ => none }
def FnExactDropContactsWrongFalsely : Prop := fnExactDropContactsRow.holds Try.pinned (OpenSpec.ofChange fnExactDropContactsWrong)

/-- 'laws.FnDropContactsFilter': WHATEVER THE INPUT: true; the input reads as it did. -/
def fnDropContactsFilterSpec : ChangeSpec := { name := "fnDropContactsFilter", fn := fun _ => fun
  | [d] => { results := [.lit (.bool true)], args := [d] }
  | _ => none }
def fnDropContactsFilterRow : OpenClaim := { program := "ytafmalklgecomaa", sum := "010327a17f0aa9d895f8fba6409991169aee9e624cbb91207ab7c33ba50a6a61", func := "loop.example/portmapper/laws.FnDropContactsFilter", spec := "fnDropContactsFilter", unfollowed := true, recurses := true, apart := false }
def FnDropContactsFilterSaid : Prop := fnDropContactsFilterRow.holds Try.pinned (OpenSpec.ofChange fnDropContactsFilterSpec)

/-- ITS FALSE NEIGHBOUR: 'it returns false'. Refute it at one input. -/
def fnDropContactsFilterWrong : ChangeSpec := { name := "fnDropContactsFilter", fn := fun _ => fun
  | [d] => { results := [.lit (.bool false)], args := [d] }
  | _ => none }
def FnDropContactsFilterWrongFalsely : Prop := fnDropContactsFilterRow.holds Try.pinned (OpenSpec.ofChange fnDropContactsFilterWrong)

/-- 'laws.FnExactNoteContact': WHATEVER THE INPUT: true; the input reads as it did. -/
def fnExactNoteContactSpec : ChangeSpec := { name := "fnExactNoteContact", fn := fun _ => fun
  | [d1, d2] => { results := [.lit (.bool true)], args := [d1, d2] }
  | _ => none }
def fnExactNoteContactRow : OpenClaim := { program := "ytafmalklgecomaa", sum := "010327a17f0aa9d895f8fba6409991169aee9e624cbb91207ab7c33ba50a6a61", func := "loop.example/portmapper/laws.FnExactNoteContact", spec := "fnExactNoteContact", unfollowed := true, recurses := true, apart := false }
def FnExactNoteContactSaid : Prop := fnExactNoteContactRow.holds Try.pinned (OpenSpec.ofChange fnExactNoteContactSpec)

/-- ITS FALSE NEIGHBOUR: 'it returns false'. Refute it at one input. -/
def fnExactNoteContactWrong : ChangeSpec := { name := "fnExactNoteContact", fn := fun _ => fun
  | [d1, d2] => { results := [.lit (.bool false)], args := [d1, d2] }
  | _ => none }
def FnExactNoteContactWrongFalsely : Prop := fnExactNoteContactRow.holds Try.pinned (OpenSpec.ofChange fnExactNoteContactWrong)

/- THE SECOND FORM. 'bulk': how many values and letters a reading holds, each counted each time it is reached (what is shared counts as often as it is met; a slice's spare places count too). A statement '..UptoSaid' is the law's where the arguments, and the package variables that the reading takes, are together of bulk at most 1048576: NARROWER than '..Said'. Prove '..Said' where nothing that the law and all that it calls make is longer than what came in: it says more and counts as full. Else prove '..UptoSaid'. A law counts once. -/
mutual
def uptoBulk {H : Type} : DataW H → Nat
  | .lit (.string bytes) => bytes.length + 1
  | .lit _ => 1
  | .nil => 1
  | .ptr d => uptoBulk d + 1
  | .slice elems spare => uptoBulkAll elems + uptoBulkAll spare + 1
  | .agg parts => uptoBulkAll parts + 1
  | .iface _ d => uptoBulk d + 1
  | .map entries => uptoBulkEntries entries + 1
  | .held _ => 1
def uptoBulkAll {H : Type} : List (DataW H) → Nat
  | [] => 0
  | d :: r => uptoBulk d + uptoBulkAll r
def uptoBulkEntries {H : Type} : List (Lit × DataW H) → Nat
  | [] => 0
  | x :: r => uptoBulkEntry x + uptoBulkEntries r
def uptoBulkEntry {H : Type} : Lit × DataW H → Nat
  | (.string bytes, d) => bytes.length + uptoBulk d + 1
  | (_, d) => uptoBulk d + 1
 end
def uptoSmall : (H : Type) → List (DataW H) → Bool := fun _ ds => decide (uptoBulkAll ds ≤ 1048576)
def OpenSpec.upto (s : _root_.Go.ChangeSpec) : _root_.Go.OpenSpec := { _root_.Go.OpenSpec.ofChange s with cond := some uptoSmall }

/-- 'laws.FnValidContacts', WHERE WHAT IT READS IS OF BULK AT MOST 1048576: true; the input reads as it did. -/
def fnValidContactsUptoRow : OpenClaim := { program := "ytafmalklgecomaa", sum := "010327a17f0aa9d895f8fba6409991169aee9e624cbb91207ab7c33ba50a6a61", func := "loop.example/portmapper/laws.FnValidContacts", spec := "fnValidContacts", apart := false, narrowed := true }
def FnValidContactsUptoSaid : Prop := fnValidContactsUptoRow.holds Try.pinned (OpenSpec.upto fnValidContactsSpec)

/-- 'laws.FnExactLetsIn', WHERE WHAT IT READS IS OF BULK AT MOST 1048576: true; the input reads as it did. -/
def fnExactLetsInUptoRow : OpenClaim := { program := "ytafmalklgecomaa", sum := "010327a17f0aa9d895f8fba6409991169aee9e624cbb91207ab7c33ba50a6a61", func := "loop.example/portmapper/laws.FnExactLetsIn", spec := "fnExactLetsIn", unfollowed := true, recurses := true, apart := false, narrowed := true }
def FnExactLetsInUptoSaid : Prop := fnExactLetsInUptoRow.holds Try.pinned (OpenSpec.upto fnExactLetsInSpec)

/-- 'laws.FnLetsIn', WHERE WHAT IT READS IS OF BULK AT MOST 1048576: true; the input reads as it did. -/
def fnLetsInUptoRow : OpenClaim := { program := "ytafmalklgecomaa", sum := "010327a17f0aa9d895f8fba6409991169aee9e624cbb91207ab7c33ba50a6a61", func := "loop.example/portmapper/laws.FnLetsIn", spec := "fnLetsIn", unfollowed := true, recurses := true, apart := false, narrowed := true }
def FnLetsInUptoSaid : Prop := fnLetsInUptoRow.holds Try.pinned (OpenSpec.upto fnLetsInSpec)

/-- 'laws.FnLetsInContact', WHERE WHAT IT READS IS OF BULK AT MOST 1048576: true; the input reads as it did. -/
def fnLetsInContactUptoRow : OpenClaim := { program := "ytafmalklgecomaa", sum := "010327a17f0aa9d895f8fba6409991169aee9e624cbb91207ab7c33ba50a6a61", func := "loop.example/portmapper/laws.FnLetsInContact", spec := "fnLetsInContact", unfollowed := true, recurses := true, apart := false, narrowed := true }
def FnLetsInContactUptoSaid : Prop := fnLetsInContactUptoRow.holds Try.pinned (OpenSpec.upto fnLetsInContactSpec)

/-- 'laws.FnLetsInNone', WHERE WHAT IT READS IS OF BULK AT MOST 1048576: true; the input reads as it did. -/
def fnLetsInNoneUptoRow : OpenClaim := { program := "ytafmalklgecomaa", sum := "010327a17f0aa9d895f8fba6409991169aee9e624cbb91207ab7c33ba50a6a61", func := "loop.example/portmapper/laws.FnLetsInNone", spec := "fnLetsInNone", unfollowed := true, recurses := true, apart := false, narrowed := true }
def FnLetsInNoneUptoSaid : Prop := fnLetsInNoneUptoRow.holds Try.pinned (OpenSpec.upto fnLetsInNoneSpec)

/-- 'laws.FnNoteContactStay', WHERE WHAT IT READS IS OF BULK AT MOST 1048576: true; the input reads as it did. -/
def fnNoteContactStayUptoRow : OpenClaim := { program := "ytafmalklgecomaa", sum := "010327a17f0aa9d895f8fba6409991169aee9e624cbb91207ab7c33ba50a6a61", func := "loop.example/portmapper/laws.FnNoteContactStay", spec := "fnNoteContactStay", unfollowed := true, recurses := true, apart := false, narrowed := true }
def FnNoteContactStayUptoSaid : Prop := fnNoteContactStayUptoRow.holds Try.pinned (OpenSpec.upto fnNoteContactStaySpec)

/-- 'laws.FnNoteContactTwice', WHERE WHAT IT READS IS OF BULK AT MOST 1048576: true; the input reads as it did. -/
def fnNoteContactTwiceUptoRow : OpenClaim := { program := "ytafmalklgecomaa", sum := "010327a17f0aa9d895f8fba6409991169aee9e624cbb91207ab7c33ba50a6a61", func := "loop.example/portmapper/laws.FnNoteContactTwice", spec := "fnNoteContactTwice", unfollowed := true, recurses := true, apart := false, narrowed := true }
def FnNoteContactTwiceUptoSaid : Prop := fnNoteContactTwiceUptoRow.holds Try.pinned (OpenSpec.upto fnNoteContactTwiceSpec)

/-- 'laws.FnDropContacts', WHERE WHAT IT READS IS OF BULK AT MOST 1048576: true; the input reads as it did. -/
def fnDropContactsUptoRow : OpenClaim := { program := "ytafmalklgecomaa", sum := "010327a17f0aa9d895f8fba6409991169aee9e624cbb91207ab7c33ba50a6a61", func := "loop.example/portmapper/laws.FnDropContacts", spec := "fnDropContacts", unfollowed := true, recurses := true, apart := false, narrowed := true }
def FnDropContactsUptoSaid : Prop := fnDropContactsUptoRow.holds Try.pinned (OpenSpec.upto fnDropContactsSpec)

/-- 'laws.FnDropContactsTwice', WHERE WHAT IT READS IS OF BULK AT MOST 1048576: true; the input reads as it did. -/
def fnDropContactsTwiceUptoRow : OpenClaim := { program := "ytafmalklgecomaa", sum := "010327a17f0aa9d895f8fba6409991169aee9e624cbb91207ab7c33ba50a6a61", func := "loop.example/portmapper/laws.FnDropContactsTwice", spec := "fnDropContactsTwice", unfollowed := true, recurses := true, apart := false, narrowed := true }
def FnDropContactsTwiceUptoSaid : Prop := fnDropContactsTwiceUptoRow.holds Try.pinned (OpenSpec.upto fnDropContactsTwiceSpec)

/-- 'laws.FnLetsInMore', WHERE WHAT IT READS IS OF BULK AT MOST 1048576: true; the input reads as it did. -/
def fnLetsInMoreUptoRow : OpenClaim := { program := "ytafmalklgecomaa", sum := "010327a17f0aa9d895f8fba6409991169aee9e624cbb91207ab7c33ba50a6a61", func := "loop.example/portmapper/laws.FnLetsInMore", spec := "fnLetsInMore", unfollowed := true, recurses := true, apart := false, narrowed := true }
def FnLetsInMoreUptoSaid : Prop := fnLetsInMoreUptoRow.holds Try.pinned (OpenSpec.upto fnLetsInMoreSpec)

/-- 'laws.FnNoteContact', WHERE WHAT IT READS IS OF BULK AT MOST 1048576: true; the input reads as it did. -/
def fnNoteContactUptoRow : OpenClaim := { program := "ytafmalklgecomaa", sum := "010327a17f0aa9d895f8fba6409991169aee9e624cbb91207ab7c33ba50a6a61", func := "loop.example/portmapper/laws.FnNoteContact", spec := "fnNoteContact", unfollowed := true, recurses := true, apart := false, narrowed := true }
def FnNoteContactUptoSaid : Prop := fnNoteContactUptoRow.holds Try.pinned (OpenSpec.upto fnNoteContactSpec)

/-- 'laws.FnExactDropContacts', WHERE WHAT IT READS IS OF BULK AT MOST 1048576: true; the input reads as it did. -/
def fnExactDropContactsUptoRow : OpenClaim := { program := "ytafmalklgecomaa", sum := "010327a17f0aa9d895f8fba6409991169aee9e624cbb91207ab7c33ba50a6a61", func := "loop.example/portmapper/laws.FnExactDropContacts", spec := "fnExactDropContacts", unfollowed := true, recurses := true, apart := false, narrowed := true }
def FnExactDropContactsUptoSaid : Prop := fnExactDropContactsUptoRow.holds Try.pinned (OpenSpec.upto fnExactDropContactsSpec)

/-- 'laws.FnDropContactsFilter', WHERE WHAT IT READS IS OF BULK AT MOST 1048576: true; the input reads as it did. -/
def fnDropContactsFilterUptoRow : OpenClaim := { program := "ytafmalklgecomaa", sum := "010327a17f0aa9d895f8fba6409991169aee9e624cbb91207ab7c33ba50a6a61", func := "loop.example/portmapper/laws.FnDropContactsFilter", spec := "fnDropContactsFilter", unfollowed := true, recurses := true, apart := false, narrowed := true }
def FnDropContactsFilterUptoSaid : Prop := fnDropContactsFilterUptoRow.holds Try.pinned (OpenSpec.upto fnDropContactsFilterSpec)

/-- 'laws.FnExactNoteContact', WHERE WHAT IT READS IS OF BULK AT MOST 1048576: true; the input reads as it did. -/
def fnExactNoteContactUptoRow : OpenClaim := { program := "ytafmalklgecomaa", sum := "010327a17f0aa9d895f8fba6409991169aee9e624cbb91207ab7c33ba50a6a61", func := "loop.example/portmapper/laws.FnExactNoteContact", spec := "fnExactNoteContact", unfollowed := true, recurses := true, apart := false, narrowed := true }
def FnExactNoteContactUptoSaid : Prop := fnExactNoteContactUptoRow.holds Try.pinned (OpenSpec.upto fnExactNoteContactSpec)

end Rows
end Go.Proofs.Ytafmalklgecomaa
