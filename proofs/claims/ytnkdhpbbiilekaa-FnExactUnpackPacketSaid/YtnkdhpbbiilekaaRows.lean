/-
  No cell of these rows narrows 'for every input' (looked for: loops, veiled, ifaces, maps, wideKeys, modest, calm, conditions, laid).
  DERIVED. THE GIVEN ROWS OF THIS SEAT. 12 by the template 'for every input the law returns true; each argument reads behind the call as it read before'; 0 by the template 'total and deterministic' (their statements: YtnkdhpbbiilekaaTotals.lean).
  GIVEN WITH THE SEED: the statements are not yours to turn. If you find one false, say at which input.
  Laid BY PROGRAM, IN A SANDBOX (cutbox-rows.mjs): the forced cells as the released guide's own fill.sh prints them over the translation 7f3b331773a903db… (all of the seat's roots in one cut). By AI agents, Wed Nov 11 2026. No macro, syntax, notation, axiom, sorry.
-/
import Derived.Test.YtnkdhpbbiilekaaChecked
import GoSem.Claim
import GoSem.ClaimJoined
import GoSem.ClaimMapViews
import Derived.JoinedTies
import Derived.KernelRfl
namespace Go.Proofs.Ytnkdhpbbiilekaa
/- THE CELL 'sum', in the pinned program and in every row, IS THE sha256 OF THE DUMP (.gsa) THAT YtnkdhpbbiilekaaProg.lean LOADS. Nothing in Lean hashes anything: it is a label: what it is worth is what the hold of that sum in a sandbox is worth. -/
noncomputable def Try.pinned : Pinned := { name := "ytnkdhpbbiilekaa", sum := "7f3b331773a903db414e1a287e14891b0b6598deca870abc98804277ab74d943", checked := Try.checked }
namespace Rows
def none {H : Type} : Left H := { results := [], args := [] }

/-- 'laws.FnReversePacketSame': WHATEVER THE INPUT: true; the input reads as it did. -/
def fnReversePacketSameSpec : ChangeSpec := { name := "fnReversePacketSame", fn := fun _ => fun
  | [d] => { results := [.lit (.bool true)], args := [d] }
  | _ => none }
def fnReversePacketSameRow : OpenClaim := { program := "ytnkdhpbbiilekaa", sum := "7f3b331773a903db414e1a287e14891b0b6598deca870abc98804277ab74d943", func := "loop.example/portmapper/laws.FnReversePacketSame", spec := "fnReversePacketSame", apart := false }
def FnReversePacketSameSaid : Prop := fnReversePacketSameRow.holds Try.pinned (OpenSpec.ofChange fnReversePacketSameSpec)

/-- ITS FALSE NEIGHBOUR: 'it returns false'. Refute it at one input. -/
def fnReversePacketSameWrong : ChangeSpec := { name := "fnReversePacketSame", fn := fun _ => fun
  | [d] => { results := [.lit (.bool false)], args := [d] }
  | _ => none }
def FnReversePacketSameWrongFalsely : Prop := fnReversePacketSameRow.holds Try.pinned (OpenSpec.ofChange fnReversePacketSameWrong)

/-- 'laws.FnPacketCheck': WHATEVER THE INPUT: true; the input reads as it did. -/
def fnPacketCheckSpec : ChangeSpec := { name := "fnPacketCheck", fn := fun _ => fun
  | [d] => { results := [.lit (.bool true)], args := [d] }
  | _ => none }
def fnPacketCheckRow : OpenClaim := { program := "ytnkdhpbbiilekaa", sum := "7f3b331773a903db414e1a287e14891b0b6598deca870abc98804277ab74d943", func := "loop.example/portmapper/laws.FnPacketCheck", spec := "fnPacketCheck", apart := false }
def FnPacketCheckSaid : Prop := fnPacketCheckRow.holds Try.pinned (OpenSpec.ofChange fnPacketCheckSpec)

/-- ITS FALSE NEIGHBOUR: 'it returns false'. Refute it at one input. -/
def fnPacketCheckWrong : ChangeSpec := { name := "fnPacketCheck", fn := fun _ => fun
  | [d] => { results := [.lit (.bool false)], args := [d] }
  | _ => none }
def FnPacketCheckWrongFalsely : Prop := fnPacketCheckRow.holds Try.pinned (OpenSpec.ofChange fnPacketCheckWrong)

/-- 'laws.FnExactReversePacket': WHATEVER THE INPUT: true; the input reads as it did. -/
def fnExactReversePacketSpec : ChangeSpec := { name := "fnExactReversePacket", fn := fun _ => fun
  | [d] => { results := [.lit (.bool true)], args := [d] }
  | _ => none }
def fnExactReversePacketRow : OpenClaim := { program := "ytnkdhpbbiilekaa", sum := "7f3b331773a903db414e1a287e14891b0b6598deca870abc98804277ab74d943", func := "loop.example/portmapper/laws.FnExactReversePacket", spec := "fnExactReversePacket", apart := false }
def FnExactReversePacketSaid : Prop := fnExactReversePacketRow.holds Try.pinned (OpenSpec.ofChange fnExactReversePacketSpec)

/-- ITS FALSE NEIGHBOUR: 'it returns false'. Refute it at one input. -/
def fnExactReversePacketWrong : ChangeSpec := { name := "fnExactReversePacket", fn := fun _ => fun
  | [d] => { results := [.lit (.bool false)], args := [d] }
  | _ => none }
def FnExactReversePacketWrongFalsely : Prop := fnExactReversePacketRow.holds Try.pinned (OpenSpec.ofChange fnExactReversePacketWrong)

/-- 'laws.FnPackPacketData': WHATEVER THE INPUT: true; the input reads as it did. -/
def fnPackPacketDataSpec : ChangeSpec := { name := "fnPackPacketData", fn := fun _ => fun
  | [d] => { results := [.lit (.bool true)], args := [d] }
  | _ => none }
def fnPackPacketDataRow : OpenClaim := { program := "ytnkdhpbbiilekaa", sum := "7f3b331773a903db414e1a287e14891b0b6598deca870abc98804277ab74d943", func := "loop.example/portmapper/laws.FnPackPacketData", spec := "fnPackPacketData", apart := false }
def FnPackPacketDataSaid : Prop := fnPackPacketDataRow.holds Try.pinned (OpenSpec.ofChange fnPackPacketDataSpec)

/-- ITS FALSE NEIGHBOUR: 'it returns false'. Refute it at one input. -/
def fnPackPacketDataWrong : ChangeSpec := { name := "fnPackPacketData", fn := fun _ => fun
  | [d] => { results := [.lit (.bool false)], args := [d] }
  | _ => none }
def FnPackPacketDataWrongFalsely : Prop := fnPackPacketDataRow.holds Try.pinned (OpenSpec.ofChange fnPackPacketDataWrong)

/-- 'laws.FnPacketCheckUpdate': WHATEVER THE INPUT: true; the input reads as it did. -/
def fnPacketCheckUpdateSpec : ChangeSpec := { name := "fnPacketCheckUpdate", fn := fun _ => fun
  | [d] => { results := [.lit (.bool true)], args := [d] }
  | _ => none }
def fnPacketCheckUpdateRow : OpenClaim := { program := "ytnkdhpbbiilekaa", sum := "7f3b331773a903db414e1a287e14891b0b6598deca870abc98804277ab74d943", func := "loop.example/portmapper/laws.FnPacketCheckUpdate", spec := "fnPacketCheckUpdate", apart := false }
def FnPacketCheckUpdateSaid : Prop := fnPacketCheckUpdateRow.holds Try.pinned (OpenSpec.ofChange fnPacketCheckUpdateSpec)

/-- ITS FALSE NEIGHBOUR: 'it returns false'. Refute it at one input. -/
def fnPacketCheckUpdateWrong : ChangeSpec := { name := "fnPacketCheckUpdate", fn := fun _ => fun
  | [d] => { results := [.lit (.bool false)], args := [d] }
  | _ => none }
def FnPacketCheckUpdateWrongFalsely : Prop := fnPacketCheckUpdateRow.holds Try.pinned (OpenSpec.ofChange fnPacketCheckUpdateWrong)

/-- 'laws.FnExactPacketCheck': WHATEVER THE INPUT: true; the input reads as it did. -/
def fnExactPacketCheckSpec : ChangeSpec := { name := "fnExactPacketCheck", fn := fun _ => fun
  | [d] => { results := [.lit (.bool true)], args := [d] }
  | _ => none }
def fnExactPacketCheckRow : OpenClaim := { program := "ytnkdhpbbiilekaa", sum := "7f3b331773a903db414e1a287e14891b0b6598deca870abc98804277ab74d943", func := "loop.example/portmapper/laws.FnExactPacketCheck", spec := "fnExactPacketCheck", apart := false }
def FnExactPacketCheckSaid : Prop := fnExactPacketCheckRow.holds Try.pinned (OpenSpec.ofChange fnExactPacketCheckSpec)

/-- ITS FALSE NEIGHBOUR: 'it returns false'. Refute it at one input. -/
def fnExactPacketCheckWrong : ChangeSpec := { name := "fnExactPacketCheck", fn := fun _ => fun
  | [d] => { results := [.lit (.bool false)], args := [d] }
  | _ => none }
def FnExactPacketCheckWrongFalsely : Prop := fnExactPacketCheckRow.holds Try.pinned (OpenSpec.ofChange fnExactPacketCheckWrong)

/-- 'laws.FnReversePacket': WHATEVER THE INPUT: true; the input reads as it did. -/
def fnReversePacketSpec : ChangeSpec := { name := "fnReversePacket", fn := fun _ => fun
  | [d] => { results := [.lit (.bool true)], args := [d] }
  | _ => none }
def fnReversePacketRow : OpenClaim := { program := "ytnkdhpbbiilekaa", sum := "7f3b331773a903db414e1a287e14891b0b6598deca870abc98804277ab74d943", func := "loop.example/portmapper/laws.FnReversePacket", spec := "fnReversePacket", apart := false }
def FnReversePacketSaid : Prop := fnReversePacketRow.holds Try.pinned (OpenSpec.ofChange fnReversePacketSpec)

/-- ITS FALSE NEIGHBOUR: 'it returns false'. Refute it at one input. -/
def fnReversePacketWrong : ChangeSpec := { name := "fnReversePacket", fn := fun _ => fun
  | [d] => { results := [.lit (.bool false)], args := [d] }
  | _ => none }
def FnReversePacketWrongFalsely : Prop := fnReversePacketRow.holds Try.pinned (OpenSpec.ofChange fnReversePacketWrong)

/-- 'laws.FnExactPackPacket': WHATEVER THE INPUT: true; the input reads as it did. -/
def fnExactPackPacketSpec : ChangeSpec := { name := "fnExactPackPacket", fn := fun _ => fun
  | [d] => { results := [.lit (.bool true)], args := [d] }
  | _ => none }
def fnExactPackPacketRow : OpenClaim := { program := "ytnkdhpbbiilekaa", sum := "7f3b331773a903db414e1a287e14891b0b6598deca870abc98804277ab74d943", func := "loop.example/portmapper/laws.FnExactPackPacket", spec := "fnExactPackPacket", apart := false }
def FnExactPackPacketSaid : Prop := fnExactPackPacketRow.holds Try.pinned (OpenSpec.ofChange fnExactPackPacketSpec)

/-- ITS FALSE NEIGHBOUR: 'it returns false'. Refute it at one input. -/
def fnExactPackPacketWrong : ChangeSpec := { name := "fnExactPackPacket", fn := fun _ => fun
  | [d] => { results := [.lit (.bool false)], args := [d] }
  | _ => none }
def FnExactPackPacketWrongFalsely : Prop := fnExactPackPacketRow.holds Try.pinned (OpenSpec.ofChange fnExactPackPacketWrong)

/-- 'laws.FnUnpackPacketTorn': WHATEVER THE INPUT: true; the input reads as it did. -/
def fnUnpackPacketTornSpec : ChangeSpec := { name := "fnUnpackPacketTorn", fn := fun _ => fun
  | [d] => { results := [.lit (.bool true)], args := [d] }
  | _ => none }
def fnUnpackPacketTornRow : OpenClaim := { program := "ytnkdhpbbiilekaa", sum := "7f3b331773a903db414e1a287e14891b0b6598deca870abc98804277ab74d943", func := "loop.example/portmapper/laws.FnUnpackPacketTorn", spec := "fnUnpackPacketTorn", apart := false }
def FnUnpackPacketTornSaid : Prop := fnUnpackPacketTornRow.holds Try.pinned (OpenSpec.ofChange fnUnpackPacketTornSpec)

/-- ITS FALSE NEIGHBOUR: 'it returns false'. Refute it at one input. -/
def fnUnpackPacketTornWrong : ChangeSpec := { name := "fnUnpackPacketTorn", fn := fun _ => fun
  | [d] => { results := [.lit (.bool false)], args := [d] }
  | _ => none }
def FnUnpackPacketTornWrongFalsely : Prop := fnUnpackPacketTornRow.holds Try.pinned (OpenSpec.ofChange fnUnpackPacketTornWrong)

/-- 'laws.FnUnpackPacket': WHATEVER THE INPUT: true; the input reads as it did. -/
def fnUnpackPacketSpec : ChangeSpec := { name := "fnUnpackPacket", fn := fun _ => fun
  | [d] => { results := [.lit (.bool true)], args := [d] }
  | _ => none }
def fnUnpackPacketRow : OpenClaim := { program := "ytnkdhpbbiilekaa", sum := "7f3b331773a903db414e1a287e14891b0b6598deca870abc98804277ab74d943", func := "loop.example/portmapper/laws.FnUnpackPacket", spec := "fnUnpackPacket", apart := false }
def FnUnpackPacketSaid : Prop := fnUnpackPacketRow.holds Try.pinned (OpenSpec.ofChange fnUnpackPacketSpec)

/-- ITS FALSE NEIGHBOUR: 'it returns false'. Refute it at one input. -/
def fnUnpackPacketWrong : ChangeSpec := { name := "fnUnpackPacket", fn := fun _ => fun
  | [d] => { results := [.lit (.bool false)], args := [d] }
  | _ => none }
def FnUnpackPacketWrongFalsely : Prop := fnUnpackPacketRow.holds Try.pinned (OpenSpec.ofChange fnUnpackPacketWrong)

/-- 'laws.FnExactUnpackPacket': WHATEVER THE INPUT: true; the input reads as it did. -/
def fnExactUnpackPacketSpec : ChangeSpec := { name := "fnExactUnpackPacket", fn := fun _ => fun
  | [d] => { results := [.lit (.bool true)], args := [d] }
  | _ => none }
def fnExactUnpackPacketRow : OpenClaim := { program := "ytnkdhpbbiilekaa", sum := "7f3b331773a903db414e1a287e14891b0b6598deca870abc98804277ab74d943", func := "loop.example/portmapper/laws.FnExactUnpackPacket", spec := "fnExactUnpackPacket", apart := false }
def FnExactUnpackPacketSaid : Prop := fnExactUnpackPacketRow.holds Try.pinned (OpenSpec.ofChange fnExactUnpackPacketSpec)

/-- ITS FALSE NEIGHBOUR: 'it returns false'. Refute it at one input. -/
def fnExactUnpackPacketWrong : ChangeSpec := { name := "fnExactUnpackPacket", fn := fun _ => fun
  | [d] => { results := [.lit (.bool false)], args := [d] }
  | _ => none }
def FnExactUnpackPacketWrongFalsely : Prop := fnExactUnpackPacketRow.holds Try.pinned (OpenSpec.ofChange fnExactUnpackPacketWrong)

/-- 'laws.FnPackPacket': WHATEVER THE INPUT: true; the input reads as it did. -/
def fnPackPacketSpec : ChangeSpec := { name := "fnPackPacket", fn := fun _ => fun
  | [d] => { results := [.lit (.bool true)], args := [d] }
  | _ => none }
def fnPackPacketRow : OpenClaim := { program := "ytnkdhpbbiilekaa", sum := "7f3b331773a903db414e1a287e14891b0b6598deca870abc98804277ab74d943", func := "loop.example/portmapper/laws.FnPackPacket", spec := "fnPackPacket", apart := false }
def FnPackPacketSaid : Prop := fnPackPacketRow.holds Try.pinned (OpenSpec.ofChange fnPackPacketSpec)

/-- ITS FALSE NEIGHBOUR: 'it returns false'. Refute it at one input. -/
def fnPackPacketWrong : ChangeSpec := { name := "fnPackPacket", fn := fun _ => fun
  | [d] => { results := [.lit (.bool false)], args := [d] }
  | _ => none }
def FnPackPacketWrongFalsely : Prop := fnPackPacketRow.holds Try.pinned (OpenSpec.ofChange fnPackPacketWrong)

/- THE SECOND FORM. 'bulk': how many values and letters a reading holds, each counted each time it is reached (what is shared counts as often as it is met; a slice's spare places count too). A statement '..UptoSaid' is the law's where the arguments, and the package variables that the reading takes, are together of bulk at most 1048576: NARROWER than '..Said'. Prove '..Said' where nothing that the law and all that it calls make is longer than what came in: it says more and counts as full. Else prove '..UptoSaid'. A law counts once. -/
mutual
def uptoBulk {H : Type} : DataW H → Nat
  | .lit (.string bytes) => bytes.length + 1
  | .lit _ => 1
  | .nil => 1
  | .ptr d => uptoBulk d + 1
  | .slice elems spare => uptoBulkAll elems + uptoBulkAll spare + 1
  | .agg parts => uptoBulkAll parts + 1
  | .iface _ d => uptoBulk d + 1
  | .map entries => uptoBulkEntries entries + 1
  | .held _ => 1
def uptoBulkAll {H : Type} : List (DataW H) → Nat
  | [] => 0
  | d :: r => uptoBulk d + uptoBulkAll r
def uptoBulkEntries {H : Type} : List (Lit × DataW H) → Nat
  | [] => 0
  | x :: r => uptoBulkEntry x + uptoBulkEntries r
def uptoBulkEntry {H : Type} : Lit × DataW H → Nat
  | (.string bytes, d) => bytes.length + uptoBulk d + 1
  | (_, d) => uptoBulk d + 1
 end
def uptoSmall : (H : Type) → List (DataW H) → Bool := fun _ ds => decide (uptoBulkAll ds ≤ 1048576)
def OpenSpec.upto (s : _root_.Go.ChangeSpec) : _root_.Go.OpenSpec := { _root_.Go.OpenSpec.ofChange s with cond := some uptoSmall }

/-- 'laws.FnReversePacketSame', WHERE WHAT IT READS IS OF BULK AT MOST 1048576: true; the input reads as it did. -/
def fnReversePacketSameUptoRow : OpenClaim := { program := "ytnkdhpbbiilekaa", sum := "7f3b331773a903db414e1a287e14891b0b6598deca870abc98804277ab74d943", func := "loop.example/portmapper/laws.FnReversePacketSame", spec := "fnReversePacketSame", apart := false, narrowed := true }
def FnReversePacketSameUptoSaid : Prop := fnReversePacketSameUptoRow.holds Try.pinned (OpenSpec.upto fnReversePacketSameSpec)

/-- 'laws.FnPacketCheck', WHERE WHAT IT READS IS OF BULK AT MOST 1048576: true; the input reads as it did. -/
def fnPacketCheckUptoRow : OpenClaim := { program := "ytnkdhpbbiilekaa", sum := "7f3b331773a903db414e1a287e14891b0b6598deca870abc98804277ab74d943", func := "loop.example/portmapper/laws.FnPacketCheck", spec := "fnPacketCheck", apart := false, narrowed := true }
def FnPacketCheckUptoSaid : Prop := fnPacketCheckUptoRow.holds Try.pinned (OpenSpec.upto fnPacketCheckSpec)

/-- 'laws.FnExactReversePacket', WHERE WHAT IT READS IS OF BULK AT MOST 1048576: true; the input reads as it did. -/
def fnExactReversePacketUptoRow : OpenClaim := { program := "ytnkdhpbbiilekaa", sum := "7f3b331773a903db414e1a287e14891b0b6598deca870abc98804277ab74d943", func := "loop.example/portmapper/laws.FnExactReversePacket", spec := "fnExactReversePacket", apart := false, narrowed := true }
def FnExactReversePacketUptoSaid : Prop := fnExactReversePacketUptoRow.holds Try.pinned (OpenSpec.upto fnExactReversePacketSpec)

/-- 'laws.FnPackPacketData', WHERE WHAT IT READS IS OF BULK AT MOST 1048576: true; the input reads as it did. -/
def fnPackPacketDataUptoRow : OpenClaim := { program := "ytnkdhpbbiilekaa", sum := "7f3b331773a903db414e1a287e14891b0b6598deca870abc98804277ab74d943", func := "loop.example/portmapper/laws.FnPackPacketData", spec := "fnPackPacketData", apart := false, narrowed := true }
def FnPackPacketDataUptoSaid : Prop := fnPackPacketDataUptoRow.holds Try.pinned (OpenSpec.upto fnPackPacketDataSpec)

/-- 'laws.FnPacketCheckUpdate', WHERE WHAT IT READS IS OF BULK AT MOST 1048576: true; the input reads as it did. -/
def fnPacketCheckUpdateUptoRow : OpenClaim := { program := "ytnkdhpbbiilekaa", sum := "7f3b331773a903db414e1a287e14891b0b6598deca870abc98804277ab74d943", func := "loop.example/portmapper/laws.FnPacketCheckUpdate", spec := "fnPacketCheckUpdate", apart := false, narrowed := true }
def FnPacketCheckUpdateUptoSaid : Prop := fnPacketCheckUpdateUptoRow.holds Try.pinned (OpenSpec.upto fnPacketCheckUpdateSpec)

/-- 'laws.FnExactPacketCheck', WHERE WHAT IT READS IS OF BULK AT MOST 1048576: true; the input reads as it did. -/
def fnExactPacketCheckUptoRow : OpenClaim := { program := "ytnkdhpbbiilekaa", sum := "7f3b331773a903db414e1a287e14891b0b6598deca870abc98804277ab74d943", func := "loop.example/portmapper/laws.FnExactPacketCheck", spec := "fnExactPacketCheck", apart := false, narrowed := true }
def FnExactPacketCheckUptoSaid : Prop := fnExactPacketCheckUptoRow.holds Try.pinned (OpenSpec.upto fnExactPacketCheckSpec)

/-- 'laws.FnReversePacket', WHERE WHAT IT READS IS OF BULK AT MOST 1048576: true; the input reads as it did. -/
def fnReversePacketUptoRow : OpenClaim := { program := "ytnkdhpbbiilekaa", sum := "7f3b331773a903db414e1a287e14891b0b6598deca870abc98804277ab74d943", func := "loop.example/portmapper/laws.FnReversePacket", spec := "fnReversePacket", apart := false, narrowed := true }
def FnReversePacketUptoSaid : Prop := fnReversePacketUptoRow.holds Try.pinned (OpenSpec.upto fnReversePacketSpec)

/-- 'laws.FnExactPackPacket', WHERE WHAT IT READS IS OF BULK AT MOST 1048576: true; the input reads as it did. -/
def fnExactPackPacketUptoRow : OpenClaim := { program := "ytnkdhpbbiilekaa", sum := "7f3b331773a903db414e1a287e14891b0b6598deca870abc98804277ab74d943", func := "loop.example/portmapper/laws.FnExactPackPacket", spec := "fnExactPackPacket", apart := false, narrowed := true }
def FnExactPackPacketUptoSaid : Prop := fnExactPackPacketUptoRow.holds Try.pinned (OpenSpec.upto fnExactPackPacketSpec)

/-- 'laws.FnUnpackPacketTorn', WHERE WHAT IT READS IS OF BULK AT MOST 1048576: true; the input reads as it did. -/
def fnUnpackPacketTornUptoRow : OpenClaim := { program := "ytnkdhpbbiilekaa", sum := "7f3b331773a903db414e1a287e14891b0b6598deca870abc98804277ab74d943", func := "loop.example/portmapper/laws.FnUnpackPacketTorn", spec := "fnUnpackPacketTorn", apart := false, narrowed := true }
def FnUnpackPacketTornUptoSaid : Prop := fnUnpackPacketTornUptoRow.holds Try.pinned (OpenSpec.upto fnUnpackPacketTornSpec)

/-- 'laws.FnUnpackPacket', WHERE WHAT IT READS IS OF BULK AT MOST 1048576: true; the input reads as it did. -/
def fnUnpackPacketUptoRow : OpenClaim := { program := "ytnkdhpbbiilekaa", sum := "7f3b331773a903db414e1a287e14891b0b6598deca870abc98804277ab74d943", func := "loop.example/portmapper/laws.FnUnpackPacket", spec := "fnUnpackPacket", apart := false, narrowed := true }
def FnUnpackPacketUptoSaid : Prop := fnUnpackPacketUptoRow.holds Try.pinned (OpenSpec.upto fnUnpackPacketSpec)

/-- 'laws.FnExactUnpackPacket', WHERE WHAT IT READS IS OF BULK AT MOST 1048576: true; the input reads as it did. -/
def fnExactUnpackPacketUptoRow : OpenClaim := { program := "ytnkdhpbbiilekaa", sum := "7f3b331773a903db414e1a287e14891b0b6598deca870abc98804277ab74d943", func := "loop.example/portmapper/laws.FnExactUnpackPacket", spec := "fnExactUnpackPacket", apart := false, narrowed := true }
def FnExactUnpackPacketUptoSaid : Prop := fnExactUnpackPacketUptoRow.holds Try.pinned (OpenSpec.upto fnExactUnpackPacketSpec)

/-- 'laws.FnPackPacket', WHERE WHAT IT READS IS OF BULK AT MOST 1048576: true; the input reads as it did. -/
def fnPackPacketUptoRow : OpenClaim := { program := "ytnkdhpbbiilekaa", sum := "7f3b331773a903db414e1a287e14891b0b6598deca870abc98804277ab74d943", func := "loop.example/portmapper/laws.FnPackPacket", spec := "fnPackPacket", apart := false, narrowed := true }
def FnPackPacketUptoSaid : Prop := fnPackPacketUptoRow.holds Try.pinned (OpenSpec.upto fnPackPacketSpec)

end Rows
end Go.Proofs.Ytnkdhpbbiilekaa
