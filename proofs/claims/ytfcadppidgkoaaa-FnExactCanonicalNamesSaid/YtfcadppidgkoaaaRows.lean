/-
  No cell of these rows narrows 'for every input' (looked for: loops, veiled, ifaces, maps, wideKeys, modest, calm, conditions, laid).
  DERIVED. THE GIVEN ROWS OF THIS SEAT. 12 by the template 'for every input the law returns true; each argument reads behind the call as it read before'; 0 by the template 'total and deterministic' (their statements: YtfcadppidgkoaaaTotals.lean).
  GIVEN WITH THE SEED: the statements are not yours to turn. If you find one false, say at which input.
  Laid BY PROGRAM, IN A SANDBOX (cutbox-rows.mjs): the forced cells as the released guide's own fill.sh prints them over the translation 91eeab7cba120200… (all of the seat's roots in one cut). By AI agents, Wed Nov 11 2026. No macro, syntax, notation, axiom, sorry.
-/
import Derived.Test.YtfcadppidgkoaaaChecked
import GoSem.Claim
import GoSem.ClaimJoined
import GoSem.ClaimMapViews
import Derived.JoinedTies
import Derived.KernelRfl
namespace Go.Proofs.Ytfcadppidgkoaaa
/- THE CELL 'sum', in the pinned program and in every row, IS THE sha256 OF THE DUMP (.gsa) THAT YtfcadppidgkoaaaProg.lean LOADS. Nothing in Lean hashes anything: it is a label: what it is worth is what the hold of that sum in a sandbox is worth. -/
noncomputable def Try.pinned : Pinned := { name := "ytfcadppidgkoaaa", sum := "91eeab7cba120200410a83fab6a90ed6b61a891309f2adae80dba3d859accce0", checked := Try.checked }
namespace Rows
def none {H : Type} : Left H := { results := [], args := [] }

/-- 'laws.FnExactIsWellNamed': WHATEVER THE INPUT: true; the input reads as it did. -/
def fnExactIsWellNamedSpec : ChangeSpec := { name := "fnExactIsWellNamed", fn := fun _ => fun
  | [d] => { results := [.lit (.bool true)], args := [d] }
  | _ => none }
def fnExactIsWellNamedRow : OpenClaim := { program := "ytfcadppidgkoaaa", sum := "91eeab7cba120200410a83fab6a90ed6b61a891309f2adae80dba3d859accce0", func := "loop.example/g01175/laws.FnExactIsWellNamed", spec := "fnExactIsWellNamed", unfollowed := true, recurses := true, apart := false }
def FnExactIsWellNamedSaid : Prop := fnExactIsWellNamedRow.holds Try.pinned (OpenSpec.ofChange fnExactIsWellNamedSpec)

/-- ITS FALSE NEIGHBOUR: 'it returns false'. Refute it at one input. -/
def fnExactIsWellNamedWrong : ChangeSpec := { name := "fnExactIsWellNamed", fn := fun _ => fun
  | [d] => { results := [.lit (.bool false)], args := [d] }
  | _ => none }
def FnExactIsWellNamedWrongFalsely : Prop := fnExactIsWellNamedRow.holds Try.pinned (OpenSpec.ofChange fnExactIsWellNamedWrong)

/-- 'laws.FnExactStartMachine': WHATEVER THE INPUT: true; the input reads as it did. -/
def fnExactStartMachineSpec : ChangeSpec := { name := "fnExactStartMachine", fn := fun _ => fun
  | [d] => { results := [.lit (.bool true)], args := [d] }
  | _ => none }
def fnExactStartMachineRow : OpenClaim := { program := "ytfcadppidgkoaaa", sum := "91eeab7cba120200410a83fab6a90ed6b61a891309f2adae80dba3d859accce0", func := "loop.example/g01175/laws.FnExactStartMachine", spec := "fnExactStartMachine", inPlace := ["internal/bytealg.IndexByteString"], unfollowed := true, recurses := true, apart := false }
def FnExactStartMachineSaid : Prop := fnExactStartMachineRow.holds Try.pinned (OpenSpec.ofChange fnExactStartMachineSpec)

/-- ITS FALSE NEIGHBOUR: 'it returns false'. Refute it at one input. -/
def fnExactStartMachineWrong : ChangeSpec := { name := "fnExactStartMachine", fn := fun _ => fun
  | [d] => { results := [.lit (.bool false)], args := [d] }
  | _ => none }
def FnExactStartMachineWrongFalsely : Prop := fnExactStartMachineRow.holds Try.pinned (OpenSpec.ofChange fnExactStartMachineWrong)

/-- 'laws.FnExactCountKind': WHATEVER THE INPUT: true; the input reads as it did. -/
def fnExactCountKindSpec : ChangeSpec := { name := "fnExactCountKind", fn := fun _ => fun
  | [d1, d2] => { results := [.lit (.bool true)], args := [d1, d2] }
  | _ => none }
def fnExactCountKindRow : OpenClaim := { program := "ytfcadppidgkoaaa", sum := "91eeab7cba120200410a83fab6a90ed6b61a891309f2adae80dba3d859accce0", func := "loop.example/g01175/laws.FnExactCountKind", spec := "fnExactCountKind", inPlace := ["internal/bytealg.IndexByteString", "internal/bytealg.IndexString"], unfollowed := true, recurses := true, named := ["internal/bytealg.MaxLen"], apart := false }
def FnExactCountKindSaid : Prop := fnExactCountKindRow.holds Try.pinned (OpenSpec.ofChange fnExactCountKindSpec)

/-- ITS FALSE NEIGHBOUR: 'it returns false'. Refute it at one input. -/
def fnExactCountKindWrong : ChangeSpec := { name := "fnExactCountKind", fn := fun _ => fun
  | [d1, d2] => { results := [.lit (.bool false)], args := [d1, d2] }
  | _ => none }
def FnExactCountKindWrongFalsely : Prop := fnExactCountKindRow.holds Try.pinned (OpenSpec.ofChange fnExactCountKindWrong)

/-- 'laws.FnExactForwardAt': WHATEVER THE INPUT: true; the input reads as it did. -/
def fnExactForwardAtSpec : ChangeSpec := { name := "fnExactForwardAt", fn := fun _ => fun
  | [d1, d2] => { results := [.lit (.bool true)], args := [d1, d2] }
  | _ => none }
def fnExactForwardAtRow : OpenClaim := { program := "ytfcadppidgkoaaa", sum := "91eeab7cba120200410a83fab6a90ed6b61a891309f2adae80dba3d859accce0", func := "loop.example/g01175/laws.FnExactForwardAt", spec := "fnExactForwardAt", inPlace := ["internal/abi.NoEscape", "internal/bytealg.MakeNoZero"], recurses := true, apart := false }
def FnExactForwardAtSaid : Prop := fnExactForwardAtRow.holds Try.pinned (OpenSpec.ofChange fnExactForwardAtSpec)

/-- ITS FALSE NEIGHBOUR: 'it returns false'. Refute it at one input. -/
def fnExactForwardAtWrong : ChangeSpec := { name := "fnExactForwardAt", fn := fun _ => fun
  | [d1, d2] => { results := [.lit (.bool false)], args := [d1, d2] }
  | _ => none }
def FnExactForwardAtWrongFalsely : Prop := fnExactForwardAtRow.holds Try.pinned (OpenSpec.ofChange fnExactForwardAtWrong)

/-- 'laws.FnExactCountUses': WHATEVER THE INPUT: true; the input reads as it did. -/
def fnExactCountUsesSpec : ChangeSpec := { name := "fnExactCountUses", fn := fun _ => fun
  | [d1, d2] => { results := [.lit (.bool true)], args := [d1, d2] }
  | _ => none }
def fnExactCountUsesRow : OpenClaim := { program := "ytfcadppidgkoaaa", sum := "91eeab7cba120200410a83fab6a90ed6b61a891309f2adae80dba3d859accce0", func := "loop.example/g01175/laws.FnExactCountUses", spec := "fnExactCountUses", unfollowed := true, recurses := true, apart := false }
def FnExactCountUsesSaid : Prop := fnExactCountUsesRow.holds Try.pinned (OpenSpec.ofChange fnExactCountUsesSpec)

/-- ITS FALSE NEIGHBOUR: 'it returns false'. Refute it at one input. -/
def fnExactCountUsesWrong : ChangeSpec := { name := "fnExactCountUses", fn := fun _ => fun
  | [d1, d2] => { results := [.lit (.bool false)], args := [d1, d2] }
  | _ => none }
def FnExactCountUsesWrongFalsely : Prop := fnExactCountUsesRow.holds Try.pinned (OpenSpec.ofChange fnExactCountUsesWrong)

/-- 'laws.FnExactUsesOf': WHATEVER THE INPUT: true; the input reads as it did. -/
def fnExactUsesOfSpec : ChangeSpec := { name := "fnExactUsesOf", fn := fun _ => fun
  | [d1, d2] => { results := [.lit (.bool true)], args := [d1, d2] }
  | _ => none }
def fnExactUsesOfRow : OpenClaim := { program := "ytfcadppidgkoaaa", sum := "91eeab7cba120200410a83fab6a90ed6b61a891309f2adae80dba3d859accce0", func := "loop.example/g01175/laws.FnExactUsesOf", spec := "fnExactUsesOf", unfollowed := true, recurses := true, apart := false }
def FnExactUsesOfSaid : Prop := fnExactUsesOfRow.holds Try.pinned (OpenSpec.ofChange fnExactUsesOfSpec)

/-- ITS FALSE NEIGHBOUR: 'it returns false'. Refute it at one input. -/
def fnExactUsesOfWrong : ChangeSpec := { name := "fnExactUsesOf", fn := fun _ => fun
  | [d1, d2] => { results := [.lit (.bool false)], args := [d1, d2] }
  | _ => none }
def FnExactUsesOfWrongFalsely : Prop := fnExactUsesOfRow.holds Try.pinned (OpenSpec.ofChange fnExactUsesOfWrong)

/-- 'laws.FnExactIsLinear': WHATEVER THE INPUT: true; the input reads as it did. -/
def fnExactIsLinearSpec : ChangeSpec := { name := "fnExactIsLinear", fn := fun _ => fun
  | [d1, d2] => { results := [.lit (.bool true)], args := [d1, d2] }
  | _ => none }
def fnExactIsLinearRow : OpenClaim := { program := "ytfcadppidgkoaaa", sum := "91eeab7cba120200410a83fab6a90ed6b61a891309f2adae80dba3d859accce0", func := "loop.example/g01175/laws.FnExactIsLinear", spec := "fnExactIsLinear", unfollowed := true, recurses := true, apart := false }
def FnExactIsLinearSaid : Prop := fnExactIsLinearRow.holds Try.pinned (OpenSpec.ofChange fnExactIsLinearSpec)

/-- ITS FALSE NEIGHBOUR: 'it returns false'. Refute it at one input. -/
def fnExactIsLinearWrong : ChangeSpec := { name := "fnExactIsLinear", fn := fun _ => fun
  | [d1, d2] => { results := [.lit (.bool false)], args := [d1, d2] }
  | _ => none }
def FnExactIsLinearWrongFalsely : Prop := fnExactIsLinearRow.holds Try.pinned (OpenSpec.ofChange fnExactIsLinearWrong)

/-- 'laws.FnExactWriteCell': WHATEVER THE INPUT: true; the input reads as it did. -/
def fnExactWriteCellSpec : ChangeSpec := { name := "fnExactWriteCell", fn := fun _ => fun
  | [d1, d2, d3] => { results := [.lit (.bool true)], args := [d1, d2, d3] }
  | _ => none }
def fnExactWriteCellRow : OpenClaim := { program := "ytfcadppidgkoaaa", sum := "91eeab7cba120200410a83fab6a90ed6b61a891309f2adae80dba3d859accce0", func := "loop.example/g01175/laws.FnExactWriteCell", spec := "fnExactWriteCell", inPlace := ["internal/abi.NoEscape", "internal/bytealg.MakeNoZero"], recurses := true, apart := false }
def FnExactWriteCellSaid : Prop := fnExactWriteCellRow.holds Try.pinned (OpenSpec.ofChange fnExactWriteCellSpec)

/-- ITS FALSE NEIGHBOUR: 'it returns false'. Refute it at one input. -/
def fnExactWriteCellWrong : ChangeSpec := { name := "fnExactWriteCell", fn := fun _ => fun
  | [d1, d2, d3] => { results := [.lit (.bool false)], args := [d1, d2, d3] }
  | _ => none }
def FnExactWriteCellWrongFalsely : Prop := fnExactWriteCellRow.holds Try.pinned (OpenSpec.ofChange fnExactWriteCellWrong)

/-- 'laws.FnExactChoiceOf': WHATEVER THE INPUT: true; the input reads as it did. -/
def fnExactChoiceOfSpec : ChangeSpec := { name := "fnExactChoiceOf", fn := fun _ => fun
  | [d1, d2] => { results := [.lit (.bool true)], args := [d1, d2] }
  | _ => none }
def fnExactChoiceOfRow : OpenClaim := { program := "ytfcadppidgkoaaa", sum := "91eeab7cba120200410a83fab6a90ed6b61a891309f2adae80dba3d859accce0", func := "loop.example/g01175/laws.FnExactChoiceOf", spec := "fnExactChoiceOf", inPlace := ["internal/abi.NoEscape", "internal/bytealg.MakeNoZero"], recurses := true, apart := false }
def FnExactChoiceOfSaid : Prop := fnExactChoiceOfRow.holds Try.pinned (OpenSpec.ofChange fnExactChoiceOfSpec)

/-- ITS FALSE NEIGHBOUR: 'it returns false'. Refute it at one input. -/
def fnExactChoiceOfWrong : ChangeSpec := { name := "fnExactChoiceOf", fn := fun _ => fun
  | [d1, d2] => { results := [.lit (.bool false)], args := [d1, d2] }
  | _ => none }
def FnExactChoiceOfWrongFalsely : Prop := fnExactChoiceOfRow.holds Try.pinned (OpenSpec.ofChange fnExactChoiceOfWrong)

/-- 'laws.FnExactIsMachine': WHATEVER THE INPUT: true; the input reads as it did. -/
def fnExactIsMachineSpec : ChangeSpec := { name := "fnExactIsMachine", fn := fun _ => fun
  | [d] => { results := [.lit (.bool true)], args := [d] }
  | _ => none }
def fnExactIsMachineRow : OpenClaim := { program := "ytfcadppidgkoaaa", sum := "91eeab7cba120200410a83fab6a90ed6b61a891309f2adae80dba3d859accce0", func := "loop.example/g01175/laws.FnExactIsMachine", spec := "fnExactIsMachine", inPlace := ["internal/bytealg.IndexByteString"], unfollowed := true, recurses := true, apart := false }
def FnExactIsMachineSaid : Prop := fnExactIsMachineRow.holds Try.pinned (OpenSpec.ofChange fnExactIsMachineSpec)

/-- ITS FALSE NEIGHBOUR: 'it returns false'. Refute it at one input. -/
def fnExactIsMachineWrong : ChangeSpec := { name := "fnExactIsMachine", fn := fun _ => fun
  | [d] => { results := [.lit (.bool false)], args := [d] }
  | _ => none }
def FnExactIsMachineWrongFalsely : Prop := fnExactIsMachineRow.holds Try.pinned (OpenSpec.ofChange fnExactIsMachineWrong)

/-- 'laws.FnExactRenameFree': WHATEVER THE INPUT: true; the input reads as it did. -/
def fnExactRenameFreeSpec : ChangeSpec := { name := "fnExactRenameFree", fn := fun _ => fun
  | [d1, d2, d3] => { results := [.lit (.bool true)], args := [d1, d2, d3] }
  | _ => none }
def fnExactRenameFreeRow : OpenClaim := { program := "ytfcadppidgkoaaa", sum := "91eeab7cba120200410a83fab6a90ed6b61a891309f2adae80dba3d859accce0", func := "loop.example/g01175/laws.FnExactRenameFree", spec := "fnExactRenameFree", recurses := true, apart := false }
def FnExactRenameFreeSaid : Prop := fnExactRenameFreeRow.holds Try.pinned (OpenSpec.ofChange fnExactRenameFreeSpec)

/-- ITS FALSE NEIGHBOUR: 'it returns false'. Refute it at one input. -/
def fnExactRenameFreeWrong : ChangeSpec := { name := "fnExactRenameFree", fn := fun _ => fun
  | [d1, d2, d3] => { results := [.lit (.bool false)], args := [d1, d2, d3] }
  | _ => none }
def FnExactRenameFreeWrongFalsely : Prop := fnExactRenameFreeRow.holds Try.pinned (OpenSpec.ofChange fnExactRenameFreeWrong)

/-- 'laws.FnExactCanonicalNames': WHATEVER THE INPUT: true; the input reads as it did. -/
def fnExactCanonicalNamesSpec : ChangeSpec := { name := "fnExactCanonicalNames", fn := fun _ => fun
  | [d] => { results := [.lit (.bool true)], args := [d] }
  | _ => none }
def fnExactCanonicalNamesRow : OpenClaim := { program := "ytfcadppidgkoaaa", sum := "91eeab7cba120200410a83fab6a90ed6b61a891309f2adae80dba3d859accce0", func := "loop.example/g01175/laws.FnExactCanonicalNames", spec := "fnExactCanonicalNames", recurses := true, apart := false }
def FnExactCanonicalNamesSaid : Prop := fnExactCanonicalNamesRow.holds Try.pinned (OpenSpec.ofChange fnExactCanonicalNamesSpec)

/-- ITS FALSE NEIGHBOUR: 'it returns false'. Refute it at one input. -/
def fnExactCanonicalNamesWrong : ChangeSpec := { name := "fnExactCanonicalNames", fn := fun _ => fun
  | [d] => { results := [.lit (.bool false)], args := [d] }
  | _ => none }
def FnExactCanonicalNamesWrongFalsely : Prop := fnExactCanonicalNamesRow.holds Try.pinned (OpenSpec.ofChange fnExactCanonicalNamesWrong)

/- THE SECOND FORM. 'bulk': how many values and letters a reading holds, each counted each time it is reached (what is shared counts as often as it is met; a slice's spare places count too). A statement '..UptoSaid' is the law's where the arguments, and the package variables that the reading takes, are together of bulk at most 1048576: NARROWER than '..Said'. Prove '..Said' where nothing that the law and all that it calls make is longer than what came in: it says more and counts as full. Else prove '..UptoSaid'. A law counts once. -/
mutual
def uptoBulk {H : Type} : DataW H → Nat
  | .lit (.string bytes) => bytes.length + 1
  | .lit _ => 1
  | .nil => 1
  | .ptr d => uptoBulk d + 1
  | .slice elems spare => uptoBulkAll elems + uptoBulkAll spare + 1
  | .agg parts => uptoBulkAll parts + 1
  | .iface _ d => uptoBulk d + 1
  | .map entries => uptoBulkEntries entries + 1
  | .held _ => 1
def uptoBulkAll {H : Type} : List (DataW H) → Nat
  | [] => 0
  | d :: r => uptoBulk d + uptoBulkAll r
def uptoBulkEntries {H : Type} : List (Lit × DataW H) → Nat
  | [] => 0
  | x :: r => uptoBulkEntry x + uptoBulkEntries r
def uptoBulkEntry {H : Type} : Lit × DataW H → Nat
  | (.string bytes, d) => bytes.length + uptoBulk d + 1
  | (_, d) => uptoBulk d + 1
 end
def uptoSmall : (H : Type) → List (DataW H) → Bool := fun _ ds => decide (uptoBulkAll ds ≤ 1048576)
def OpenSpec.upto (s : _root_.Go.ChangeSpec) : _root_.Go.OpenSpec := { _root_.Go.OpenSpec.ofChange s with cond := some uptoSmall }

/-- 'laws.FnExactIsWellNamed', WHERE WHAT IT READS IS OF BULK AT MOST 1048576: true; the input reads as it did. -/
def fnExactIsWellNamedUptoRow : OpenClaim := { program := "ytfcadppidgkoaaa", sum := "91eeab7cba120200410a83fab6a90ed6b61a891309f2adae80dba3d859accce0", func := "loop.example/g01175/laws.FnExactIsWellNamed", spec := "fnExactIsWellNamed", unfollowed := true, recurses := true, apart := false, narrowed := true }
def FnExactIsWellNamedUptoSaid : Prop := fnExactIsWellNamedUptoRow.holds Try.pinned (OpenSpec.upto fnExactIsWellNamedSpec)

/-- 'laws.FnExactStartMachine', WHERE WHAT IT READS IS OF BULK AT MOST 1048576: true; the input reads as it did. -/
def fnExactStartMachineUptoRow : OpenClaim := { program := "ytfcadppidgkoaaa", sum := "91eeab7cba120200410a83fab6a90ed6b61a891309f2adae80dba3d859accce0", func := "loop.example/g01175/laws.FnExactStartMachine", spec := "fnExactStartMachine", inPlace := ["internal/bytealg.IndexByteString"], unfollowed := true, recurses := true, apart := false, narrowed := true }
def FnExactStartMachineUptoSaid : Prop := fnExactStartMachineUptoRow.holds Try.pinned (OpenSpec.upto fnExactStartMachineSpec)

/-- 'laws.FnExactCountKind', WHERE WHAT IT READS IS OF BULK AT MOST 1048576: true; the input reads as it did. -/
def fnExactCountKindUptoRow : OpenClaim := { program := "ytfcadppidgkoaaa", sum := "91eeab7cba120200410a83fab6a90ed6b61a891309f2adae80dba3d859accce0", func := "loop.example/g01175/laws.FnExactCountKind", spec := "fnExactCountKind", inPlace := ["internal/bytealg.IndexByteString", "internal/bytealg.IndexString"], unfollowed := true, recurses := true, named := ["internal/bytealg.MaxLen"], apart := false, narrowed := true }
def FnExactCountKindUptoSaid : Prop := fnExactCountKindUptoRow.holds Try.pinned (OpenSpec.upto fnExactCountKindSpec)

/-- 'laws.FnExactForwardAt', WHERE WHAT IT READS IS OF BULK AT MOST 1048576: true; the input reads as it did. -/
def fnExactForwardAtUptoRow : OpenClaim := { program := "ytfcadppidgkoaaa", sum := "91eeab7cba120200410a83fab6a90ed6b61a891309f2adae80dba3d859accce0", func := "loop.example/g01175/laws.FnExactForwardAt", spec := "fnExactForwardAt", inPlace := ["internal/abi.NoEscape", "internal/bytealg.MakeNoZero"], recurses := true, apart := false, narrowed := true }
def FnExactForwardAtUptoSaid : Prop := fnExactForwardAtUptoRow.holds Try.pinned (OpenSpec.upto fnExactForwardAtSpec)

/-- 'laws.FnExactCountUses', WHERE WHAT IT READS IS OF BULK AT MOST 1048576: true; the input reads as it did. -/
def fnExactCountUsesUptoRow : OpenClaim := { program := "ytfcadppidgkoaaa", sum := "91eeab7cba120200410a83fab6a90ed6b61a891309f2adae80dba3d859accce0", func := "loop.example/g01175/laws.FnExactCountUses", spec := "fnExactCountUses", unfollowed := true, recurses := true, apart := false, narrowed := true }
def FnExactCountUsesUptoSaid : Prop := fnExactCountUsesUptoRow.holds Try.pinned (OpenSpec.upto fnExactCountUsesSpec)

/-- 'laws.FnExactUsesOf', WHERE WHAT IT READS IS OF BULK AT MOST 1048576: true; the input reads as it did. -/
def fnExactUsesOfUptoRow : OpenClaim := { program := "ytfcadppidgkoaaa", sum := "91eeab7cba120200410a83fab6a90ed6b61a891309f2adae80dba3d859accce0", func := "loop.example/g01175/laws.FnExactUsesOf", spec := "fnExactUsesOf", unfollowed := true, recurses := true, apart := false, narrowed := true }
def FnExactUsesOfUptoSaid : Prop := fnExactUsesOfUptoRow.holds Try.pinned (OpenSpec.upto fnExactUsesOfSpec)

/-- 'laws.FnExactIsLinear', WHERE WHAT IT READS IS OF BULK AT MOST 1048576: true; the input reads as it did. -/
def fnExactIsLinearUptoRow : OpenClaim := { program := "ytfcadppidgkoaaa", sum := "91eeab7cba120200410a83fab6a90ed6b61a891309f2adae80dba3d859accce0", func := "loop.example/g01175/laws.FnExactIsLinear", spec := "fnExactIsLinear", unfollowed := true, recurses := true, apart := false, narrowed := true }
def FnExactIsLinearUptoSaid : Prop := fnExactIsLinearUptoRow.holds Try.pinned (OpenSpec.upto fnExactIsLinearSpec)

/-- 'laws.FnExactWriteCell', WHERE WHAT IT READS IS OF BULK AT MOST 1048576: true; the input reads as it did. -/
def fnExactWriteCellUptoRow : OpenClaim := { program := "ytfcadppidgkoaaa", sum := "91eeab7cba120200410a83fab6a90ed6b61a891309f2adae80dba3d859accce0", func := "loop.example/g01175/laws.FnExactWriteCell", spec := "fnExactWriteCell", inPlace := ["internal/abi.NoEscape", "internal/bytealg.MakeNoZero"], recurses := true, apart := false, narrowed := true }
def FnExactWriteCellUptoSaid : Prop := fnExactWriteCellUptoRow.holds Try.pinned (OpenSpec.upto fnExactWriteCellSpec)

/-- 'laws.FnExactChoiceOf', WHERE WHAT IT READS IS OF BULK AT MOST 1048576: true; the input reads as it did. -/
def fnExactChoiceOfUptoRow : OpenClaim := { program := "ytfcadppidgkoaaa", sum := "91eeab7cba120200410a83fab6a90ed6b61a891309f2adae80dba3d859accce0", func := "loop.example/g01175/laws.FnExactChoiceOf", spec := "fnExactChoiceOf", inPlace := ["internal/abi.NoEscape", "internal/bytealg.MakeNoZero"], recurses := true, apart := false, narrowed := true }
def FnExactChoiceOfUptoSaid : Prop := fnExactChoiceOfUptoRow.holds Try.pinned (OpenSpec.upto fnExactChoiceOfSpec)

/-- 'laws.FnExactIsMachine', WHERE WHAT IT READS IS OF BULK AT MOST 1048576: true; the input reads as it did. -/
def fnExactIsMachineUptoRow : OpenClaim := { program := "ytfcadppidgkoaaa", sum := "91eeab7cba120200410a83fab6a90ed6b61a891309f2adae80dba3d859accce0", func := "loop.example/g01175/laws.FnExactIsMachine", spec := "fnExactIsMachine", inPlace := ["internal/bytealg.IndexByteString"], unfollowed := true, recurses := true, apart := false, narrowed := true }
def FnExactIsMachineUptoSaid : Prop := fnExactIsMachineUptoRow.holds Try.pinned (OpenSpec.upto fnExactIsMachineSpec)

/-- 'laws.FnExactRenameFree', WHERE WHAT IT READS IS OF BULK AT MOST 1048576: true; the input reads as it did. -/
def fnExactRenameFreeUptoRow : OpenClaim := { program := "ytfcadppidgkoaaa", sum := "91eeab7cba120200410a83fab6a90ed6b61a891309f2adae80dba3d859accce0", func := "loop.example/g01175/laws.FnExactRenameFree", spec := "fnExactRenameFree", recurses := true, apart := false, narrowed := true }
def FnExactRenameFreeUptoSaid : Prop := fnExactRenameFreeUptoRow.holds Try.pinned (OpenSpec.upto fnExactRenameFreeSpec)

/-- 'laws.FnExactCanonicalNames', WHERE WHAT IT READS IS OF BULK AT MOST 1048576: true; the input reads as it did. -/
def fnExactCanonicalNamesUptoRow : OpenClaim := { program := "ytfcadppidgkoaaa", sum := "91eeab7cba120200410a83fab6a90ed6b61a891309f2adae80dba3d859accce0", func := "loop.example/g01175/laws.FnExactCanonicalNames", spec := "fnExactCanonicalNames", recurses := true, apart := false, narrowed := true }
def FnExactCanonicalNamesUptoSaid : Prop := fnExactCanonicalNamesUptoRow.holds Try.pinned (OpenSpec.upto fnExactCanonicalNamesSpec)

end Rows
end Go.Proofs.Ytfcadppidgkoaaa
