/-
  No cell of these rows narrows 'for every input' (looked for: loops, veiled, ifaces, maps, wideKeys, modest, calm, conditions, laid).
  DERIVED. THE GIVEN ROWS OF THIS SEAT. 9 by the template 'for every input the law returns true; each argument reads behind the call as it read before'; 0 by the template 'total and deterministic' (their statements: YtonfbnbfbdcmhaaTotals.lean).
  GIVEN WITH THE SEED: the statements are not yours to turn. If you find one false, say at which input.
  Laid BY PROGRAM, IN A SANDBOX (cutbox-rows.mjs): the forced cells as the released guide's own fill.sh prints them over the translation 7bdd776599ba5a96… (all of the seat's roots in one cut). By AI agents, Wed Nov 11 2026. No macro, syntax, notation, axiom, sorry.
-/
import Derived.Test.YtonfbnbfbdcmhaaChecked
import GoSem.Claim
import GoSem.ClaimJoined
import GoSem.ClaimMapViews
import Derived.JoinedTies
import Derived.KernelRfl
namespace Go.Proofs.Ytonfbnbfbdcmhaa
/- THE CELL 'sum', in the pinned program and in every row, IS THE sha256 OF THE DUMP (.gsa) THAT YtonfbnbfbdcmhaaProg.lean LOADS. Nothing in Lean hashes anything: it is a label: what it is worth is what the hold of that sum in a sandbox is worth. -/
noncomputable def Try.pinned : Pinned := { name := "ytonfbnbfbdcmhaa", sum := "7bdd776599ba5a96f8e770103970137f13ea3be37c809aebf4bb1e3edfdf97da", checked := Try.checked }
namespace Rows
def none {H : Type} : Left H := { results := [], args := [] }

/-- 'laws.FnExactLevelOf': WHATEVER THE INPUT: true; the input reads as it did. -/
def fnExactLevelOfSpec : ChangeSpec := { name := "fnExactLevelOf", fn := fun _ => fun
  | [d1, d2] => { results := [.lit (.bool true)], args := [d1, d2] }
  | _ => none }
def fnExactLevelOfRow : OpenClaim := { program := "ytonfbnbfbdcmhaa", sum := "7bdd776599ba5a96f8e770103970137f13ea3be37c809aebf4bb1e3edfdf97da", func := "loop.example/g01175/laws.FnExactLevelOf", spec := "fnExactLevelOf", unfollowed := true, recurses := true, apart := false }
def FnExactLevelOfSaid : Prop := fnExactLevelOfRow.holds Try.pinned (OpenSpec.ofChange fnExactLevelOfSpec)

/-- ITS FALSE NEIGHBOUR: 'it returns false'. Refute it at one input. -/
def fnExactLevelOfWrong : ChangeSpec := { name := "fnExactLevelOf", fn := fun _ => fun
  | [d1, d2] => { results := [.lit (.bool false)], args := [d1, d2] }
  | _ => none }
def FnExactLevelOfWrongFalsely : Prop := fnExactLevelOfRow.holds Try.pinned (OpenSpec.ofChange fnExactLevelOfWrong)

/-- 'laws.FnExactSortText': WHATEVER THE INPUT: true; the input reads as it did. -/
def fnExactSortTextSpec : ChangeSpec := { name := "fnExactSortText", fn := fun _ => fun
  | [d1, d2] => { results := [.lit (.bool true)], args := [d1, d2] }
  | _ => none }
def fnExactSortTextRow : OpenClaim := { program := "ytonfbnbfbdcmhaa", sum := "7bdd776599ba5a96f8e770103970137f13ea3be37c809aebf4bb1e3edfdf97da", func := "loop.example/g01175/laws.FnExactSortText", spec := "fnExactSortText", inPlace := ["internal/abi.NoEscape", "internal/bytealg.MakeNoZero"], unfollowed := true, recurses := true, apart := false }
def FnExactSortTextSaid : Prop := fnExactSortTextRow.holds Try.pinned (OpenSpec.ofChange fnExactSortTextSpec)

/-- ITS FALSE NEIGHBOUR: 'it returns false'. Refute it at one input. -/
def fnExactSortTextWrong : ChangeSpec := { name := "fnExactSortText", fn := fun _ => fun
  | [d1, d2] => { results := [.lit (.bool false)], args := [d1, d2] }
  | _ => none }
def FnExactSortTextWrongFalsely : Prop := fnExactSortTextRow.holds Try.pinned (OpenSpec.ofChange fnExactSortTextWrong)

/-- 'laws.FnExactHaveSameSort': WHATEVER THE INPUT: true; the input reads as it did. -/
def fnExactHaveSameSortSpec : ChangeSpec := { name := "fnExactHaveSameSort", fn := fun _ => fun
  | [d1, d2, d3] => { results := [.lit (.bool true)], args := [d1, d2, d3] }
  | _ => none }
def fnExactHaveSameSortRow : OpenClaim := { program := "ytonfbnbfbdcmhaa", sum := "7bdd776599ba5a96f8e770103970137f13ea3be37c809aebf4bb1e3edfdf97da", func := "loop.example/g01175/laws.FnExactHaveSameSort", spec := "fnExactHaveSameSort", unfollowed := true, recurses := true, apart := false }
def FnExactHaveSameSortSaid : Prop := fnExactHaveSameSortRow.holds Try.pinned (OpenSpec.ofChange fnExactHaveSameSortSpec)

/-- ITS FALSE NEIGHBOUR: 'it returns false'. Refute it at one input. -/
def fnExactHaveSameSortWrong : ChangeSpec := { name := "fnExactHaveSameSort", fn := fun _ => fun
  | [d1, d2, d3] => { results := [.lit (.bool false)], args := [d1, d2, d3] }
  | _ => none }
def FnExactHaveSameSortWrongFalsely : Prop := fnExactHaveSameSortRow.holds Try.pinned (OpenSpec.ofChange fnExactHaveSameSortWrong)

/-- 'laws.FnExactIsAtRest': WHATEVER THE INPUT: true; the input reads as it did. -/
def fnExactIsAtRestSpec : ChangeSpec := { name := "fnExactIsAtRest", fn := fun _ => fun
  | [d] => { results := [.lit (.bool true)], args := [d] }
  | _ => none }
def fnExactIsAtRestRow : OpenClaim := { program := "ytonfbnbfbdcmhaa", sum := "7bdd776599ba5a96f8e770103970137f13ea3be37c809aebf4bb1e3edfdf97da", func := "loop.example/g01175/laws.FnExactIsAtRest", spec := "fnExactIsAtRest", inPlace := ["internal/bytealg.IndexByteString"], unfollowed := true, recurses := true, apart := false }
def FnExactIsAtRestSaid : Prop := fnExactIsAtRestRow.holds Try.pinned (OpenSpec.ofChange fnExactIsAtRestSpec)

/-- ITS FALSE NEIGHBOUR: 'it returns false'. Refute it at one input. -/
def fnExactIsAtRestWrong : ChangeSpec := { name := "fnExactIsAtRest", fn := fun _ => fun
  | [d] => { results := [.lit (.bool false)], args := [d] }
  | _ => none }
def FnExactIsAtRestWrongFalsely : Prop := fnExactIsAtRestRow.holds Try.pinned (OpenSpec.ofChange fnExactIsAtRestWrong)

/-- 'laws.FnExactCanBeSorted': WHATEVER THE INPUT: true; the input reads as it did. -/
def fnExactCanBeSortedSpec : ChangeSpec := { name := "fnExactCanBeSorted", fn := fun _ => fun
  | [d] => { results := [.lit (.bool true)], args := [d] }
  | _ => none }
def fnExactCanBeSortedRow : OpenClaim := { program := "ytonfbnbfbdcmhaa", sum := "7bdd776599ba5a96f8e770103970137f13ea3be37c809aebf4bb1e3edfdf97da", func := "loop.example/g01175/laws.FnExactCanBeSorted", spec := "fnExactCanBeSorted", unfollowed := true, recurses := true, apart := false }
def FnExactCanBeSortedSaid : Prop := fnExactCanBeSortedRow.holds Try.pinned (OpenSpec.ofChange fnExactCanBeSortedSpec)

/-- ITS FALSE NEIGHBOUR: 'it returns false'. Refute it at one input. -/
def fnExactCanBeSortedWrong : ChangeSpec := { name := "fnExactCanBeSorted", fn := fun _ => fun
  | [d] => { results := [.lit (.bool false)], args := [d] }
  | _ => none }
def FnExactCanBeSortedWrongFalsely : Prop := fnExactCanBeSortedRow.holds Try.pinned (OpenSpec.ofChange fnExactCanBeSortedWrong)

/-- 'laws.FnExactCycleNames': WHATEVER THE INPUT: true; the input reads as it did. -/
def fnExactCycleNamesSpec : ChangeSpec := { name := "fnExactCycleNames", fn := fun _ => fun
  | [d] => { results := [.lit (.bool true)], args := [d] }
  | _ => none }
def fnExactCycleNamesRow : OpenClaim := { program := "ytonfbnbfbdcmhaa", sum := "7bdd776599ba5a96f8e770103970137f13ea3be37c809aebf4bb1e3edfdf97da", func := "loop.example/g01175/laws.FnExactCycleNames", spec := "fnExactCycleNames", unfollowed := true, recurses := true, apart := false }
def FnExactCycleNamesSaid : Prop := fnExactCycleNamesRow.holds Try.pinned (OpenSpec.ofChange fnExactCycleNamesSpec)

/-- ITS FALSE NEIGHBOUR: 'it returns false'. Refute it at one input. -/
def fnExactCycleNamesWrong : ChangeSpec := { name := "fnExactCycleNames", fn := fun _ => fun
  | [d] => { results := [.lit (.bool false)], args := [d] }
  | _ => none }
def FnExactCycleNamesWrongFalsely : Prop := fnExactCycleNamesRow.holds Try.pinned (OpenSpec.ofChange fnExactCycleNamesWrong)

/-- 'laws.FnExactCarriedBy': WHATEVER THE INPUT: true; the input reads as it did. -/
def fnExactCarriedBySpec : ChangeSpec := { name := "fnExactCarriedBy", fn := fun _ => fun
  | [d1, d2] => { results := [.lit (.bool true)], args := [d1, d2] }
  | _ => none }
def fnExactCarriedByRow : OpenClaim := { program := "ytonfbnbfbdcmhaa", sum := "7bdd776599ba5a96f8e770103970137f13ea3be37c809aebf4bb1e3edfdf97da", func := "loop.example/g01175/laws.FnExactCarriedBy", spec := "fnExactCarriedBy", unfollowed := true, recurses := true, apart := false }
def FnExactCarriedBySaid : Prop := fnExactCarriedByRow.holds Try.pinned (OpenSpec.ofChange fnExactCarriedBySpec)

/-- ITS FALSE NEIGHBOUR: 'it returns false'. Refute it at one input. -/
def fnExactCarriedByWrong : ChangeSpec := { name := "fnExactCarriedBy", fn := fun _ => fun
  | [d1, d2] => { results := [.lit (.bool false)], args := [d1, d2] }
  | _ => none }
def FnExactCarriedByWrongFalsely : Prop := fnExactCarriedByRow.holds Try.pinned (OpenSpec.ofChange fnExactCarriedByWrong)

/-- 'laws.FnExactWaitingOver': WHATEVER THE INPUT: true; the input reads as it did. -/
def fnExactWaitingOverSpec : ChangeSpec := { name := "fnExactWaitingOver", fn := fun _ => fun
  | [d1, d2] => { results := [.lit (.bool true)], args := [d1, d2] }
  | _ => none }
def fnExactWaitingOverRow : OpenClaim := { program := "ytonfbnbfbdcmhaa", sum := "7bdd776599ba5a96f8e770103970137f13ea3be37c809aebf4bb1e3edfdf97da", func := "loop.example/g01175/laws.FnExactWaitingOver", spec := "fnExactWaitingOver", inPlace := ["internal/bytealg.IndexByteString"], unfollowed := true, recurses := true, apart := false }
def FnExactWaitingOverSaid : Prop := fnExactWaitingOverRow.holds Try.pinned (OpenSpec.ofChange fnExactWaitingOverSpec)

/-- ITS FALSE NEIGHBOUR: 'it returns false'. Refute it at one input. -/
def fnExactWaitingOverWrong : ChangeSpec := { name := "fnExactWaitingOver", fn := fun _ => fun
  | [d1, d2] => { results := [.lit (.bool false)], args := [d1, d2] }
  | _ => none }
def FnExactWaitingOverWrongFalsely : Prop := fnExactWaitingOverRow.holds Try.pinned (OpenSpec.ofChange fnExactWaitingOverWrong)

/-- 'laws.FnExactSortClasses': WHATEVER THE INPUT: true; the input reads as it did. -/
def fnExactSortClassesSpec : ChangeSpec := { name := "fnExactSortClasses", fn := fun _ => fun
  | [d] => { results := [.lit (.bool true)], args := [d] }
  | _ => none }
def fnExactSortClassesRow : OpenClaim := { program := "ytonfbnbfbdcmhaa", sum := "7bdd776599ba5a96f8e770103970137f13ea3be37c809aebf4bb1e3edfdf97da", func := "loop.example/g01175/laws.FnExactSortClasses", spec := "fnExactSortClasses", inPlace := ["internal/bytealg.IndexByteString"], unfollowed := true, recurses := true, apart := false }
def FnExactSortClassesSaid : Prop := fnExactSortClassesRow.holds Try.pinned (OpenSpec.ofChange fnExactSortClassesSpec)

/-- ITS FALSE NEIGHBOUR: 'it returns false'. Refute it at one input. -/
def fnExactSortClassesWrong : ChangeSpec := { name := "fnExactSortClasses", fn := fun _ => fun
  | [d] => { results := [.lit (.bool false)], args := [d] }
  | _ => none }
def FnExactSortClassesWrongFalsely : Prop := fnExactSortClassesRow.holds Try.pinned (OpenSpec.ofChange fnExactSortClassesWrong)

/- THE SECOND FORM. 'bulk': how many values and letters a reading holds, each counted each time it is reached (what is shared counts as often as it is met; a slice's spare places count too). A statement '..UptoSaid' is the law's where the arguments, and the package variables that the reading takes, are together of bulk at most 1048576: NARROWER than '..Said'. Prove '..Said' where nothing that the law and all that it calls make is longer than what came in: it says more and counts as full. Else prove '..UptoSaid'. A law counts once. -/
mutual
def uptoBulk {H : Type} : DataW H → Nat
  | .lit (.string bytes) => bytes.length + 1
  | .lit _ => 1
  | .nil => 1
  | .ptr d => uptoBulk d + 1
  | .slice elems spare => uptoBulkAll elems + uptoBulkAll spare + 1
  | .agg parts => uptoBulkAll parts + 1
  | .iface _ d => uptoBulk d + 1
  | .map entries => uptoBulkEntries entries + 1
  | .held _ => 1
def uptoBulkAll {H : Type} : List (DataW H) → Nat
  | [] => 0
  | d :: r => uptoBulk d + uptoBulkAll r
def uptoBulkEntries {H : Type} : List (Lit × DataW H) → Nat
  | [] => 0
  | x :: r => uptoBulkEntry x + uptoBulkEntries r
def uptoBulkEntry {H : Type} : Lit × DataW H → Nat
  | (.string bytes, d) => bytes.length + uptoBulk d + 1
  | (_, d) => uptoBulk d + 1
 end
def uptoSmall : (H : Type) → List (DataW H) → Bool := fun _ ds => decide (uptoBulkAll ds ≤ 1048576)
def OpenSpec.upto (s : _root_.Go.ChangeSpec) : _root_.Go.OpenSpec := { _root_.Go.OpenSpec.ofChange s with cond := some uptoSmall }

/-- 'laws.FnExactLevelOf', WHERE WHAT IT READS IS OF BULK AT MOST 1048576: true; the input reads as it did. -/
def fnExactLevelOfUptoRow : OpenClaim := { program := "ytonfbnbfbdcmhaa", sum := "7bdd776599ba5a96f8e770103970137f13ea3be37c809aebf4bb1e3edfdf97da", func := "loop.example/g01175/laws.FnExactLevelOf", spec := "fnExactLevelOf", unfollowed := true, recurses := true, apart := false, narrowed := true }
def FnExactLevelOfUptoSaid : Prop := fnExactLevelOfUptoRow.holds Try.pinned (OpenSpec.upto fnExactLevelOfSpec)

/-- 'laws.FnExactSortText', WHERE WHAT IT READS IS OF BULK AT MOST 1048576: true; the input reads as it did. -/
def fnExactSortTextUptoRow : OpenClaim := { program := "ytonfbnbfbdcmhaa", sum := "7bdd776599ba5a96f8e770103970137f13ea3be37c809aebf4bb1e3edfdf97da", func := "loop.example/g01175/laws.FnExactSortText", spec := "fnExactSortText", inPlace := ["internal/abi.NoEscape", "internal/bytealg.MakeNoZero"], unfollowed := true, recurses := true, apart := false, narrowed := true }
def FnExactSortTextUptoSaid : Prop := fnExactSortTextUptoRow.holds Try.pinned (OpenSpec.upto fnExactSortTextSpec)

/-- 'laws.FnExactHaveSameSort', WHERE WHAT IT READS IS OF BULK AT MOST 1048576: true; the input reads as it did. -/
def fnExactHaveSameSortUptoRow : OpenClaim := { program := "ytonfbnbfbdcmhaa", sum := "7bdd776599ba5a96f8e770103970137f13ea3be37c809aebf4bb1e3edfdf97da", func := "loop.example/g01175/laws.FnExactHaveSameSort", spec := "fnExactHaveSameSort", unfollowed := true, recurses := true, apart := false, narrowed := true }
def FnExactHaveSameSortUptoSaid : Prop := fnExactHaveSameSortUptoRow.holds Try.pinned (OpenSpec.upto fnExactHaveSameSortSpec)

/-- 'laws.FnExactIsAtRest', WHERE WHAT IT READS IS OF BULK AT MOST 1048576: true; the input reads as it did. -/
def fnExactIsAtRestUptoRow : OpenClaim := { program := "ytonfbnbfbdcmhaa", sum := "7bdd776599ba5a96f8e770103970137f13ea3be37c809aebf4bb1e3edfdf97da", func := "loop.example/g01175/laws.FnExactIsAtRest", spec := "fnExactIsAtRest", inPlace := ["internal/bytealg.IndexByteString"], unfollowed := true, recurses := true, apart := false, narrowed := true }
def FnExactIsAtRestUptoSaid : Prop := fnExactIsAtRestUptoRow.holds Try.pinned (OpenSpec.upto fnExactIsAtRestSpec)

/-- 'laws.FnExactCanBeSorted', WHERE WHAT IT READS IS OF BULK AT MOST 1048576: true; the input reads as it did. -/
def fnExactCanBeSortedUptoRow : OpenClaim := { program := "ytonfbnbfbdcmhaa", sum := "7bdd776599ba5a96f8e770103970137f13ea3be37c809aebf4bb1e3edfdf97da", func := "loop.example/g01175/laws.FnExactCanBeSorted", spec := "fnExactCanBeSorted", unfollowed := true, recurses := true, apart := false, narrowed := true }
def FnExactCanBeSortedUptoSaid : Prop := fnExactCanBeSortedUptoRow.holds Try.pinned (OpenSpec.upto fnExactCanBeSortedSpec)

/-- 'laws.FnExactCycleNames', WHERE WHAT IT READS IS OF BULK AT MOST 1048576: true; the input reads as it did. -/
def fnExactCycleNamesUptoRow : OpenClaim := { program := "ytonfbnbfbdcmhaa", sum := "7bdd776599ba5a96f8e770103970137f13ea3be37c809aebf4bb1e3edfdf97da", func := "loop.example/g01175/laws.FnExactCycleNames", spec := "fnExactCycleNames", unfollowed := true, recurses := true, apart := false, narrowed := true }
def FnExactCycleNamesUptoSaid : Prop := fnExactCycleNamesUptoRow.holds Try.pinned (OpenSpec.upto fnExactCycleNamesSpec)

/-- 'laws.FnExactCarriedBy', WHERE WHAT IT READS IS OF BULK AT MOST 1048576: true; the input reads as it did. -/
def fnExactCarriedByUptoRow : OpenClaim := { program := "ytonfbnbfbdcmhaa", sum := "7bdd776599ba5a96f8e770103970137f13ea3be37c809aebf4bb1e3edfdf97da", func := "loop.example/g01175/laws.FnExactCarriedBy", spec := "fnExactCarriedBy", unfollowed := true, recurses := true, apart := false, narrowed := true }
def FnExactCarriedByUptoSaid : Prop := fnExactCarriedByUptoRow.holds Try.pinned (OpenSpec.upto fnExactCarriedBySpec)

/-- 'laws.FnExactWaitingOver', WHERE WHAT IT READS IS OF BULK AT MOST 1048576: true; the input reads as it did. -/
def fnExactWaitingOverUptoRow : OpenClaim := { program := "ytonfbnbfbdcmhaa", sum := "7bdd776599ba5a96f8e770103970137f13ea3be37c809aebf4bb1e3edfdf97da", func := "loop.example/g01175/laws.FnExactWaitingOver", spec := "fnExactWaitingOver", inPlace := ["internal/bytealg.IndexByteString"], unfollowed := true, recurses := true, apart := false, narrowed := true }
def FnExactWaitingOverUptoSaid : Prop := fnExactWaitingOverUptoRow.holds Try.pinned (OpenSpec.upto fnExactWaitingOverSpec)

/-- 'laws.FnExactSortClasses', WHERE WHAT IT READS IS OF BULK AT MOST 1048576: true; the input reads as it did. -/
def fnExactSortClassesUptoRow : OpenClaim := { program := "ytonfbnbfbdcmhaa", sum := "7bdd776599ba5a96f8e770103970137f13ea3be37c809aebf4bb1e3edfdf97da", func := "loop.example/g01175/laws.FnExactSortClasses", spec := "fnExactSortClasses", inPlace := ["internal/bytealg.IndexByteString"], unfollowed := true, recurses := true, apart := false, narrowed := true }
def FnExactSortClassesUptoSaid : Prop := fnExactSortClassesUptoRow.holds Try.pinned (OpenSpec.upto fnExactSortClassesSpec)

end Rows
end Go.Proofs.Ytonfbnbfbdcmhaa
