/-
  No cell of these rows narrows 'for every input' (looked for: loops, veiled, ifaces, maps, wideKeys, modest, calm, conditions, laid).
  DERIVED. THE GIVEN ROWS OF THIS SEAT. 12 by the template 'for every input the law returns true; each argument reads behind the call as it read before'; 0 by the template 'total and deterministic' (their statements: YteepgblpoddcfaaTotals.lean).
  GIVEN WITH THE SEED: the statements are not yours to turn. If you find one false, say at which input.
  Laid BY PROGRAM, IN A SANDBOX (cutbox-rows.mjs): the forced cells as the released guide's own fill.sh prints them over the translation e976da2f5aa8430f… (all of the seat's roots in one cut). By AI agents, Wed Nov 11 2026. No macro, syntax, notation, axiom, sorry.
-/
import Derived.Test.YteepgblpoddcfaaChecked
import GoSem.Claim
import GoSem.ClaimJoined
import GoSem.ClaimMapViews
import Derived.JoinedTies
import Derived.KernelRfl
namespace Go.Proofs.Yteepgblpoddcfaa
/- THE CELL 'sum', in the pinned program and in every row, IS THE sha256 OF THE DUMP (.gsa) THAT YteepgblpoddcfaaProg.lean LOADS. Nothing in Lean hashes anything: it is a label: what it is worth is what the hold of that sum in a sandbox is worth. -/
noncomputable def Try.pinned : Pinned := { name := "yteepgblpoddcfaa", sum := "e976da2f5aa8430fca839e8c249f5b7669bdc865f2d5437b098b66f0ca6f9467", checked := Try.checked }
namespace Rows
def none {H : Type} : Left H := { results := [], args := [] }

/-- 'laws.FnExactConstants': WHATEVER THE INPUT: true; the input reads as it did. -/
def fnExactConstantsSpec : ChangeSpec := { name := "fnExactConstants", fn := fun _ => fun
  | [] => { results := [.lit (.bool true)], args := [] }
  | _ => none }
def fnExactConstantsRow : OpenClaim := { program := "yteepgblpoddcfaa", sum := "e976da2f5aa8430fca839e8c249f5b7669bdc865f2d5437b098b66f0ca6f9467", func := "loop.example/g01175/laws.FnExactConstants", spec := "fnExactConstants", apart := false }
def FnExactConstantsSaid : Prop := fnExactConstantsRow.holds Try.pinned (OpenSpec.ofChange fnExactConstantsSpec)

/-- ITS FALSE NEIGHBOUR: 'it returns false'. Refute it at one input. -/
def fnExactConstantsWrong : ChangeSpec := { name := "fnExactConstants", fn := fun _ => fun
  | [] => { results := [.lit (.bool false)], args := [] }
  | _ => none }
def FnExactConstantsWrongFalsely : Prop := fnExactConstantsRow.holds Try.pinned (OpenSpec.ofChange fnExactConstantsWrong)

/-- 'laws.FnExactIsLabel': WHATEVER THE INPUT: true; the input reads as it did. -/
def fnExactIsLabelSpec : ChangeSpec := { name := "fnExactIsLabel", fn := fun _ => fun
  | [d] => { results := [.lit (.bool true)], args := [d] }
  | _ => none }
def fnExactIsLabelRow : OpenClaim := { program := "yteepgblpoddcfaa", sum := "e976da2f5aa8430fca839e8c249f5b7669bdc865f2d5437b098b66f0ca6f9467", func := "loop.example/g01175/laws.FnExactIsLabel", spec := "fnExactIsLabel", apart := false }
def FnExactIsLabelSaid : Prop := fnExactIsLabelRow.holds Try.pinned (OpenSpec.ofChange fnExactIsLabelSpec)

/-- ITS FALSE NEIGHBOUR: 'it returns false'. Refute it at one input. -/
def fnExactIsLabelWrong : ChangeSpec := { name := "fnExactIsLabel", fn := fun _ => fun
  | [d] => { results := [.lit (.bool false)], args := [d] }
  | _ => none }
def FnExactIsLabelWrongFalsely : Prop := fnExactIsLabelRow.holds Try.pinned (OpenSpec.ofChange fnExactIsLabelWrong)

/-- 'laws.FnExactObjectOf': WHATEVER THE INPUT: true; the input reads as it did. -/
def fnExactObjectOfSpec : ChangeSpec := { name := "fnExactObjectOf", fn := fun _ => fun
  | [d] => { results := [.lit (.bool true)], args := [d] }
  | _ => none }
def fnExactObjectOfRow : OpenClaim := { program := "yteepgblpoddcfaa", sum := "e976da2f5aa8430fca839e8c249f5b7669bdc865f2d5437b098b66f0ca6f9467", func := "loop.example/g01175/laws.FnExactObjectOf", spec := "fnExactObjectOf", apart := false }
def FnExactObjectOfSaid : Prop := fnExactObjectOfRow.holds Try.pinned (OpenSpec.ofChange fnExactObjectOfSpec)

/-- ITS FALSE NEIGHBOUR: 'it returns false'. Refute it at one input. -/
def fnExactObjectOfWrong : ChangeSpec := { name := "fnExactObjectOf", fn := fun _ => fun
  | [d] => { results := [.lit (.bool false)], args := [d] }
  | _ => none }
def FnExactObjectOfWrongFalsely : Prop := fnExactObjectOfRow.holds Try.pinned (OpenSpec.ofChange fnExactObjectOfWrong)

/-- 'laws.FnExactSubjectOf': WHATEVER THE INPUT: true; the input reads as it did. -/
def fnExactSubjectOfSpec : ChangeSpec := { name := "fnExactSubjectOf", fn := fun _ => fun
  | [d] => { results := [.lit (.bool true)], args := [d] }
  | _ => none }
def fnExactSubjectOfRow : OpenClaim := { program := "yteepgblpoddcfaa", sum := "e976da2f5aa8430fca839e8c249f5b7669bdc865f2d5437b098b66f0ca6f9467", func := "loop.example/g01175/laws.FnExactSubjectOf", spec := "fnExactSubjectOf", apart := false }
def FnExactSubjectOfSaid : Prop := fnExactSubjectOfRow.holds Try.pinned (OpenSpec.ofChange fnExactSubjectOfSpec)

/-- ITS FALSE NEIGHBOUR: 'it returns false'. Refute it at one input. -/
def fnExactSubjectOfWrong : ChangeSpec := { name := "fnExactSubjectOf", fn := fun _ => fun
  | [d] => { results := [.lit (.bool false)], args := [d] }
  | _ => none }
def FnExactSubjectOfWrongFalsely : Prop := fnExactSubjectOfRow.holds Try.pinned (OpenSpec.ofChange fnExactSubjectOfWrong)

/-- 'laws.FnExactFreshName': WHATEVER THE INPUT: true; the input reads as it did. -/
def fnExactFreshNameSpec : ChangeSpec := { name := "fnExactFreshName", fn := fun _ => fun
  | [d] => { results := [.lit (.bool true)], args := [d] }
  | _ => none }
def fnExactFreshNameRow : OpenClaim := { program := "yteepgblpoddcfaa", sum := "e976da2f5aa8430fca839e8c249f5b7669bdc865f2d5437b098b66f0ca6f9467", func := "loop.example/g01175/laws.FnExactFreshName", spec := "fnExactFreshName", apart := false }
def FnExactFreshNameSaid : Prop := fnExactFreshNameRow.holds Try.pinned (OpenSpec.ofChange fnExactFreshNameSpec)

/-- ITS FALSE NEIGHBOUR: 'it returns false'. Refute it at one input. -/
def fnExactFreshNameWrong : ChangeSpec := { name := "fnExactFreshName", fn := fun _ => fun
  | [d] => { results := [.lit (.bool false)], args := [d] }
  | _ => none }
def FnExactFreshNameWrongFalsely : Prop := fnExactFreshNameRow.holds Try.pinned (OpenSpec.ofChange fnExactFreshNameWrong)

/-- 'laws.FnExactCellAt': WHATEVER THE INPUT: true; the input reads as it did. -/
def fnExactCellAtSpec : ChangeSpec := { name := "fnExactCellAt", fn := fun _ => fun
  | [d1, d2] => { results := [.lit (.bool true)], args := [d1, d2] }
  | _ => none }
def fnExactCellAtRow : OpenClaim := { program := "yteepgblpoddcfaa", sum := "e976da2f5aa8430fca839e8c249f5b7669bdc865f2d5437b098b66f0ca6f9467", func := "loop.example/g01175/laws.FnExactCellAt", spec := "fnExactCellAt", recurses := true, apart := false }
def FnExactCellAtSaid : Prop := fnExactCellAtRow.holds Try.pinned (OpenSpec.ofChange fnExactCellAtSpec)

/-- ITS FALSE NEIGHBOUR: 'it returns false'. Refute it at one input. -/
def fnExactCellAtWrong : ChangeSpec := { name := "fnExactCellAt", fn := fun _ => fun
  | [d1, d2] => { results := [.lit (.bool false)], args := [d1, d2] }
  | _ => none }
def FnExactCellAtWrongFalsely : Prop := fnExactCellAtRow.holds Try.pinned (OpenSpec.ofChange fnExactCellAtWrong)

/-- 'laws.FnExactIsFormula': WHATEVER THE INPUT: true; the input reads as it did. -/
def fnExactIsFormulaSpec : ChangeSpec := { name := "fnExactIsFormula", fn := fun _ => fun
  | [d] => { results := [.lit (.bool true)], args := [d] }
  | _ => none }
def fnExactIsFormulaRow : OpenClaim := { program := "yteepgblpoddcfaa", sum := "e976da2f5aa8430fca839e8c249f5b7669bdc865f2d5437b098b66f0ca6f9467", func := "loop.example/g01175/laws.FnExactIsFormula", spec := "fnExactIsFormula", inPlace := ["internal/bytealg.IndexByteString"], recurses := true, apart := false }
def FnExactIsFormulaSaid : Prop := fnExactIsFormulaRow.holds Try.pinned (OpenSpec.ofChange fnExactIsFormulaSpec)

/-- ITS FALSE NEIGHBOUR: 'it returns false'. Refute it at one input. -/
def fnExactIsFormulaWrong : ChangeSpec := { name := "fnExactIsFormula", fn := fun _ => fun
  | [d] => { results := [.lit (.bool false)], args := [d] }
  | _ => none }
def FnExactIsFormulaWrongFalsely : Prop := fnExactIsFormulaRow.holds Try.pinned (OpenSpec.ofChange fnExactIsFormulaWrong)

/-- 'laws.FnExactDepthOfFormula': WHATEVER THE INPUT: true; the input reads as it did. -/
def fnExactDepthOfFormulaSpec : ChangeSpec := { name := "fnExactDepthOfFormula", fn := fun _ => fun
  | [d] => { results := [.lit (.bool true)], args := [d] }
  | _ => none }
def fnExactDepthOfFormulaRow : OpenClaim := { program := "yteepgblpoddcfaa", sum := "e976da2f5aa8430fca839e8c249f5b7669bdc865f2d5437b098b66f0ca6f9467", func := "loop.example/g01175/laws.FnExactDepthOfFormula", spec := "fnExactDepthOfFormula", inPlace := ["internal/bytealg.IndexByteString"], recurses := true, apart := false }
def FnExactDepthOfFormulaSaid : Prop := fnExactDepthOfFormulaRow.holds Try.pinned (OpenSpec.ofChange fnExactDepthOfFormulaSpec)

/-- ITS FALSE NEIGHBOUR: 'it returns false'. Refute it at one input. -/
def fnExactDepthOfFormulaWrong : ChangeSpec := { name := "fnExactDepthOfFormula", fn := fun _ => fun
  | [d] => { results := [.lit (.bool false)], args := [d] }
  | _ => none }
def FnExactDepthOfFormulaWrongFalsely : Prop := fnExactDepthOfFormulaRow.holds Try.pinned (OpenSpec.ofChange fnExactDepthOfFormulaWrong)

/-- 'laws.FnExactIsProcess': WHATEVER THE INPUT: true; the input reads as it did. -/
def fnExactIsProcessSpec : ChangeSpec := { name := "fnExactIsProcess", fn := fun _ => fun
  | [d] => { results := [.lit (.bool true)], args := [d] }
  | _ => none }
def fnExactIsProcessRow : OpenClaim := { program := "yteepgblpoddcfaa", sum := "e976da2f5aa8430fca839e8c249f5b7669bdc865f2d5437b098b66f0ca6f9467", func := "loop.example/g01175/laws.FnExactIsProcess", spec := "fnExactIsProcess", recurses := true, apart := false }
def FnExactIsProcessSaid : Prop := fnExactIsProcessRow.holds Try.pinned (OpenSpec.ofChange fnExactIsProcessSpec)

/-- ITS FALSE NEIGHBOUR: 'it returns false'. Refute it at one input. -/
def fnExactIsProcessWrong : ChangeSpec := { name := "fnExactIsProcess", fn := fun _ => fun
  | [d] => { results := [.lit (.bool false)], args := [d] }
  | _ => none }
def FnExactIsProcessWrongFalsely : Prop := fnExactIsProcessRow.holds Try.pinned (OpenSpec.ofChange fnExactIsProcessWrong)

/-- 'laws.FnExactKindOf': WHATEVER THE INPUT: true; the input reads as it did. -/
def fnExactKindOfSpec : ChangeSpec := { name := "fnExactKindOf", fn := fun _ => fun
  | [d] => { results := [.lit (.bool true)], args := [d] }
  | _ => none }
def fnExactKindOfRow : OpenClaim := { program := "yteepgblpoddcfaa", sum := "e976da2f5aa8430fca839e8c249f5b7669bdc865f2d5437b098b66f0ca6f9467", func := "loop.example/g01175/laws.FnExactKindOf", spec := "fnExactKindOf", recurses := true, apart := false }
def FnExactKindOfSaid : Prop := fnExactKindOfRow.holds Try.pinned (OpenSpec.ofChange fnExactKindOfSpec)

/-- ITS FALSE NEIGHBOUR: 'it returns false'. Refute it at one input. -/
def fnExactKindOfWrong : ChangeSpec := { name := "fnExactKindOf", fn := fun _ => fun
  | [d] => { results := [.lit (.bool false)], args := [d] }
  | _ => none }
def FnExactKindOfWrongFalsely : Prop := fnExactKindOfRow.holds Try.pinned (OpenSpec.ofChange fnExactKindOfWrong)

/-- 'laws.FnExactSizeOf': WHATEVER THE INPUT: true; the input reads as it did. -/
def fnExactSizeOfSpec : ChangeSpec := { name := "fnExactSizeOf", fn := fun _ => fun
  | [d] => { results := [.lit (.bool true)], args := [d] }
  | _ => none }
def fnExactSizeOfRow : OpenClaim := { program := "yteepgblpoddcfaa", sum := "e976da2f5aa8430fca839e8c249f5b7669bdc865f2d5437b098b66f0ca6f9467", func := "loop.example/g01175/laws.FnExactSizeOf", spec := "fnExactSizeOf", recurses := true, apart := false }
def FnExactSizeOfSaid : Prop := fnExactSizeOfRow.holds Try.pinned (OpenSpec.ofChange fnExactSizeOfSpec)

/-- ITS FALSE NEIGHBOUR: 'it returns false'. Refute it at one input. -/
def fnExactSizeOfWrong : ChangeSpec := { name := "fnExactSizeOf", fn := fun _ => fun
  | [d] => { results := [.lit (.bool false)], args := [d] }
  | _ => none }
def FnExactSizeOfWrongFalsely : Prop := fnExactSizeOfRow.holds Try.pinned (OpenSpec.ofChange fnExactSizeOfWrong)

/-- 'laws.FnExactDepthOf': WHATEVER THE INPUT: true; the input reads as it did. -/
def fnExactDepthOfSpec : ChangeSpec := { name := "fnExactDepthOf", fn := fun _ => fun
  | [d] => { results := [.lit (.bool true)], args := [d] }
  | _ => none }
def fnExactDepthOfRow : OpenClaim := { program := "yteepgblpoddcfaa", sum := "e976da2f5aa8430fca839e8c249f5b7669bdc865f2d5437b098b66f0ca6f9467", func := "loop.example/g01175/laws.FnExactDepthOf", spec := "fnExactDepthOf", recurses := true, apart := false }
def FnExactDepthOfSaid : Prop := fnExactDepthOfRow.holds Try.pinned (OpenSpec.ofChange fnExactDepthOfSpec)

/-- ITS FALSE NEIGHBOUR: 'it returns false'. Refute it at one input. -/
def fnExactDepthOfWrong : ChangeSpec := { name := "fnExactDepthOf", fn := fun _ => fun
  | [d] => { results := [.lit (.bool false)], args := [d] }
  | _ => none }
def FnExactDepthOfWrongFalsely : Prop := fnExactDepthOfRow.holds Try.pinned (OpenSpec.ofChange fnExactDepthOfWrong)

/- THE SECOND FORM. 'bulk': how many values and letters a reading holds, each counted each time it is reached (what is shared counts as often as it is met; a slice's spare places count too). A statement '..UptoSaid' is the law's where the arguments, and the package variables that the reading takes, are together of bulk at most 1048576: NARROWER than '..Said'. Prove '..Said' where nothing that the law and all that it calls make is longer than what came in: it says more and counts as full. Else prove '..UptoSaid'. A law counts once. -/
mutual
def uptoBulk {H : Type} : DataW H → Nat
  | .lit (.string bytes) => bytes.length + 1
  | .lit _ => 1
  | .nil => 1
  | .ptr d => uptoBulk d + 1
  | .slice elems spare => uptoBulkAll elems + uptoBulkAll spare + 1
  | .agg parts => uptoBulkAll parts + 1
  | .iface _ d => uptoBulk d + 1
  | .map entries => uptoBulkEntries entries + 1
  | .held _ => 1
def uptoBulkAll {H : Type} : List (DataW H) → Nat
  | [] => 0
  | d :: r => uptoBulk d + uptoBulkAll r
def uptoBulkEntries {H : Type} : List (Lit × DataW H) → Nat
  | [] => 0
  | x :: r => uptoBulkEntry x + uptoBulkEntries r
def uptoBulkEntry {H : Type} : Lit × DataW H → Nat
  | (.string bytes, d) => bytes.length + uptoBulk d + 1
  | (_, d) => uptoBulk d + 1
 end
def uptoSmall : (H : Type) → List (DataW H) → Bool := fun _ ds => decide (uptoBulkAll ds ≤ 1048576)
def OpenSpec.upto (s : _root_.Go.ChangeSpec) : _root_.Go.OpenSpec := { _root_.Go.OpenSpec.ofChange s with cond := some uptoSmall }

/-- 'laws.FnExactConstants', WHERE WHAT IT READS IS OF BULK AT MOST 1048576: true; the input reads as it did. -/
def fnExactConstantsUptoRow : OpenClaim := { program := "yteepgblpoddcfaa", sum := "e976da2f5aa8430fca839e8c249f5b7669bdc865f2d5437b098b66f0ca6f9467", func := "loop.example/g01175/laws.FnExactConstants", spec := "fnExactConstants", apart := false, narrowed := true }
def FnExactConstantsUptoSaid : Prop := fnExactConstantsUptoRow.holds Try.pinned (OpenSpec.upto fnExactConstantsSpec)

/-- 'laws.FnExactIsLabel', WHERE WHAT IT READS IS OF BULK AT MOST 1048576: true; the input reads as it did. -/
def fnExactIsLabelUptoRow : OpenClaim := { program := "yteepgblpoddcfaa", sum := "e976da2f5aa8430fca839e8c249f5b7669bdc865f2d5437b098b66f0ca6f9467", func := "loop.example/g01175/laws.FnExactIsLabel", spec := "fnExactIsLabel", apart := false, narrowed := true }
def FnExactIsLabelUptoSaid : Prop := fnExactIsLabelUptoRow.holds Try.pinned (OpenSpec.upto fnExactIsLabelSpec)

/-- 'laws.FnExactObjectOf', WHERE WHAT IT READS IS OF BULK AT MOST 1048576: true; the input reads as it did. -/
def fnExactObjectOfUptoRow : OpenClaim := { program := "yteepgblpoddcfaa", sum := "e976da2f5aa8430fca839e8c249f5b7669bdc865f2d5437b098b66f0ca6f9467", func := "loop.example/g01175/laws.FnExactObjectOf", spec := "fnExactObjectOf", apart := false, narrowed := true }
def FnExactObjectOfUptoSaid : Prop := fnExactObjectOfUptoRow.holds Try.pinned (OpenSpec.upto fnExactObjectOfSpec)

/-- 'laws.FnExactSubjectOf', WHERE WHAT IT READS IS OF BULK AT MOST 1048576: true; the input reads as it did. -/
def fnExactSubjectOfUptoRow : OpenClaim := { program := "yteepgblpoddcfaa", sum := "e976da2f5aa8430fca839e8c249f5b7669bdc865f2d5437b098b66f0ca6f9467", func := "loop.example/g01175/laws.FnExactSubjectOf", spec := "fnExactSubjectOf", apart := false, narrowed := true }
def FnExactSubjectOfUptoSaid : Prop := fnExactSubjectOfUptoRow.holds Try.pinned (OpenSpec.upto fnExactSubjectOfSpec)

/-- 'laws.FnExactFreshName', WHERE WHAT IT READS IS OF BULK AT MOST 1048576: true; the input reads as it did. -/
def fnExactFreshNameUptoRow : OpenClaim := { program := "yteepgblpoddcfaa", sum := "e976da2f5aa8430fca839e8c249f5b7669bdc865f2d5437b098b66f0ca6f9467", func := "loop.example/g01175/laws.FnExactFreshName", spec := "fnExactFreshName", apart := false, narrowed := true }
def FnExactFreshNameUptoSaid : Prop := fnExactFreshNameUptoRow.holds Try.pinned (OpenSpec.upto fnExactFreshNameSpec)

/-- 'laws.FnExactCellAt', WHERE WHAT IT READS IS OF BULK AT MOST 1048576: true; the input reads as it did. -/
def fnExactCellAtUptoRow : OpenClaim := { program := "yteepgblpoddcfaa", sum := "e976da2f5aa8430fca839e8c249f5b7669bdc865f2d5437b098b66f0ca6f9467", func := "loop.example/g01175/laws.FnExactCellAt", spec := "fnExactCellAt", recurses := true, apart := false, narrowed := true }
def FnExactCellAtUptoSaid : Prop := fnExactCellAtUptoRow.holds Try.pinned (OpenSpec.upto fnExactCellAtSpec)

/-- 'laws.FnExactIsFormula', WHERE WHAT IT READS IS OF BULK AT MOST 1048576: true; the input reads as it did. -/
def fnExactIsFormulaUptoRow : OpenClaim := { program := "yteepgblpoddcfaa", sum := "e976da2f5aa8430fca839e8c249f5b7669bdc865f2d5437b098b66f0ca6f9467", func := "loop.example/g01175/laws.FnExactIsFormula", spec := "fnExactIsFormula", inPlace := ["internal/bytealg.IndexByteString"], recurses := true, apart := false, narrowed := true }
def FnExactIsFormulaUptoSaid : Prop := fnExactIsFormulaUptoRow.holds Try.pinned (OpenSpec.upto fnExactIsFormulaSpec)

/-- 'laws.FnExactDepthOfFormula', WHERE WHAT IT READS IS OF BULK AT MOST 1048576: true; the input reads as it did. -/
def fnExactDepthOfFormulaUptoRow : OpenClaim := { program := "yteepgblpoddcfaa", sum := "e976da2f5aa8430fca839e8c249f5b7669bdc865f2d5437b098b66f0ca6f9467", func := "loop.example/g01175/laws.FnExactDepthOfFormula", spec := "fnExactDepthOfFormula", inPlace := ["internal/bytealg.IndexByteString"], recurses := true, apart := false, narrowed := true }
def FnExactDepthOfFormulaUptoSaid : Prop := fnExactDepthOfFormulaUptoRow.holds Try.pinned (OpenSpec.upto fnExactDepthOfFormulaSpec)

/-- 'laws.FnExactIsProcess', WHERE WHAT IT READS IS OF BULK AT MOST 1048576: true; the input reads as it did. -/
def fnExactIsProcessUptoRow : OpenClaim := { program := "yteepgblpoddcfaa", sum := "e976da2f5aa8430fca839e8c249f5b7669bdc865f2d5437b098b66f0ca6f9467", func := "loop.example/g01175/laws.FnExactIsProcess", spec := "fnExactIsProcess", recurses := true, apart := false, narrowed := true }
def FnExactIsProcessUptoSaid : Prop := fnExactIsProcessUptoRow.holds Try.pinned (OpenSpec.upto fnExactIsProcessSpec)

/-- 'laws.FnExactKindOf', WHERE WHAT IT READS IS OF BULK AT MOST 1048576: true; the input reads as it did. -/
def fnExactKindOfUptoRow : OpenClaim := { program := "yteepgblpoddcfaa", sum := "e976da2f5aa8430fca839e8c249f5b7669bdc865f2d5437b098b66f0ca6f9467", func := "loop.example/g01175/laws.FnExactKindOf", spec := "fnExactKindOf", recurses := true, apart := false, narrowed := true }
def FnExactKindOfUptoSaid : Prop := fnExactKindOfUptoRow.holds Try.pinned (OpenSpec.upto fnExactKindOfSpec)

/-- 'laws.FnExactSizeOf', WHERE WHAT IT READS IS OF BULK AT MOST 1048576: true; the input reads as it did. -/
def fnExactSizeOfUptoRow : OpenClaim := { program := "yteepgblpoddcfaa", sum := "e976da2f5aa8430fca839e8c249f5b7669bdc865f2d5437b098b66f0ca6f9467", func := "loop.example/g01175/laws.FnExactSizeOf", spec := "fnExactSizeOf", recurses := true, apart := false, narrowed := true }
def FnExactSizeOfUptoSaid : Prop := fnExactSizeOfUptoRow.holds Try.pinned (OpenSpec.upto fnExactSizeOfSpec)

/-- 'laws.FnExactDepthOf', WHERE WHAT IT READS IS OF BULK AT MOST 1048576: true; the input reads as it did. -/
def fnExactDepthOfUptoRow : OpenClaim := { program := "yteepgblpoddcfaa", sum := "e976da2f5aa8430fca839e8c249f5b7669bdc865f2d5437b098b66f0ca6f9467", func := "loop.example/g01175/laws.FnExactDepthOf", spec := "fnExactDepthOf", recurses := true, apart := false, narrowed := true }
def FnExactDepthOfUptoSaid : Prop := fnExactDepthOfUptoRow.holds Try.pinned (OpenSpec.upto fnExactDepthOfSpec)

end Rows
end Go.Proofs.Yteepgblpoddcfaa
