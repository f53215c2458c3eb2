/-
  No cell of these rows narrows 'for every input' (looked for: loops, veiled, ifaces, maps, wideKeys, modest, calm, conditions, laid).
  DERIVED. THE GIVEN ROWS OF THIS SEAT. 12 by the template 'for every input the law returns true; each argument reads behind the call as it read before'; 0 by the template 'total and deterministic' (their statements: YtjinjanjjecmiaaTotals.lean).
  GIVEN WITH THE SEED: the statements are not yours to turn. If you find one false, say at which input.
  Laid BY PROGRAM, IN A SANDBOX (cutbox-rows.mjs): the forced cells as the released guide's own fill.sh prints them over the translation b1c88e23a27bb161… (all of the seat's roots in one cut). By AI agents, Wed Nov 11 2026. No macro, syntax, notation, axiom, sorry.
-/
import Derived.Test.YtjinjanjjecmiaaChecked
import GoSem.Claim
import GoSem.ClaimJoined
import GoSem.ClaimMapViews
import Derived.JoinedTies
import Derived.KernelRfl
namespace Go.Proofs.Ytjinjanjjecmiaa
/- THE CELL 'sum', in the pinned program and in every row, IS THE sha256 OF THE DUMP (.gsa) THAT YtjinjanjjecmiaaProg.lean LOADS. Nothing in Lean hashes anything: it is a label: what it is worth is what the hold of that sum in a sandbox is worth. -/
noncomputable def Try.pinned : Pinned := { name := "ytjinjanjjecmiaa", sum := "b1c88e23a27bb161474bb37decba533993c4fa4a03cf266c9bc9bb44b5b3f6d0", checked := Try.checked }
namespace Rows
def none {H : Type} : Left H := { results := [], args := [] }

/-- 'laws.FnExactReadCell': WHATEVER THE INPUT: true; the input reads as it did. -/
def fnExactReadCellSpec : ChangeSpec := { name := "fnExactReadCell", fn := fun _ => fun
  | [d1, d2, d3] => { results := [.lit (.bool true)], args := [d1, d2, d3] }
  | _ => none }
def fnExactReadCellRow : OpenClaim := { program := "ytjinjanjjecmiaa", sum := "b1c88e23a27bb161474bb37decba533993c4fa4a03cf266c9bc9bb44b5b3f6d0", func := "loop.example/g01175/laws.FnExactReadCell", spec := "fnExactReadCell", recurses := true, apart := false }
def FnExactReadCellSaid : Prop := fnExactReadCellRow.holds Try.pinned (OpenSpec.ofChange fnExactReadCellSpec)

/-- ITS FALSE NEIGHBOUR: 'it returns false'. Refute it at one input. -/
def fnExactReadCellWrong : ChangeSpec := { name := "fnExactReadCell", fn := fun _ => fun
  | [d1, d2, d3] => { results := [.lit (.bool false)], args := [d1, d2, d3] }
  | _ => none }
def FnExactReadCellWrongFalsely : Prop := fnExactReadCellRow.holds Try.pinned (OpenSpec.ofChange fnExactReadCellWrong)

/-- 'laws.FnExactIsFinite': WHATEVER THE INPUT: true; the input reads as it did. -/
def fnExactIsFiniteSpec : ChangeSpec := { name := "fnExactIsFinite", fn := fun _ => fun
  | [d] => { results := [.lit (.bool true)], args := [d] }
  | _ => none }
def fnExactIsFiniteRow : OpenClaim := { program := "ytjinjanjjecmiaa", sum := "b1c88e23a27bb161474bb37decba533993c4fa4a03cf266c9bc9bb44b5b3f6d0", func := "loop.example/g01175/laws.FnExactIsFinite", spec := "fnExactIsFinite", unfollowed := true, recurses := true, apart := false }
def FnExactIsFiniteSaid : Prop := fnExactIsFiniteRow.holds Try.pinned (OpenSpec.ofChange fnExactIsFiniteSpec)

/-- ITS FALSE NEIGHBOUR: 'it returns false'. Refute it at one input. -/
def fnExactIsFiniteWrong : ChangeSpec := { name := "fnExactIsFinite", fn := fun _ => fun
  | [d] => { results := [.lit (.bool false)], args := [d] }
  | _ => none }
def FnExactIsFiniteWrongFalsely : Prop := fnExactIsFiniteRow.holds Try.pinned (OpenSpec.ofChange fnExactIsFiniteWrong)

/-- 'laws.FnExactSendsLast': WHATEVER THE INPUT: true; the input reads as it did. -/
def fnExactSendsLastSpec : ChangeSpec := { name := "fnExactSendsLast", fn := fun _ => fun
  | [d] => { results := [.lit (.bool true)], args := [d] }
  | _ => none }
def fnExactSendsLastRow : OpenClaim := { program := "ytjinjanjjecmiaa", sum := "b1c88e23a27bb161474bb37decba533993c4fa4a03cf266c9bc9bb44b5b3f6d0", func := "loop.example/g01175/laws.FnExactSendsLast", spec := "fnExactSendsLast", unfollowed := true, recurses := true, apart := false }
def FnExactSendsLastSaid : Prop := fnExactSendsLastRow.holds Try.pinned (OpenSpec.ofChange fnExactSendsLastSpec)

/-- ITS FALSE NEIGHBOUR: 'it returns false'. Refute it at one input. -/
def fnExactSendsLastWrong : ChangeSpec := { name := "fnExactSendsLast", fn := fun _ => fun
  | [d] => { results := [.lit (.bool false)], args := [d] }
  | _ => none }
def FnExactSendsLastWrongFalsely : Prop := fnExactSendsLastRow.holds Try.pinned (OpenSpec.ofChange fnExactSendsLastWrong)

/-- 'laws.FnExactIsGuarded': WHATEVER THE INPUT: true; the input reads as it did. -/
def fnExactIsGuardedSpec : ChangeSpec := { name := "fnExactIsGuarded", fn := fun _ => fun
  | [d] => { results := [.lit (.bool true)], args := [d] }
  | _ => none }
def fnExactIsGuardedRow : OpenClaim := { program := "ytjinjanjjecmiaa", sum := "b1c88e23a27bb161474bb37decba533993c4fa4a03cf266c9bc9bb44b5b3f6d0", func := "loop.example/g01175/laws.FnExactIsGuarded", spec := "fnExactIsGuarded", inPlace := ["internal/bytealg.IndexByteString"], unfollowed := true, recurses := true, apart := false }
def FnExactIsGuardedSaid : Prop := fnExactIsGuardedRow.holds Try.pinned (OpenSpec.ofChange fnExactIsGuardedSpec)

/-- ITS FALSE NEIGHBOUR: 'it returns false'. Refute it at one input. -/
def fnExactIsGuardedWrong : ChangeSpec := { name := "fnExactIsGuarded", fn := fun _ => fun
  | [d] => { results := [.lit (.bool false)], args := [d] }
  | _ => none }
def FnExactIsGuardedWrongFalsely : Prop := fnExactIsGuardedRow.holds Try.pinned (OpenSpec.ofChange fnExactIsGuardedWrong)

/-- 'laws.FnExactSubtermAt': WHATEVER THE INPUT: true; the input reads as it did. -/
def fnExactSubtermAtSpec : ChangeSpec := { name := "fnExactSubtermAt", fn := fun _ => fun
  | [d1, d2] => { results := [.lit (.bool true)], args := [d1, d2] }
  | _ => none }
def fnExactSubtermAtRow : OpenClaim := { program := "ytjinjanjjecmiaa", sum := "b1c88e23a27bb161474bb37decba533993c4fa4a03cf266c9bc9bb44b5b3f6d0", func := "loop.example/g01175/laws.FnExactSubtermAt", spec := "fnExactSubtermAt", recurses := true, apart := false }
def FnExactSubtermAtSaid : Prop := fnExactSubtermAtRow.holds Try.pinned (OpenSpec.ofChange fnExactSubtermAtSpec)

/-- ITS FALSE NEIGHBOUR: 'it returns false'. Refute it at one input. -/
def fnExactSubtermAtWrong : ChangeSpec := { name := "fnExactSubtermAt", fn := fun _ => fun
  | [d1, d2] => { results := [.lit (.bool false)], args := [d1, d2] }
  | _ => none }
def FnExactSubtermAtWrongFalsely : Prop := fnExactSubtermAtRow.holds Try.pinned (OpenSpec.ofChange fnExactSubtermAtWrong)

/-- 'laws.FnExactIsSimple': WHATEVER THE INPUT: true; the input reads as it did. -/
def fnExactIsSimpleSpec : ChangeSpec := { name := "fnExactIsSimple", fn := fun _ => fun
  | [d] => { results := [.lit (.bool true)], args := [d] }
  | _ => none }
def fnExactIsSimpleRow : OpenClaim := { program := "ytjinjanjjecmiaa", sum := "b1c88e23a27bb161474bb37decba533993c4fa4a03cf266c9bc9bb44b5b3f6d0", func := "loop.example/g01175/laws.FnExactIsSimple", spec := "fnExactIsSimple", inPlace := ["internal/bytealg.IndexByteString"], unfollowed := true, recurses := true, apart := false }
def FnExactIsSimpleSaid : Prop := fnExactIsSimpleRow.holds Try.pinned (OpenSpec.ofChange fnExactIsSimpleSpec)

/-- ITS FALSE NEIGHBOUR: 'it returns false'. Refute it at one input. -/
def fnExactIsSimpleWrong : ChangeSpec := { name := "fnExactIsSimple", fn := fun _ => fun
  | [d] => { results := [.lit (.bool false)], args := [d] }
  | _ => none }
def FnExactIsSimpleWrongFalsely : Prop := fnExactIsSimpleRow.holds Try.pinned (OpenSpec.ofChange fnExactIsSimpleWrong)

/-- 'laws.FnExactPartsOf': WHATEVER THE INPUT: true; the input reads as it did. -/
def fnExactPartsOfSpec : ChangeSpec := { name := "fnExactPartsOf", fn := fun _ => fun
  | [d] => { results := [.lit (.bool true)], args := [d] }
  | _ => none }
def fnExactPartsOfRow : OpenClaim := { program := "ytjinjanjjecmiaa", sum := "b1c88e23a27bb161474bb37decba533993c4fa4a03cf266c9bc9bb44b5b3f6d0", func := "loop.example/g01175/laws.FnExactPartsOf", spec := "fnExactPartsOf", recurses := true, apart := false }
def FnExactPartsOfSaid : Prop := fnExactPartsOfRow.holds Try.pinned (OpenSpec.ofChange fnExactPartsOfSpec)

/-- ITS FALSE NEIGHBOUR: 'it returns false'. Refute it at one input. -/
def fnExactPartsOfWrong : ChangeSpec := { name := "fnExactPartsOf", fn := fun _ => fun
  | [d] => { results := [.lit (.bool false)], args := [d] }
  | _ => none }
def FnExactPartsOfWrongFalsely : Prop := fnExactPartsOfRow.holds Try.pinned (OpenSpec.ofChange fnExactPartsOfWrong)

/-- 'laws.FnExactBoundNames': WHATEVER THE INPUT: true; the input reads as it did. -/
def fnExactBoundNamesSpec : ChangeSpec := { name := "fnExactBoundNames", fn := fun _ => fun
  | [d] => { results := [.lit (.bool true)], args := [d] }
  | _ => none }
def fnExactBoundNamesRow : OpenClaim := { program := "ytjinjanjjecmiaa", sum := "b1c88e23a27bb161474bb37decba533993c4fa4a03cf266c9bc9bb44b5b3f6d0", func := "loop.example/g01175/laws.FnExactBoundNames", spec := "fnExactBoundNames", recurses := true, apart := false }
def FnExactBoundNamesSaid : Prop := fnExactBoundNamesRow.holds Try.pinned (OpenSpec.ofChange fnExactBoundNamesSpec)

/-- ITS FALSE NEIGHBOUR: 'it returns false'. Refute it at one input. -/
def fnExactBoundNamesWrong : ChangeSpec := { name := "fnExactBoundNames", fn := fun _ => fun
  | [d] => { results := [.lit (.bool false)], args := [d] }
  | _ => none }
def FnExactBoundNamesWrongFalsely : Prop := fnExactBoundNamesRow.holds Try.pinned (OpenSpec.ofChange fnExactBoundNamesWrong)

/-- 'laws.FnExactFreeNames': WHATEVER THE INPUT: true; the input reads as it did. -/
def fnExactFreeNamesSpec : ChangeSpec := { name := "fnExactFreeNames", fn := fun _ => fun
  | [d] => { results := [.lit (.bool true)], args := [d] }
  | _ => none }
def fnExactFreeNamesRow : OpenClaim := { program := "ytjinjanjjecmiaa", sum := "b1c88e23a27bb161474bb37decba533993c4fa4a03cf266c9bc9bb44b5b3f6d0", func := "loop.example/g01175/laws.FnExactFreeNames", spec := "fnExactFreeNames", recurses := true, apart := false }
def FnExactFreeNamesSaid : Prop := fnExactFreeNamesRow.holds Try.pinned (OpenSpec.ofChange fnExactFreeNamesSpec)

/-- ITS FALSE NEIGHBOUR: 'it returns false'. Refute it at one input. -/
def fnExactFreeNamesWrong : ChangeSpec := { name := "fnExactFreeNames", fn := fun _ => fun
  | [d] => { results := [.lit (.bool false)], args := [d] }
  | _ => none }
def FnExactFreeNamesWrongFalsely : Prop := fnExactFreeNamesRow.holds Try.pinned (OpenSpec.ofChange fnExactFreeNamesWrong)

/-- 'laws.FnExactAreAlpha': WHATEVER THE INPUT: true; the input reads as it did. -/
def fnExactAreAlphaSpec : ChangeSpec := { name := "fnExactAreAlpha", fn := fun _ => fun
  | [d1, d2] => { results := [.lit (.bool true)], args := [d1, d2] }
  | _ => none }
def fnExactAreAlphaRow : OpenClaim := { program := "ytjinjanjjecmiaa", sum := "b1c88e23a27bb161474bb37decba533993c4fa4a03cf266c9bc9bb44b5b3f6d0", func := "loop.example/g01175/laws.FnExactAreAlpha", spec := "fnExactAreAlpha", unfollowed := true, recurses := true, apart := false }
def FnExactAreAlphaSaid : Prop := fnExactAreAlphaRow.holds Try.pinned (OpenSpec.ofChange fnExactAreAlphaSpec)

/-- ITS FALSE NEIGHBOUR: 'it returns false'. Refute it at one input. -/
def fnExactAreAlphaWrong : ChangeSpec := { name := "fnExactAreAlpha", fn := fun _ => fun
  | [d1, d2] => { results := [.lit (.bool false)], args := [d1, d2] }
  | _ => none }
def FnExactAreAlphaWrongFalsely : Prop := fnExactAreAlphaRow.holds Try.pinned (OpenSpec.ofChange fnExactAreAlphaWrong)

/-- 'laws.FnExactReplaceAt': WHATEVER THE INPUT: true; the input reads as it did. -/
def fnExactReplaceAtSpec : ChangeSpec := { name := "fnExactReplaceAt", fn := fun _ => fun
  | [d1, d2, d3] => { results := [.lit (.bool true)], args := [d1, d2, d3] }
  | _ => none }
def fnExactReplaceAtRow : OpenClaim := { program := "ytjinjanjjecmiaa", sum := "b1c88e23a27bb161474bb37decba533993c4fa4a03cf266c9bc9bb44b5b3f6d0", func := "loop.example/g01175/laws.FnExactReplaceAt", spec := "fnExactReplaceAt", recurses := true, apart := false }
def FnExactReplaceAtSaid : Prop := fnExactReplaceAtRow.holds Try.pinned (OpenSpec.ofChange fnExactReplaceAtSpec)

/-- ITS FALSE NEIGHBOUR: 'it returns false'. Refute it at one input. -/
def fnExactReplaceAtWrong : ChangeSpec := { name := "fnExactReplaceAt", fn := fun _ => fun
  | [d1, d2, d3] => { results := [.lit (.bool false)], args := [d1, d2, d3] }
  | _ => none }
def FnExactReplaceAtWrongFalsely : Prop := fnExactReplaceAtRow.holds Try.pinned (OpenSpec.ofChange fnExactReplaceAtWrong)

/-- 'laws.FnExactUnfoldAt': WHATEVER THE INPUT: true; the input reads as it did. -/
def fnExactUnfoldAtSpec : ChangeSpec := { name := "fnExactUnfoldAt", fn := fun _ => fun
  | [d1, d2] => { results := [.lit (.bool true)], args := [d1, d2] }
  | _ => none }
def fnExactUnfoldAtRow : OpenClaim := { program := "ytjinjanjjecmiaa", sum := "b1c88e23a27bb161474bb37decba533993c4fa4a03cf266c9bc9bb44b5b3f6d0", func := "loop.example/g01175/laws.FnExactUnfoldAt", spec := "fnExactUnfoldAt", recurses := true, apart := false }
def FnExactUnfoldAtSaid : Prop := fnExactUnfoldAtRow.holds Try.pinned (OpenSpec.ofChange fnExactUnfoldAtSpec)

/-- ITS FALSE NEIGHBOUR: 'it returns false'. Refute it at one input. -/
def fnExactUnfoldAtWrong : ChangeSpec := { name := "fnExactUnfoldAt", fn := fun _ => fun
  | [d1, d2] => { results := [.lit (.bool false)], args := [d1, d2] }
  | _ => none }
def FnExactUnfoldAtWrongFalsely : Prop := fnExactUnfoldAtRow.holds Try.pinned (OpenSpec.ofChange fnExactUnfoldAtWrong)

/- THE SECOND FORM. 'bulk': how many values and letters a reading holds, each counted each time it is reached (what is shared counts as often as it is met; a slice's spare places count too). A statement '..UptoSaid' is the law's where the arguments, and the package variables that the reading takes, are together of bulk at most 1048576: NARROWER than '..Said'. Prove '..Said' where nothing that the law and all that it calls make is longer than what came in: it says more and counts as full. Else prove '..UptoSaid'. A law counts once. -/
mutual
def uptoBulk {H : Type} : DataW H → Nat
  | .lit (.string bytes) => bytes.length + 1
  | .lit _ => 1
  | .nil => 1
  | .ptr d => uptoBulk d + 1
  | .slice elems spare => uptoBulkAll elems + uptoBulkAll spare + 1
  | .agg parts => uptoBulkAll parts + 1
  | .iface _ d => uptoBulk d + 1
  | .map entries => uptoBulkEntries entries + 1
  | .held _ => 1
def uptoBulkAll {H : Type} : List (DataW H) → Nat
  | [] => 0
  | d :: r => uptoBulk d + uptoBulkAll r
def uptoBulkEntries {H : Type} : List (Lit × DataW H) → Nat
  | [] => 0
  | x :: r => uptoBulkEntry x + uptoBulkEntries r
def uptoBulkEntry {H : Type} : Lit × DataW H → Nat
  | (.string bytes, d) => bytes.length + uptoBulk d + 1
  | (_, d) => uptoBulk d + 1
 end
def uptoSmall : (H : Type) → List (DataW H) → Bool := fun _ ds => decide (uptoBulkAll ds ≤ 1048576)
def OpenSpec.upto (s : _root_.Go.ChangeSpec) : _root_.Go.OpenSpec := { _root_.Go.OpenSpec.ofChange s with cond := some uptoSmall }

/-- 'laws.FnExactReadCell', WHERE WHAT IT READS IS OF BULK AT MOST 1048576: true; the input reads as it did. -/
def fnExactReadCellUptoRow : OpenClaim := { program := "ytjinjanjjecmiaa", sum := "b1c88e23a27bb161474bb37decba533993c4fa4a03cf266c9bc9bb44b5b3f6d0", func := "loop.example/g01175/laws.FnExactReadCell", spec := "fnExactReadCell", recurses := true, apart := false, narrowed := true }
def FnExactReadCellUptoSaid : Prop := fnExactReadCellUptoRow.holds Try.pinned (OpenSpec.upto fnExactReadCellSpec)

/-- 'laws.FnExactIsFinite', WHERE WHAT IT READS IS OF BULK AT MOST 1048576: true; the input reads as it did. -/
def fnExactIsFiniteUptoRow : OpenClaim := { program := "ytjinjanjjecmiaa", sum := "b1c88e23a27bb161474bb37decba533993c4fa4a03cf266c9bc9bb44b5b3f6d0", func := "loop.example/g01175/laws.FnExactIsFinite", spec := "fnExactIsFinite", unfollowed := true, recurses := true, apart := false, narrowed := true }
def FnExactIsFiniteUptoSaid : Prop := fnExactIsFiniteUptoRow.holds Try.pinned (OpenSpec.upto fnExactIsFiniteSpec)

/-- 'laws.FnExactSendsLast', WHERE WHAT IT READS IS OF BULK AT MOST 1048576: true; the input reads as it did. -/
def fnExactSendsLastUptoRow : OpenClaim := { program := "ytjinjanjjecmiaa", sum := "b1c88e23a27bb161474bb37decba533993c4fa4a03cf266c9bc9bb44b5b3f6d0", func := "loop.example/g01175/laws.FnExactSendsLast", spec := "fnExactSendsLast", unfollowed := true, recurses := true, apart := false, narrowed := true }
def FnExactSendsLastUptoSaid : Prop := fnExactSendsLastUptoRow.holds Try.pinned (OpenSpec.upto fnExactSendsLastSpec)

/-- 'laws.FnExactIsGuarded', WHERE WHAT IT READS IS OF BULK AT MOST 1048576: true; the input reads as it did. -/
def fnExactIsGuardedUptoRow : OpenClaim := { program := "ytjinjanjjecmiaa", sum := "b1c88e23a27bb161474bb37decba533993c4fa4a03cf266c9bc9bb44b5b3f6d0", func := "loop.example/g01175/laws.FnExactIsGuarded", spec := "fnExactIsGuarded", inPlace := ["internal/bytealg.IndexByteString"], unfollowed := true, recurses := true, apart := false, narrowed := true }
def FnExactIsGuardedUptoSaid : Prop := fnExactIsGuardedUptoRow.holds Try.pinned (OpenSpec.upto fnExactIsGuardedSpec)

/-- 'laws.FnExactSubtermAt', WHERE WHAT IT READS IS OF BULK AT MOST 1048576: true; the input reads as it did. -/
def fnExactSubtermAtUptoRow : OpenClaim := { program := "ytjinjanjjecmiaa", sum := "b1c88e23a27bb161474bb37decba533993c4fa4a03cf266c9bc9bb44b5b3f6d0", func := "loop.example/g01175/laws.FnExactSubtermAt", spec := "fnExactSubtermAt", recurses := true, apart := false, narrowed := true }
def FnExactSubtermAtUptoSaid : Prop := fnExactSubtermAtUptoRow.holds Try.pinned (OpenSpec.upto fnExactSubtermAtSpec)

/-- 'laws.FnExactIsSimple', WHERE WHAT IT READS IS OF BULK AT MOST 1048576: true; the input reads as it did. -/
def fnExactIsSimpleUptoRow : OpenClaim := { program := "ytjinjanjjecmiaa", sum := "b1c88e23a27bb161474bb37decba533993c4fa4a03cf266c9bc9bb44b5b3f6d0", func := "loop.example/g01175/laws.FnExactIsSimple", spec := "fnExactIsSimple", inPlace := ["internal/bytealg.IndexByteString"], unfollowed := true, recurses := true, apart := false, narrowed := true }
def FnExactIsSimpleUptoSaid : Prop := fnExactIsSimpleUptoRow.holds Try.pinned (OpenSpec.upto fnExactIsSimpleSpec)

/-- 'laws.FnExactPartsOf', WHERE WHAT IT READS IS OF BULK AT MOST 1048576: true; the input reads as it did. -/
def fnExactPartsOfUptoRow : OpenClaim := { program := "ytjinjanjjecmiaa", sum := "b1c88e23a27bb161474bb37decba533993c4fa4a03cf266c9bc9bb44b5b3f6d0", func := "loop.example/g01175/laws.FnExactPartsOf", spec := "fnExactPartsOf", recurses := true, apart := false, narrowed := true }
def FnExactPartsOfUptoSaid : Prop := fnExactPartsOfUptoRow.holds Try.pinned (OpenSpec.upto fnExactPartsOfSpec)

/-- 'laws.FnExactBoundNames', WHERE WHAT IT READS IS OF BULK AT MOST 1048576: true; the input reads as it did. -/
def fnExactBoundNamesUptoRow : OpenClaim := { program := "ytjinjanjjecmiaa", sum := "b1c88e23a27bb161474bb37decba533993c4fa4a03cf266c9bc9bb44b5b3f6d0", func := "loop.example/g01175/laws.FnExactBoundNames", spec := "fnExactBoundNames", recurses := true, apart := false, narrowed := true }
def FnExactBoundNamesUptoSaid : Prop := fnExactBoundNamesUptoRow.holds Try.pinned (OpenSpec.upto fnExactBoundNamesSpec)

/-- 'laws.FnExactFreeNames', WHERE WHAT IT READS IS OF BULK AT MOST 1048576: true; the input reads as it did. -/
def fnExactFreeNamesUptoRow : OpenClaim := { program := "ytjinjanjjecmiaa", sum := "b1c88e23a27bb161474bb37decba533993c4fa4a03cf266c9bc9bb44b5b3f6d0", func := "loop.example/g01175/laws.FnExactFreeNames", spec := "fnExactFreeNames", recurses := true, apart := false, narrowed := true }
def FnExactFreeNamesUptoSaid : Prop := fnExactFreeNamesUptoRow.holds Try.pinned (OpenSpec.upto fnExactFreeNamesSpec)

/-- 'laws.FnExactAreAlpha', WHERE WHAT IT READS IS OF BULK AT MOST 1048576: true; the input reads as it did. -/
def fnExactAreAlphaUptoRow : OpenClaim := { program := "ytjinjanjjecmiaa", sum := "b1c88e23a27bb161474bb37decba533993c4fa4a03cf266c9bc9bb44b5b3f6d0", func := "loop.example/g01175/laws.FnExactAreAlpha", spec := "fnExactAreAlpha", unfollowed := true, recurses := true, apart := false, narrowed := true }
def FnExactAreAlphaUptoSaid : Prop := fnExactAreAlphaUptoRow.holds Try.pinned (OpenSpec.upto fnExactAreAlphaSpec)

/-- 'laws.FnExactReplaceAt', WHERE WHAT IT READS IS OF BULK AT MOST 1048576: true; the input reads as it did. -/
def fnExactReplaceAtUptoRow : OpenClaim := { program := "ytjinjanjjecmiaa", sum := "b1c88e23a27bb161474bb37decba533993c4fa4a03cf266c9bc9bb44b5b3f6d0", func := "loop.example/g01175/laws.FnExactReplaceAt", spec := "fnExactReplaceAt", recurses := true, apart := false, narrowed := true }
def FnExactReplaceAtUptoSaid : Prop := fnExactReplaceAtUptoRow.holds Try.pinned (OpenSpec.upto fnExactReplaceAtSpec)

/-- 'laws.FnExactUnfoldAt', WHERE WHAT IT READS IS OF BULK AT MOST 1048576: true; the input reads as it did. -/
def fnExactUnfoldAtUptoRow : OpenClaim := { program := "ytjinjanjjecmiaa", sum := "b1c88e23a27bb161474bb37decba533993c4fa4a03cf266c9bc9bb44b5b3f6d0", func := "loop.example/g01175/laws.FnExactUnfoldAt", spec := "fnExactUnfoldAt", recurses := true, apart := false, narrowed := true }
def FnExactUnfoldAtUptoSaid : Prop := fnExactUnfoldAtUptoRow.holds Try.pinned (OpenSpec.upto fnExactUnfoldAtSpec)

end Rows
end Go.Proofs.Ytjinjanjjecmiaa
