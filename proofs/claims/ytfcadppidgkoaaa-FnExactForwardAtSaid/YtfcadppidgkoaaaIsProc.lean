/- The walk of IsProcess. -/
import Derived.Test.YtfcadppidgkoaaaReads
namespace Go.Proofs.Ytfcadppidgkoaaa
open Go.RowKit Go.Proofs.YtfcadppidgkoaaaW.PrintWords Go.Proofs.YtfcadppidgkoaaaW.PrintMore Go.Proofs.Ytfcadppidgkoaaa.Pterm
set_option linter.unusedVariables false
set_option linter.unusedSimpArgs false

set_option maxHeartbeats 1000000 in
theorem isProcess_calls (l : List UInt8) (w : World) (hl : l.length ≤ 140737488351232) :
    Calls Try.prog 73 #[.string (B l)] w fun e w' => e = .returned (.bool (readOk l)) ∧ Below w.heap.size w w' := by
  go_enter Try.func73, Try.ntmps73
  go_wp2_with fail
  refine (read_calls l w hl).mono ?_
  rintro e w1 ⟨hb, p, rfl, hp⟩
  clear hp
  go_wp2_with fail
  go_ret
  exact ⟨rfl, hb⟩

end Go.Proofs.Ytfcadppidgkoaaa
