/- The reference's one name, and its text if it is a process. -/
import Derived.Test.YtfcadppidgkoaaaRefsFnExactRenameFree
import Derived.Test.YtfcadppidgkoaaaWithF2
namespace Go.Proofs.Ytfcadppidgkoaaa.PFnExactRenameFree
open Go.RowKit Go.Proofs.YtfcadppidgkoaaaW.PrintWords Go.Proofs.YtfcadppidgkoaaaW.PrintLast Go.Proofs.YtfcadppidgkoaaaW.PrintMore
set_option linter.unusedVariables false
set_option linter.unusedSimpArgs false

theorem if_f (l : List UInt8) (k : Nat) (hk : 3000 ≤ k) : spec_tmIf.f k (B l) = some (if readOk l = true then (B l, true) else (B [], false)) := by
  rw [spec_tmIf.f, good_f l k hk, Option.bind_some]
  split <;> rfl

end Go.Proofs.Ytfcadppidgkoaaa.PFnExactRenameFree
