/- The reference's one name, and its text if it is a process. -/
import Derived.Test.YtjinjanjjecmiaaRefsReplaceAt
import Derived.Test.YtjinjanjjecmiaaIsName
namespace Go.Proofs.Ytjinjanjjecmiaa.PReplaceAt
open Go.RowKit Go.Proofs.YtjinjanjjecmiaaW.PrintWords Go.Proofs.YtjinjanjjecmiaaW.PrintLast Go.Proofs.YtjinjanjjecmiaaW.PrintMore
set_option linter.unusedVariables false
set_option linter.unusedSimpArgs false

theorem if_f (l : List UInt8) (k : Nat) (hk : 3000 ≤ k) : spec_tmIf.f k (B l) = some (if readOk l = true then (B l, true) else (B [], false)) := by
  rw [spec_tmIf.f, good_f l k hk, Option.bind_some]
  split <;> rfl

end Go.Proofs.Ytjinjanjjecmiaa.PReplaceAt
