/- The program's constants are those of the document: the law answers true. No condition. -/
import Derived.Test.YteepgblpoddcfaaPFnExactConstantsx1
namespace Go.Proofs.Yteepgblpoddcfaa.Pure
open Go.RowKit Go.Proofs.Yteepgblpoddcfaa.PFnExactConstants Go.Proofs.YteepgblpoddcfaaW.PrintWords Go.Proofs.YteepgblpoddcfaaW.PrintLast

theorem FnExactConstants : laws_FnExactConstants.Pure := rfl

end Go.Proofs.Yteepgblpoddcfaa.Pure
