-- PRINTED BY print.sh 35421559b90ae4d0a3588c463048766b98c2df88dd9212a6774a882060cdf62d: not written by this session
import Derived.Test.YtonfbnbfbdcmhaaPFnExactWaitingOverx0
import Derived.Test.YtonfbnbfbdcmhaaPFnExactWaitingOverx1
import Derived.Test.YtonfbnbfbdcmhaaPFnExactWaitingOverx2
import Derived.Test.YtonfbnbfbdcmhaaPFnExactWaitingOverx3
import Derived.Test.YtonfbnbfbdcmhaaPFnExactWaitingOverx4
import Derived.Test.YtonfbnbfbdcmhaaPFnExactWaitingOverx5
import Derived.Test.YtonfbnbfbdcmhaaPFnExactWaitingOverx6
import Derived.Test.YtonfbnbfbdcmhaaPFnExactWaitingOverx7
namespace Go.Proofs.Ytonfbnbfbdcmhaa.PFnExactWaitingOver
open Go.RowKit Go.Proofs.YtonfbnbfbdcmhaaW.PrintWords Go.Proofs.YtonfbnbfbdcmhaaW.PrintLast Go.Proofs.YtonfbnbfbdcmhaaW.PrintMore
attribute [local go_sem] max2_int min2_int max_two min_two max_three min_three max_four min_four   -- for this text's walks alone
set_option linter.unusedVariables false
set_option linter.unusedSimpArgs false

end Go.Proofs.Ytonfbnbfbdcmhaa.PFnExactWaitingOver
