-- PRINTED BY print.sh 35421559b90ae4d0a3588c463048766b98c2df88dd9212a6774a882060cdf62d: not written by this session
import Derived.Test.YtonfbnbfbdcmhaaProg
import Derived.Below
import Derived.Deep.Draws
import Derived.Deep.AppendLies
import Derived.Maps.AppendAt
import Derived.OwnWalk
import Derived.Laws.BytesArg
import Derived.Laws.MakeOwn
import Derived.Laws.OwnMore
import Derived.Deep.OwnRows
import Derived.Tactics
import Derived.Lib.ConvBytes
import Derived.Laws.Slices
import Derived.WalkKit
import Derived.KernelRfl
import Derived.RowKit3
import Derived.Deep.LoopGhost
import Derived.Deep.QuietTactic
import Derived.BigQuiet
import Derived.WideLaws
import Derived.Deep.DeepCutAuto
import Derived.Deep.CutBlock
import Derived.Deep.RegionHeld3
import Derived.Laws.Rows
import Derived.Lib.AppendStr
import Derived.ArgAppend
import Derived.Laws.IdiomCopy
import Derived.OrdersHeld
import Derived.Laws.BitsLemmas
import Derived.RowKit
import Derived.Test.YtonfbnbfbdcmhaaWWords
import Derived.Test.YtonfbnbfbdcmhaaWLast
import Derived.Test.YtonfbnbfbdcmhaaWTab
import Derived.Test.YtonfbnbfbdcmhaaWFour
import Derived.Test.YtonfbnbfbdcmhaaWQPut
import Derived.Test.YtonfbnbfbdcmhaaWApart
import Derived.Test.YtonfbnbfbdcmhaaWArr
import Derived.Test.YtonfbnbfbdcmhaaWZeros
import Derived.Test.YtonfbnbfbdcmhaaWFoot
import Derived.Test.YtonfbnbfbdcmhaaWKept
import Derived.Test.YtonfbnbfbdcmhaaWShare
import Derived.Test.YtonfbnbfbdcmhaaWN
import Derived.Test.YtonfbnbfbdcmhaaWFootNe
import Derived.Test.YtonfbnbfbdcmhaaWAt
import Derived.Test.YtonfbnbfbdcmhaaWEqStruct
import Derived.Test.YtonfbnbfbdcmhaaWRepsOne
import Derived.Test.YtonfbnbfbdcmhaaWInv
import Derived.Test.YtonfbnbfbdcmhaaWInvWords
import Derived.Test.YtonfbnbfbdcmhaaWGuard
import Derived.Test.YtonfbnbfbdcmhaaWNEv
import Derived.Test.YtonfbnbfbdcmhaaWMore
namespace Go.Proofs.Ytonfbnbfbdcmhaa.Pterm
open Go.RowKit Go.Proofs.YtonfbnbfbdcmhaaW.PrintWords Go.Proofs.YtonfbnbfbdcmhaaW.PrintLast Go.Proofs.YtonfbnbfbdcmhaaW.PrintMore
attribute [local go_sem] max2_int min2_int max_two min_two max_three min_three max_four min_four   -- for this text's walks alone
set_option linter.unusedVariables false
set_option linter.unusedSimpArgs false



def errW : Option Int → Value
  | none => .nilIface
  | some c => .iface 0 (.int .i64 c)
theorem errW_none : errW none = .nilIface := rfl
theorem errW_some (c : Int) : errW (some c) = .iface 0 (.int .i64 c) := rfl

-- the values' own types

end Go.Proofs.Ytonfbnbfbdcmhaa.Pterm
