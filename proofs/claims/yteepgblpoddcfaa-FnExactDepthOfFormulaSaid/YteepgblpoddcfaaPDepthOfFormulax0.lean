-- PRINTED BY print.sh 35421559b90ae4d0a3588c463048766b98c2df88dd9212a6774a882060cdf62d: not written by this session
import Derived.Test.YteepgblpoddcfaaProg
import Derived.Below
import Derived.Deep.Draws
import Derived.Deep.AppendLies
import Derived.Maps.AppendAt
import Derived.OwnWalk
import Derived.Laws.BytesArg
import Derived.Laws.MakeOwn
import Derived.Laws.OwnMore
import Derived.Deep.OwnRows
import Derived.Tactics
import Derived.Lib.ConvBytes
import Derived.Laws.Slices
import Derived.WalkKit
import Derived.KernelRfl
import Derived.RowKit3
import Derived.Deep.LoopGhost
import Derived.Deep.QuietTactic
import Derived.BigQuiet
import Derived.WideLaws
import Derived.Deep.DeepCutAuto
import Derived.Deep.CutBlock
import Derived.Deep.RegionHeld3
import Derived.Laws.Rows
import Derived.Lib.AppendStr
import Derived.ArgAppend
import Derived.Laws.IdiomCopy
import Derived.OrdersHeld
import Derived.Laws.BitsLemmas
import Derived.RowKit
import Derived.Test.YteepgblpoddcfaaWWords
import Derived.Test.YteepgblpoddcfaaWLast
import Derived.Test.YteepgblpoddcfaaWTab
import Derived.Test.YteepgblpoddcfaaWFour
import Derived.Test.YteepgblpoddcfaaWQPut
import Derived.Test.YteepgblpoddcfaaWApart
import Derived.Test.YteepgblpoddcfaaWArr
import Derived.Test.YteepgblpoddcfaaWZeros
import Derived.Test.YteepgblpoddcfaaWFoot
import Derived.Test.YteepgblpoddcfaaWKept
import Derived.Test.YteepgblpoddcfaaWShare
import Derived.Test.YteepgblpoddcfaaWN
import Derived.Test.YteepgblpoddcfaaWFootNe
import Derived.Test.YteepgblpoddcfaaWAt
import Derived.Test.YteepgblpoddcfaaWEqStruct
import Derived.Test.YteepgblpoddcfaaWRepsOne
import Derived.Test.YteepgblpoddcfaaWInv
import Derived.Test.YteepgblpoddcfaaWInvWords
import Derived.Test.YteepgblpoddcfaaWGuard
import Derived.Test.YteepgblpoddcfaaWNEv
import Derived.Test.YteepgblpoddcfaaWMore
namespace Go.Proofs.Yteepgblpoddcfaa.PDepthOfFormula
open Go.RowKit Go.Proofs.YteepgblpoddcfaaW.PrintWords Go.Proofs.YteepgblpoddcfaaW.PrintLast Go.Proofs.YteepgblpoddcfaaW.PrintMore
attribute [local go_sem] max2_int min2_int max_two min_two max_three min_three max_four min_four   -- for this text's walks alone
set_option linter.unusedVariables false
set_option linter.unusedSimpArgs false



def errW : Option Int → Value
  | none => .nilIface
  | some c => .iface 0 (.int .i64 c)
theorem errW_none : errW none = .nilIface := rfl
theorem errW_some (c : Int) : errW (some c) = .iface 0 (.int .i64 c) := rfl

theorem info9 : (Try.prog.info? 9).map (fun i => (i.zero, i.size, i.bytes)) = some (some (.string ⟨#[]⟩), 1, 16) := by kernel_rfl
-- the values' own types

end Go.Proofs.Yteepgblpoddcfaa.PDepthOfFormula
