-- PRINTED BY print.sh 35421559b90ae4d0a3588c463048766b98c2df88dd9212a6774a882060cdf62d: not written by this session
import Derived.Test.YtgmioegepmoopaaProg
import Derived.Below
import Derived.Deep.Draws
import Derived.Deep.AppendLies
import Derived.Maps.AppendAt
import Derived.OwnWalk
import Derived.Laws.BytesArg
import Derived.Laws.MakeOwn
import Derived.Laws.OwnMore
import Derived.Deep.OwnRows
import Derived.Tactics
import Derived.Lib.ConvBytes
import Derived.Laws.Slices
import Derived.WalkKit
import Derived.KernelRfl
import Derived.RowKit3
import Derived.Deep.LoopGhost
import Derived.Deep.QuietTactic
import Derived.BigQuiet
import Derived.WideLaws
import Derived.Deep.DeepCutAuto
import Derived.Deep.CutBlock
import Derived.Deep.RegionHeld3
import Derived.Laws.Rows
import Derived.Lib.AppendStr
import Derived.ArgAppend
import Derived.Laws.IdiomCopy
import Derived.OrdersHeld
import Derived.Laws.BitsLemmas
import Derived.RowKit
import Derived.Test.YtgmioegepmoopaaWWords
import Derived.Test.YtgmioegepmoopaaWLast
import Derived.Test.YtgmioegepmoopaaWTab
import Derived.Test.YtgmioegepmoopaaWFour
import Derived.Test.YtgmioegepmoopaaWQPut
import Derived.Test.YtgmioegepmoopaaWApart
import Derived.Test.YtgmioegepmoopaaWArr
import Derived.Test.YtgmioegepmoopaaWZeros
import Derived.Test.YtgmioegepmoopaaWFoot
import Derived.Test.YtgmioegepmoopaaWKept
import Derived.Test.YtgmioegepmoopaaWShare
import Derived.Test.YtgmioegepmoopaaWN
import Derived.Test.YtgmioegepmoopaaWFootNe
import Derived.Test.YtgmioegepmoopaaWAt
import Derived.Test.YtgmioegepmoopaaWEqStruct
import Derived.Test.YtgmioegepmoopaaWRepsOne
import Derived.Test.YtgmioegepmoopaaWInv
import Derived.Test.YtgmioegepmoopaaWInvWords
import Derived.Test.YtgmioegepmoopaaWGuard
import Derived.Test.YtgmioegepmoopaaWNEv
import Derived.Test.YtgmioegepmoopaaWMore
namespace Go.Proofs.Ytgmioegepmoopaa.PFnExactMirrorAt
open Go.RowKit Go.Proofs.YtgmioegepmoopaaW.PrintWords Go.Proofs.YtgmioegepmoopaaW.PrintLast Go.Proofs.YtgmioegepmoopaaW.PrintMore
attribute [local go_sem] max2_int min2_int max_two min_two max_three min_three max_four min_four   -- for this text's walks alone
set_option linter.unusedVariables false
set_option linter.unusedSimpArgs false



def errW : Option Int → Value
  | none => .nilIface
  | some c => .iface 0 (.int .i64 c)
theorem errW_none : errW none = .nilIface := rfl
theorem errW_some (c : Int) : errW (some c) = .iface 0 (.int .i64 c) := rfl

-- the values' own types

end Go.Proofs.Ytgmioegepmoopaa.PFnExactMirrorAt
