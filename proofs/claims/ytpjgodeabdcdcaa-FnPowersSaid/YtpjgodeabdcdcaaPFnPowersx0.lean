-- PRINTED BY print.sh 35421559b90ae4d0a3588c463048766b98c2df88dd9212a6774a882060cdf62d: not written by this session
import Derived.Test.YtpjgodeabdcdcaaProg
import Derived.Below
import Derived.Deep.Draws
import Derived.Deep.AppendLies
import Derived.Maps.AppendAt
import Derived.OwnWalk
import Derived.Laws.BytesArg
import Derived.Laws.MakeOwn
import Derived.Laws.OwnMore
import Derived.Deep.OwnRows
import Derived.Tactics
import Derived.Lib.ConvBytes
import Derived.Laws.Slices
import Derived.WalkKit
import Derived.KernelRfl
import Derived.RowKit3
import Derived.Deep.LoopGhost
import Derived.Deep.QuietTactic
import Derived.BigQuiet
import Derived.WideLaws
import Derived.Deep.DeepCutAuto
import Derived.Deep.CutBlock
import Derived.Deep.RegionHeld3
import Derived.Laws.Rows
import Derived.Lib.AppendStr
import Derived.ArgAppend
import Derived.Laws.IdiomCopy
import Derived.OrdersHeld
import Derived.Laws.BitsLemmas
import Derived.RowKit
import Derived.Test.YtpjgodeabdcdcaaWWords
import Derived.Test.YtpjgodeabdcdcaaWLast
import Derived.Test.YtpjgodeabdcdcaaWTab
import Derived.Test.YtpjgodeabdcdcaaWFour
import Derived.Test.YtpjgodeabdcdcaaWQPut
import Derived.Test.YtpjgodeabdcdcaaWApart
import Derived.Test.YtpjgodeabdcdcaaWArr
import Derived.Test.YtpjgodeabdcdcaaWZeros
import Derived.Test.YtpjgodeabdcdcaaWFoot
import Derived.Test.YtpjgodeabdcdcaaWKept
import Derived.Test.YtpjgodeabdcdcaaWShare
import Derived.Test.YtpjgodeabdcdcaaWN
import Derived.Test.YtpjgodeabdcdcaaWFootNe
import Derived.Test.YtpjgodeabdcdcaaWAt
import Derived.Test.YtpjgodeabdcdcaaWEqStruct
import Derived.Test.YtpjgodeabdcdcaaWRepsOne
import Derived.Test.YtpjgodeabdcdcaaWInv
import Derived.Test.YtpjgodeabdcdcaaWInvWords
import Derived.Test.YtpjgodeabdcdcaaWGuard
import Derived.Test.YtpjgodeabdcdcaaWNEv
import Derived.Test.YtpjgodeabdcdcaaWMore
namespace Go.Proofs.Ytpjgodeabdcdcaa.PFnPowers
open Go.RowKit Go.Proofs.YtpjgodeabdcdcaaW.PrintWords Go.Proofs.YtpjgodeabdcdcaaW.PrintLast Go.Proofs.YtpjgodeabdcdcaaW.PrintMore
attribute [local go_sem] max2_int min2_int max_two min_two max_three min_three max_four min_four   -- for this text's walks alone
set_option linter.unusedVariables false
set_option linter.unusedSimpArgs false



def errW : Option Int → Value
  | none => .nilIface
  | some c => .iface 0 (.int .i64 c)
theorem errW_none : errW none = .nilIface := rfl
theorem errW_some (c : Int) : errW (some c) = .iface 0 (.int .i64 c) := rfl

-- the values' own types

end Go.Proofs.Ytpjgodeabdcdcaa.PFnPowers
