-- PRINTED BY print.sh 35421559b90ae4d0a3588c463048766b98c2df88dd9212a6774a882060cdf62d: not written by this session
import Derived.Test.YtmkbipplkjhpeaaProg
import Derived.Below
import Derived.Deep.Draws
import Derived.Deep.AppendLies
import Derived.Maps.AppendAt
import Derived.OwnWalk
import Derived.Laws.BytesArg
import Derived.Laws.MakeOwn
import Derived.Laws.OwnMore
import Derived.Deep.OwnRows
import Derived.Tactics
import Derived.Lib.ConvBytes
import Derived.Laws.Slices
import Derived.WalkKit
import Derived.KernelRfl
import Derived.RowKit3
import Derived.Deep.LoopGhost
import Derived.Deep.QuietTactic
import Derived.BigQuiet
import Derived.WideLaws
import Derived.Deep.DeepCutAuto
import Derived.Deep.CutBlock
import Derived.Deep.RegionHeld3
import Derived.Laws.Rows
import Derived.Lib.AppendStr
import Derived.ArgAppend
import Derived.Laws.IdiomCopy
import Derived.OrdersHeld
import Derived.Laws.BitsLemmas
import Derived.RowKit
import Derived.Test.YtmkbipplkjhpeaaWWords
import Derived.Test.YtmkbipplkjhpeaaWLast
import Derived.Test.YtmkbipplkjhpeaaWTab
import Derived.Test.YtmkbipplkjhpeaaWFour
import Derived.Test.YtmkbipplkjhpeaaWQPut
import Derived.Test.YtmkbipplkjhpeaaWApart
import Derived.Test.YtmkbipplkjhpeaaWArr
import Derived.Test.YtmkbipplkjhpeaaWZeros
import Derived.Test.YtmkbipplkjhpeaaWFoot
import Derived.Test.YtmkbipplkjhpeaaWKept
import Derived.Test.YtmkbipplkjhpeaaWShare
import Derived.Test.YtmkbipplkjhpeaaWN
import Derived.Test.YtmkbipplkjhpeaaWFootNe
import Derived.Test.YtmkbipplkjhpeaaWAt
import Derived.Test.YtmkbipplkjhpeaaWEqStruct
import Derived.Test.YtmkbipplkjhpeaaWRepsOne
import Derived.Test.YtmkbipplkjhpeaaWInv
import Derived.Test.YtmkbipplkjhpeaaWInvWords
import Derived.Test.YtmkbipplkjhpeaaWGuard
import Derived.Test.YtmkbipplkjhpeaaWNEv
import Derived.Test.YtmkbipplkjhpeaaWMore
namespace Go.Proofs.Ytmkbipplkjhpeaa.PFnExactCheckOf
open Go.RowKit Go.Proofs.YtmkbipplkjhpeaaW.PrintWords Go.Proofs.YtmkbipplkjhpeaaW.PrintLast Go.Proofs.YtmkbipplkjhpeaaW.PrintMore
attribute [local go_sem] max2_int min2_int max_two min_two max_three min_three max_four min_four   -- for this text's walks alone
set_option linter.unusedVariables false
set_option linter.unusedSimpArgs false



def errW : Option Int → Value
  | none => .nilIface
  | some c => .iface 0 (.int .i64 c)
theorem errW_none : errW none = .nilIface := rfl
theorem errW_some (c : Int) : errW (some c) = .iface 0 (.int .i64 c) := rfl

-- the values' own types

end Go.Proofs.Ytmkbipplkjhpeaa.PFnExactCheckOf
