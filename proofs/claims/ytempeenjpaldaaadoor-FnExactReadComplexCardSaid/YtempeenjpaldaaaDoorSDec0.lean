/- What the texts of the machine's side begin with. -/
import Derived.Test.YtempeenjpaldaaaDoorProg
import Derived.Below
import Derived.Deep.Draws
import Derived.Deep.AppendLies
import Derived.Maps.AppendAt
import Derived.OwnWalk
import Derived.Laws.BytesArg
import Derived.Laws.MakeOwn
import Derived.Laws.OwnMore
import Derived.Deep.OwnRows
import Derived.Tactics
import Derived.Lib.ConvBytes
import Derived.Laws.Slices
import Derived.WalkKit
import Derived.KernelRfl
import Derived.RowKit3
import Derived.Deep.LoopGhost
import Derived.Deep.QuietTactic
import Derived.BigQuiet
import Derived.WideLaws
import Derived.Deep.DeepCutAuto
import Derived.Deep.CutBlock
import Derived.Deep.RegionHeld3
import Derived.Laws.Rows
import Derived.Lib.AppendStr
import Derived.ArgAppend
import Derived.Laws.IdiomCopy
import Derived.OrdersHeld
import Derived.Laws.BitsLemmas
import Derived.RowKit
import Derived.Test.YtempeenjpaldaaaDoorWWords
import Derived.Test.YtempeenjpaldaaaDoorWLast
import Derived.Test.YtempeenjpaldaaaDoorWTab
import Derived.Test.YtempeenjpaldaaaDoorWFour
import Derived.Test.YtempeenjpaldaaaDoorWQPut
import Derived.Test.YtempeenjpaldaaaDoorWApart
import Derived.Test.YtempeenjpaldaaaDoorWArr
import Derived.Test.YtempeenjpaldaaaDoorWZeros
import Derived.Test.YtempeenjpaldaaaDoorWFoot
import Derived.Test.YtempeenjpaldaaaDoorWKept
import Derived.Test.YtempeenjpaldaaaDoorWShare
import Derived.Test.YtempeenjpaldaaaDoorWN
import Derived.Test.YtempeenjpaldaaaDoorWFootNe
import Derived.Test.YtempeenjpaldaaaDoorWAt
import Derived.Test.YtempeenjpaldaaaDoorWEqStruct
import Derived.Test.YtempeenjpaldaaaDoorWRepsOne
import Derived.Test.YtempeenjpaldaaaDoorWInv
import Derived.Test.YtempeenjpaldaaaDoorWInvWords
import Derived.Test.YtempeenjpaldaaaDoorWGuard
import Derived.Test.YtempeenjpaldaaaDoorWNEv
import Derived.Test.YtempeenjpaldaaaDoorWMore
namespace Go.Proofs.YtempeenjpaldaaaDoor.SDec
open Go.RowKit Go.Proofs.YtempeenjpaldaaaDoorW.PrintWords Go.Proofs.YtempeenjpaldaaaDoorW.PrintLast Go.Proofs.YtempeenjpaldaaaDoorW.PrintMore
attribute [local go_sem] max2_int min2_int max_two min_two max_three min_three max_four min_four   -- for this text's walks alone
set_option linter.unusedVariables false
set_option linter.unusedSimpArgs false



def errW : Option Int → Value
  | none => .nilIface
  | some c => .iface 104 (.int .i64 c)
theorem errW_none : errW none = .nilIface := rfl
theorem errW_some (c : Int) : errW (some c) = .iface 104 (.int .i64 c) := rfl

theorem info2 : (Tryd.prog.info? 2).map (fun i => (i.zero, i.size, i.bytes)) = some (some (.int .i64 0), 1, 8) := by kernel_rfl
theorem info5 : (Tryd.prog.info? 5).map (fun i => (i.zero, i.size, i.bytes)) = some (some (.int .u8 0), 1, 1) := by kernel_rfl
theorem info9 : (Tryd.prog.info? 9).map (fun i => (i.zero, i.size, i.bytes)) = some (some (.string ⟨#[]⟩), 1, 16) := by kernel_rfl
-- the values' own types

end Go.Proofs.YtempeenjpaldaaaDoor.SDec
