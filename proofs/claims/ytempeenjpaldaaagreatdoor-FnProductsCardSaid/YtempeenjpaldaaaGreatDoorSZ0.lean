/- What the texts of the machine's side begin with. -/
import Derived.Test.YtempeenjpaldaaaGreatDoorProg
import Derived.Below
import Derived.Deep.Draws
import Derived.Deep.AppendLies
import Derived.Maps.AppendAt
import Derived.OwnWalk
import Derived.Laws.BytesArg
import Derived.Laws.MakeOwn
import Derived.Laws.OwnMore
import Derived.Deep.OwnRows
import Derived.Tactics
import Derived.Lib.ConvBytes
import Derived.Laws.Slices
import Derived.WalkKit
import Derived.KernelRfl
import Derived.RowKit3
import Derived.Deep.LoopGhost
import Derived.Deep.QuietTactic
import Derived.BigQuiet
import Derived.WideLaws
import Derived.Deep.DeepCutAuto
import Derived.Deep.CutBlock
import Derived.Deep.RegionHeld3
import Derived.Laws.Rows
import Derived.Lib.AppendStr
import Derived.ArgAppend
import Derived.Laws.IdiomCopy
import Derived.OrdersHeld
import Derived.Laws.BitsLemmas
import Derived.RowKit
import Derived.Test.YtempeenjpaldaaaGreatDoorWWords
import Derived.Test.YtempeenjpaldaaaGreatDoorWLast
import Derived.Test.YtempeenjpaldaaaGreatDoorWTab
import Derived.Test.YtempeenjpaldaaaGreatDoorWFour
import Derived.Test.YtempeenjpaldaaaGreatDoorWQPut
import Derived.Test.YtempeenjpaldaaaGreatDoorWApart
import Derived.Test.YtempeenjpaldaaaGreatDoorWArr
import Derived.Test.YtempeenjpaldaaaGreatDoorWZeros
import Derived.Test.YtempeenjpaldaaaGreatDoorWFoot
import Derived.Test.YtempeenjpaldaaaGreatDoorWKept
import Derived.Test.YtempeenjpaldaaaGreatDoorWShare
import Derived.Test.YtempeenjpaldaaaGreatDoorWN
import Derived.Test.YtempeenjpaldaaaGreatDoorWFootNe
import Derived.Test.YtempeenjpaldaaaGreatDoorWAt
import Derived.Test.YtempeenjpaldaaaGreatDoorWEqStruct
import Derived.Test.YtempeenjpaldaaaGreatDoorWRepsOne
import Derived.Test.YtempeenjpaldaaaGreatDoorWInv
import Derived.Test.YtempeenjpaldaaaGreatDoorWInvWords
import Derived.Test.YtempeenjpaldaaaGreatDoorWGuard
import Derived.Test.YtempeenjpaldaaaGreatDoorWNEv
import Derived.Test.YtempeenjpaldaaaGreatDoorWMore
import Derived.Test.YtempeenjpaldaaaGreatDoorSNum0
namespace Go.Proofs.YtempeenjpaldaaaGreatDoor.SZ
open Go.Proofs.YtempeenjpaldaaaGreatDoor.SNum (FV FKI at_fki)
open Go.RowKit Go.Proofs.YtempeenjpaldaaaGreatDoorW.PrintWords Go.Proofs.YtempeenjpaldaaaGreatDoorW.PrintLast Go.Proofs.YtempeenjpaldaaaGreatDoorW.PrintMore
attribute [local go_sem] max2_int min2_int max_two min_two max_three min_three max_four min_four   -- for this text's walks alone
set_option linter.unusedVariables false
set_option linter.unusedSimpArgs false



def errW : Option Int → Value
  | none => .nilIface
  | some c => .iface 129 (.int .i64 c)
theorem errW_none : errW none = .nilIface := rfl
theorem errW_some (c : Int) : errW (some c) = .iface 129 (.int .i64 c) := rfl

theorem info2 : (Tryz.prog.info? 2).map (fun i => (i.zero, i.size, i.bytes)) = some (some (.int .i64 0), 1, 8) := by kernel_rfl
theorem info24 : (Tryz.prog.info? 24).map (fun i => (i.zero, i.size, i.bytes)) = some (some (.float .f32 0), 1, 4) := by kernel_rfl
theorem info42 : (Tryz.prog.info? 42).map (fun i => (i.zero, i.size, i.bytes)) = some (some (.complex .f32 0 0), 1, 8) := by kernel_rfl
-- the values' own types

end Go.Proofs.YtempeenjpaldaaaGreatDoor.SZ
