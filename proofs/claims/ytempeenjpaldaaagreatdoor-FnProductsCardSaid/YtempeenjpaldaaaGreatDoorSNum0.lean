/- What the texts of the machine's side begin with. -/
import Derived.Test.YtempeenjpaldaaaGreatDoorProg
import Derived.Below
import Derived.Deep.Draws
import Derived.Deep.AppendLies
import Derived.Maps.AppendAt
import Derived.OwnWalk
import Derived.Laws.BytesArg
import Derived.Laws.MakeOwn
import Derived.Laws.OwnMore
import Derived.Deep.OwnRows
import Derived.Tactics
import Derived.Lib.ConvBytes
import Derived.Laws.Slices
import Derived.WalkKit
import Derived.KernelRfl
import Derived.RowKit3
import Derived.Deep.LoopGhost
import Derived.Deep.QuietTactic
import Derived.BigQuiet
import Derived.WideLaws
import Derived.Deep.DeepCutAuto
import Derived.Deep.CutBlock
import Derived.Deep.RegionHeld3
import Derived.Laws.Rows
import Derived.Lib.AppendStr
import Derived.ArgAppend
import Derived.Laws.IdiomCopy
import Derived.OrdersHeld
import Derived.Laws.BitsLemmas
import Derived.RowKit
import Derived.Test.YtempeenjpaldaaaGreatDoorWWords
import Derived.Test.YtempeenjpaldaaaGreatDoorWLast
import Derived.Test.YtempeenjpaldaaaGreatDoorWTab
import Derived.Test.YtempeenjpaldaaaGreatDoorWFour
import Derived.Test.YtempeenjpaldaaaGreatDoorWQPut
import Derived.Test.YtempeenjpaldaaaGreatDoorWApart
import Derived.Test.YtempeenjpaldaaaGreatDoorWArr
import Derived.Test.YtempeenjpaldaaaGreatDoorWZeros
import Derived.Test.YtempeenjpaldaaaGreatDoorWFoot
import Derived.Test.YtempeenjpaldaaaGreatDoorWKept
import Derived.Test.YtempeenjpaldaaaGreatDoorWShare
import Derived.Test.YtempeenjpaldaaaGreatDoorWN
import Derived.Test.YtempeenjpaldaaaGreatDoorWFootNe
import Derived.Test.YtempeenjpaldaaaGreatDoorWAt
import Derived.Test.YtempeenjpaldaaaGreatDoorWEqStruct
import Derived.Test.YtempeenjpaldaaaGreatDoorWRepsOne
import Derived.Test.YtempeenjpaldaaaGreatDoorWInv
import Derived.Test.YtempeenjpaldaaaGreatDoorWInvWords
import Derived.Test.YtempeenjpaldaaaGreatDoorWGuard
import Derived.Test.YtempeenjpaldaaaGreatDoorWNEv
import Derived.Test.YtempeenjpaldaaaGreatDoorWMore
namespace Go.Proofs.YtempeenjpaldaaaGreatDoor.SNum
open Go.RowKit Go.Proofs.YtempeenjpaldaaaGreatDoorW.PrintWords Go.Proofs.YtempeenjpaldaaaGreatDoorW.PrintLast Go.Proofs.YtempeenjpaldaaaGreatDoorW.PrintMore
attribute [local go_sem] max2_int min2_int max_two min_two max_three min_three max_four min_four   -- for this text's walks alone
set_option linter.unusedVariables false
set_option linter.unusedSimpArgs false



/-- a float32 number's value, told by its bits -/
abbrev FV (n : Int) : Value := .float .f32 n.toNat
/-- a float32 as one cell, told by its bits -/
abbrev FKI : Kd Int := Kd.scalar FV (fun _ => rfl)
theorem at_fki {w : World} {A : Option Addr} {n : Nat} {xs : List Int} (h : FKI.C w A n xs) (i : Int) (h0 : 0 ≤ i) (h1 : i < n) : ∃ ad, A = some ad ∧ w.cell? (ad.add i.toNat) = some (FV (rd xs i)) :=
  ReadsOf.at_ (Kd.reads_of_C (enc := FV) (d := (0 : Int)) (h1 := fun _ => rfl) h) i h0 h1

def errW : Option Int → Value
  | none => .nilIface
  | some c => .iface 129 (.int .i64 c)
theorem errW_none : errW none = .nilIface := rfl
theorem errW_some (c : Int) : errW (some c) = .iface 129 (.int .i64 c) := rfl

theorem info5 : (Tryz.prog.info? 5).map (fun i => (i.zero, i.size, i.bytes)) = some (some (.int .u8 0), 1, 1) := by kernel_rfl
theorem info9 : (Tryz.prog.info? 9).map (fun i => (i.zero, i.size, i.bytes)) = some (some (.string ⟨#[]⟩), 1, 16) := by kernel_rfl
theorem info50 : (Tryz.prog.info? 24).map (fun i => (i.zero, i.size, i.bytes)) = some (some (.float .f32 0), 1, 4) := by kernel_rfl
-- the values' own types

end Go.Proofs.YtempeenjpaldaaaGreatDoor.SNum
