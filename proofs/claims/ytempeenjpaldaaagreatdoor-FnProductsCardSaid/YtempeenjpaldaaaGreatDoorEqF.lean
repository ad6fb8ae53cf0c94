/- The law's test of two lists of float32 numbers, eqFloat32S: true of two lists that are the same but for which NaNs. -/
import Derived.Test.YtempeenjpaldaaaGreatDoorRowF
import Derived.Test.YtempeenjpaldaaaGreatDoorFlA
namespace Go.Proofs.YtempeenjpaldaaaGreatDoor
open Go.RowKit Go.Proofs.YtempeenjpaldaaaGreatDoorW.PrintWords Go.Proofs.YtempeenjpaldaaaGreatDoorW.PrintLast Fl

/-- the same numbers, but for which NaNs -/
def SimL (l m : List Nat) : Prop := l.length = m.length ∧ ∀ i, Sim .f32 (l.getD i 0) (m.getD i 0)
theorem SimL.refl (l : List Nat) : SimL l l := ⟨rfl, fun _ => Sim.refl _ _⟩

end Go.Proofs.YtempeenjpaldaaaGreatDoor
