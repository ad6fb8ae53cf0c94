/- Finite float32 numbers: what the program's IsFinite and the reference's l01Finite answer, for all arguments. -/
import Derived.Test.YtbpjkghbkjdodaaFl
import Derived.Test.YtbpjkghbkjdodaaChecked
namespace Go.Proofs.Ytbpjkghbkjdodaa
open Go.RowKit Fl
/-- what is taken from itself is zero -/
def finB (x : Nat) : Bool := FloatKind.f32.format.order (fop .sub .f32 x x) 0 == some .eq
theorem l01Finite_any (x : Nat) (w : World) : Calls Try.prog 84 #[.float .f32 x] w fun e w' => e = .returned (.bool (finB x)) ∧ ∃ n, w' = w.drewN n := by
  go_enter Try.func84, Try.ntmps84
  go_wp2
  go_ret
  exact ⟨rfl, _, rfl⟩
theorem IsFinite_any (x : Nat) (w : World) : Calls Try.prog 77 #[.float .f32 x] w fun e w' => e = .returned (.bool (finB x)) ∧ ∃ n, w' = w.drewN n := by
  go_enter Try.func77, Try.ntmps77
  go_wp2
  go_ret
  exact ⟨rfl, _, rfl⟩
end Go.Proofs.Ytbpjkghbkjdodaa
