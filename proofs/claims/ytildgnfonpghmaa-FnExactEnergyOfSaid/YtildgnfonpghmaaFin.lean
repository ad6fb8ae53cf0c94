/- Finite float32 numbers: what the program's IsFinite and the reference's l01Finite answer, for all arguments. -/
import Derived.Test.YtildgnfonpghmaaFl
import Derived.Test.YtildgnfonpghmaaChecked
namespace Go.Proofs.Ytildgnfonpghmaa
open Go.RowKit Fl
/-- what is taken from itself is zero -/
def finB (x : Nat) : Bool := FloatKind.f32.format.order (fop .sub .f32 x x) 0 == some .eq
theorem l01Finite_any (x : Nat) (w : World) : Calls Try.prog 16 #[.float .f32 x] w fun e w' => e = .returned (.bool (finB x)) ∧ ∃ n, w' = w.drewN n := by
  go_enter Try.func16, Try.ntmps16
  go_wp2
  go_ret
  exact ⟨rfl, _, rfl⟩
theorem IsFinite_any (x : Nat) (w : World) : Calls Try.prog 19 #[.float .f32 x] w fun e w' => e = .returned (.bool (finB x)) ∧ ∃ n, w' = w.drewN n := by
  go_enter Try.func19, Try.ntmps19
  go_wp2
  go_ret
  exact ⟨rfl, _, rfl⟩
end Go.Proofs.Ytildgnfonpghmaa
