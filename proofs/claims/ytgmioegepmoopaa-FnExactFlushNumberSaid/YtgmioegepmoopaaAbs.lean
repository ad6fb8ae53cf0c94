/- math.Abs, for all arguments: the sign bit is struck. -/
import Derived.Test.YtgmioegepmoopaaExt
import Derived.Test.YtgmioegepmoopaaBitOps
namespace Go.Proofs.Ytgmioegepmoopaa
open Go.RowKit Fl
theorem Abs_any (x : Nat) (hx : x < 18446744073709551616) (w : World) : Calls Try.prog 73 #[.float .f64 x] w fun e w' => e = .returned (.float .f64 (x % 9223372036854775808)) ∧ w = w' := by
  have hb := andNot_sign x hx
  go_enter Try.func73, Try.ntmps73
  go_wp2
  go_ret
  exact ⟨rfl, rfl⟩
end Go.Proofs.Ytgmioegepmoopaa
