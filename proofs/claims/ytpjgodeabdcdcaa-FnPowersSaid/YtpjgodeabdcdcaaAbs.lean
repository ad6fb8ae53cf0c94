/- math.Abs, for all arguments: the sign bit is struck. -/
import Derived.Test.YtpjgodeabdcdcaaExt
import Derived.Test.YtpjgodeabdcdcaaBitOps
namespace Go.Proofs.Ytpjgodeabdcdcaa
open Go.RowKit Fl
theorem Abs_any (x : Nat) (hx : x < 18446744073709551616) (w : World) : Calls Try.prog 42 #[.float .f64 x] w fun e w' => e = .returned (.float .f64 (x % 9223372036854775808)) ∧ w = w' := by
  have hb := andNot_sign x hx
  go_enter Try.func42, Try.ntmps42
  go_wp2
  go_ret
  exact ⟨rfl, rfl⟩
end Go.Proofs.Ytpjgodeabdcdcaa
