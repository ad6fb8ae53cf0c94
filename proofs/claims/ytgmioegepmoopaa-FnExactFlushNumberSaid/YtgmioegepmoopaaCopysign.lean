/- math.Copysign of nought, for all signs: a zero with that sign. -/
import Derived.Test.YtgmioegepmoopaaExt
import Derived.Test.YtgmioegepmoopaaBitOps
namespace Go.Proofs.Ytgmioegepmoopaa
open Go.RowKit Fl
theorem Copysign_zero (x : Nat) (hx : x < 18446744073709551616) (w : World) : Calls Try.prog 59 #[.float .f64 0, .float .f64 x] w fun e w' => e = .returned (.float .f64 (x / 9223372036854775808 * 9223372036854775808)) ∧ w = w' := by
  have hb := u64_sign x hx
  have h0 : bits .andNot .u64 0 9223372036854775808 = 0 := andNot_sign 0 (by omega)
  have ho := or_zero_u64 (x / 9223372036854775808 * 9223372036854775808) (by omega)
  rw [← hb] at ho
  have HB := Lib.hid hb
  clear hb
  go_enter Try.func59, Try.ntmps59
  go_wp2
  go_ret
  exact ⟨by rw [HB.out]; rfl, rfl⟩
end Go.Proofs.Ytgmioegepmoopaa
