/- math.Signbit, for all arguments. -/
import Derived.Test.YtbpjkghbkjdodaaExt
namespace Go.Proofs.Ytbpjkghbkjdodaa
open Go.RowKit Fl
theorem Signbit_any (x : Nat) (hx : x < 18446744073709551616) (w : World) : Calls Try.prog 83 #[.float .f64 x] w fun e w' => e = .returned (.bool (decide (9223372036854775808 ≤ x))) ∧ w = w' := by
  go_enter Try.func83, Try.ntmps83
  go_wp2
  go_ret
  refine ⟨ret_bool ?_, rfl⟩
  rw [decide_eq_decide]
  unfold wrap64
  omega
end Go.Proofs.Ytbpjkghbkjdodaa
