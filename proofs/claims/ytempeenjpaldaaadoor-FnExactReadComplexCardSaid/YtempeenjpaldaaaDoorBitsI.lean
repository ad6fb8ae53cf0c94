/- The program's BitsOf, for all arguments. -/
import Derived.Test.YtempeenjpaldaaaDoorBits
namespace Go.Proofs.YtempeenjpaldaaaDoor
open Go.RowKit Fl
theorem BitsOf_any (x : Nat) (hx : x < 4294967296) (w : World) : Calls Tryd.prog 58 #[.float .f32 x] w fun e w' => e = .returned (.int .i64 (bitsN x)) ∧ w = w' := by
  unfold bitsN
  by_cases hn : isN .f32 x = true
  · have ho := order_nan_l (y := x) hn
    rw [if_pos hn]; clear hn
    go_enter Tryd.func58, Tryd.ntmps58
    go_wp2
    go_ret
    exact ⟨rfl, rfl⟩
  · have ho := order_self (by simpa using hn)
    rw [if_neg hn]; clear hn
    go_enter Tryd.func58, Tryd.ntmps58
    go_wp2
    go_ret
    exact ⟨rfl, rfl⟩

end Go.Proofs.YtempeenjpaldaaaDoor
