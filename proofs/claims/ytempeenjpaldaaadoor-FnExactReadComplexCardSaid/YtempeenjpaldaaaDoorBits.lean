/- The bits of float32 numbers: what the program's BitsOf and the reference's l01Bits answer, for all arguments. -/
import Derived.Test.YtempeenjpaldaaaDoorExt
namespace Go.Proofs.YtempeenjpaldaaaDoor
open Go.RowKit Fl
/-- the bits of a float32, one NaN standing for all -/
def bitsN (x : Nat) : Int := if isN .f32 x then 2143289344 else x
theorem bitsN_range {x : Nat} (hx : x < 4294967296) : 0 ≤ bitsN x ∧ bitsN x < 4294967296 := by
  unfold bitsN; split <;> omega

theorem l01Bits_any (x : Nat) (hx : x < 4294967296) (w : World) : Calls Tryd.prog 63 #[.float .f32 x] w fun e w' => e = .returned (.int .i64 (bitsN x)) ∧ w = w' := by
  unfold bitsN
  by_cases hn : isN .f32 x = true
  · have ho := order_nan_l (y := x) hn
    rw [if_pos hn]; clear hn
    go_enter Tryd.func63, Tryd.ntmps63
    go_wp2
    go_ret
    exact ⟨rfl, rfl⟩
  · have ho := order_self (by simpa using hn)
    rw [if_neg hn]; clear hn
    go_enter Tryd.func63, Tryd.ntmps63
    go_wp2
    go_ret
    exact ⟨rfl, rfl⟩

end Go.Proofs.YtempeenjpaldaaaDoor
