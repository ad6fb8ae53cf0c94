/- The law's test of two float64 results, sameFloat: it answers true of two that are the same but for which NaN. -/
import Derived.Test.YtildgnfonpghmaaExt
namespace Go.Proofs.Ytildgnfonpghmaa
open Go.RowKit Fl
theorem sameFloat_any (a b : Nat) (h : Sim .f64 a b) (w : World) : Calls Try.prog 7 #[.float .f64 a, .float .f64 b] w fun e w' => e = .returned (.bool true) ∧ ∃ n, w' = w.drewN n := by
  rcases h with rfl | ⟨ha, hb⟩
  · by_cases hn : isN .f64 a = true
    · have ho := order_nan_l (y := a) hn
      clear hn
      go_enter Try.func7, Try.ntmps7
      go_wp2
      go_ret
      exact ⟨rfl, 0, rfl⟩
    · have ho := order_self (by simpa using hn)
      clear hn
      by_cases hz : (FloatKind.f64.format.order a 0 == some .eq) = true
      · go_enter Try.func7, Try.ntmps7
        go_wp2
        go_ret
        exact ⟨ret_bool (by simp), _, rfl⟩
      · simp only [Bool.not_eq_true] at hz
        go_enter Try.func7, Try.ntmps7
        go_wp2
        go_ret
        exact ⟨rfl, 0, rfl⟩
  · have ho := order_nan_l (y := a) ha
    have ho' := order_nan_l (y := b) hb
    clear ha hb
    go_enter Try.func7, Try.ntmps7
    go_wp2
    go_ret
    exact ⟨rfl, 0, rfl⟩
end Go.Proofs.Ytildgnfonpghmaa
