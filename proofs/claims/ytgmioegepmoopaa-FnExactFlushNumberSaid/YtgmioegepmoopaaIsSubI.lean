/- The program's IsSubnormal, for all arguments. -/
import Derived.Test.YtgmioegepmoopaaBits
import Derived.Test.YtgmioegepmoopaaSub
import Derived.Test.YtgmioegepmoopaaAbs
namespace Go.Proofs.Ytgmioegepmoopaa
open Go.RowKit Fl Ieee

theorem IsSubnormal_any (x : Nat) (hx : x < 4294967296) (w : World) : Calls Try.prog 58 #[.float .f32 x] w fun e w' => e = .returned (.bool (subB x)) ∧ ∃ n, w' = w.drewN n := by
  have ha := fun w => abs_small hx w
  by_cases hz : FloatKind.f32.format.order x 0 = some .eq
  · have hn : isN .f32 x = false := by
      cases h : isN .f32 x
      · rfl
      · rw [order_nan_l h] at hz; cases hz
    have hs : subB x = false := by unfold subB; rw [decide_eq_false_iff_not]; intro h; exact h.1 ((order_zero hx hn).1 hz)
    rw [hs]; clear ha hs hn
    go_enter Try.func58, Try.ntmps58
    go_wp2
    go_ret
    exact ⟨rfl, 0, rfl⟩
  · have hb : (FloatKind.f32.format.order x 0 != some .eq) = true := by simpa using hz
    have hs : subB x = decide (x % 2147483648 < 8388608) := by
      unfold subB
      by_cases hn : isN .f32 x = true
      · have h1 := ha default
        rw [order_nan_l (isN64_mod (cres_nan (k := .f64) _ (by decide) hn))] at h1
        have h2 : ¬ x % 2147483648 < 8388608 := of_decide_eq_false (by rw [← h1]; rfl)
        simp [h2]
      · have : x % 2147483648 ≠ 0 := fun e => hz ((order_zero hx (by simpa using hn)).2 e)
        simp [this]
    rw [hs]
    clear hs hz
    have HA := Lib.hid ha
    clear ha
    go_enter Try.func58, Try.ntmps58
    go_wp2_with (fail)
    refine (Abs_any _ (cres_lt (s := .f32) hx _) _).mono ?_
    rintro e w' ⟨rfl, rfl⟩
    go_wp2
    go_ret
    exact ⟨ret_bool (HA.out _), _, rfl⟩
end Go.Proofs.Ytgmioegepmoopaa
