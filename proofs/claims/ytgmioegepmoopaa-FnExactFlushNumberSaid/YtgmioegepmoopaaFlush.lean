/- The program's FlushNumber, for all arguments. -/
import Derived.Test.YtgmioegepmoopaaIsSubI
import Derived.Test.YtgmioegepmoopaaCopysign
namespace Go.Proofs.Ytgmioegepmoopaa
open Go.RowKit Fl Ieee

/-- a number, but a zero with its sign if it is subnormal -/
def flushF (x : Nat) : Nat := if x % 2147483648 < 8388608 then x / 2147483648 * 2147483648 else x

theorem nan_rung {x : Nat} (h : isN .f32 x = true) : ¬ x % 2147483648 < 8388608 := by
  intro g
  obtain ⟨s, t, e⟩ := (isN_iff _ _).1 h
  unfold FloatKind.decode Format.read at e
  simp only [fmt32, S32, B32] at e
  rw [if_pos g] at e
  cases e
theorem top32 (s : Bool) {r : Nat} (h : r < 2147483648) : single.word s r / 2147483648 * 2147483648 = single.word s 0 := by
  unfold Format.word; rw [S32]
  cases s
  · show r / 2147483648 * 2147483648 = 0
    omega
  · show (2147483648 + r) / 2147483648 * 2147483648 = 2147483648 + 0
    omega
theorem top64 (s : Bool) {r : Nat} (h : r < 9223372036854775808) : double.word s r / 9223372036854775808 * 9223372036854775808 = double.word s 0 := by
  unfold Format.word; rw [S64]
  cases s
  · show r / 9223372036854775808 * 9223372036854775808 = 0
    omega
  · show (9223372036854775808 + r) / 9223372036854775808 * 9223372036854775808 = 9223372036854775808 + 0
    omega
/-- a zero with a subnormal's sign, narrowed -/
theorem narrow_zero {x : Nat} (hx : x < 4294967296) (hs : x % 2147483648 < 8388608) (w w' : World) :
    cres .f64 (cres .f32 x .f64 w / 9223372036854775808 * 9223372036854775808) .f32 w' = flushF x := by
  have hfl : flushF x = x / 2147483648 * 2147483648 := by unfold flushF; rw [if_pos hs]
  rw [hfl]
  rcases kinds .f32 (w := x) hx with ⟨s, r, hr, rfl⟩ | ⟨s, rfl⟩ | h
  · rw [fmt32] at *
    rw [I32] at hr
    obtain ⟨q, hq, hv, e⟩ := widen_word s rfl hr
    clear hv
    rw [cres_some w e]
    have e1 := top64 s (r := q) (by omega)
    have e2 := top32 s (r := r) (by omega)
    rw [e1, e2]
    cases s
    · exact cres_some _ (by decide +kernel)
    · exact cres_some _ (by decide +kernel)
  · exfalso
    revert hs
    cases s <;> decide +kernel
  · exact absurd hs (nan_rung h)

theorem FlushNumber_any (x : Nat) (hx : x < 4294967296) (w : World) : Calls Try.prog 25 #[.float .f32 x] w fun e w' => e = .returned (.float .f32 (flushF x)) ∧ ∃ n, w' = w.drewN n := by
  by_cases hs : subB x = true
  · have hr : x % 2147483648 < 8388608 := (of_decide_eq_true hs).2
    have hz := fun w w' => narrow_zero hx hr w w'
    have HZ := Lib.hid hz
    clear hz
    rw [← HZ.out w w]
    go_enter Try.func25, Try.ntmps25
    go_wp2_with (fail)
    refine (IsSubnormal_any x hx _).mono ?_
    rintro e w' ⟨rfl, n, rfl⟩
    go_wp2_with (fail)
    refine (Copysign_zero _ (cres_lt (s := .f32) hx _) _).mono ?_
    rintro e w' ⟨rfl, rfl⟩
    go_wp2
    go_ret
    exact ⟨by rw [HZ.out w w]; show Ending.returned (.float .f32 (cres .f64 _ .f32 _)) = _; rw [HZ.out], _, rfl⟩
  · have hf : flushF x = x := by
      unfold flushF
      by_cases g : x % 2147483648 < 8388608
      · rw [if_pos g]
        have : x % 2147483648 = 0 := by
          rcases Nat.eq_zero_or_pos (x % 2147483648) with e | e
          · exact e
          · exact absurd (decide_eq_true ⟨by omega, g⟩) hs
        omega
      · rw [if_neg g]
    have hs' : subB x = false := by simpa using hs
    rw [hf]; clear hf hs
    go_enter Try.func25, Try.ntmps25
    go_wp2_with (fail)
    refine (IsSubnormal_any x hx _).mono ?_
    rintro e w' ⟨rfl, n, rfl⟩
    go_wp2
    go_ret
    exact ⟨rfl, _, rfl⟩
end Go.Proofs.Ytgmioegepmoopaa
