/- Plain facts on subnormal float32 numbers. No program; no condition. -/
import Derived.Test.YtgmioegepmoopaaOps
import Derived.Test.YtgmioegepmoopaaBitOps
namespace Go.Proofs.Ytgmioegepmoopaa
namespace Fl
open Ieee

/-- not a zero, and nearer to 0 than 2^-126 -/
def subB (x : Nat) : Bool := decide (x % 2147483648 ≠ 0 ∧ x % 2147483648 < 8388608)

theorem word32_mod (s : Bool) {r : Nat} (h : r ≤ 2139095040) : single.word s r % 2147483648 = r := by
  have := word_rung (f := single) (s := s) (r := r) (by rw [S32]; omega)
  rwa [S32] at this

/-- a float32 against zero -/
theorem order_zero {x : Nat} (hx : x < 4294967296) (hn : isN .f32 x = false) : FloatKind.f32.format.order x 0 = some .eq ↔ x % 2147483648 = 0 := by
  have hz : (0 : Nat) = single.word false 0 := rfl
  rcases kinds .f32 (w := x) hx with ⟨s, r, hr, rfl⟩ | ⟨s, rfl⟩ | h
  · rw [fmt32] at *
    have hr' := hr
    rw [I32] at hr'
    rw [word32_mod s (by omega)]
    conv => lhs; rw [hz]
    rw [order_words single s false hr (by rw [I32]; omega), Option.some.injEq, cmp_eq]
    have h0 : mval single 0 = 0 := mval_small (by rw [B32]; omega)
    rw [h0]
    unfold sv
    constructor
    · intro h; exact mval_zero (f := single) (by cases s <;> simp at h <;> omega)
    · intro h; rw [h, h0]; cases s <;> rfl
  · cases s <;> decide +kernel
  · rw [h] at hn; cases hn

theorem isN64_mod {y : Nat} (h : isN .f64 y = true) : isN .f64 (y % 9223372036854775808) = true := by
  obtain ⟨s, t, e⟩ := (isN_iff _ _).1 h
  refine (isN_iff _ _).2 ?_
  unfold FloatKind.decode Format.read at *
  rw [fmt64] at *
  simp only [S64, Nat.mod_mod] at *
  split at e
  · cases e
  · split at e
    · cases e
    · split at e
      · cases e
      · rename_i h1 h2 h3
        rw [if_neg h1, if_neg h2, if_neg h3]
        exact ⟨_, _, rfl⟩

theorem least_normal : (4039728865751334912 : Nat) = double.word false 4039728865751334912 := rfl

theorem abs_small {x : Nat} (hx : x < 4294967296) (w : World) :
    (FloatKind.f64.format.order (cres .f32 x .f64 w % 9223372036854775808) 4039728865751334912 == some .lt) = decide (x % 2147483648 < 8388608) := by
  rcases kinds .f32 (w := x) hx with ⟨s, r, hr, rfl⟩ | ⟨s, rfl⟩ | h
  · rw [fmt32] at *
    have hr' := hr
    rw [I32] at hr'
    obtain ⟨K, hK⟩ : ∃ K : Nat, K = 925 := ⟨_, rfl⟩
    obtain ⟨q, hq, hv, e⟩ := widen_word s hK hr'
    rw [cres_some w e, word32_mod s (by omega)]
    have hm : double.word s q % 9223372036854775808 = double.word false q := by
      have := word_rung (f := double) (s := s) (r := q) (by rw [S64]; omega)
      rw [S64] at this; rw [this]; rfl
    rw [hm, fmt64, least_normal, order_words double false false (by rw [I64]; omega) (by rw [I64]; omega)]
    have hl : mval double 4039728865751334912 = mval single 8388608 * 2 ^ K := by rw [hK]; decide +kernel
    rw [hl, hv]
    unfold sv
    rw [Bool.eq_iff_iff]
    simp only [beq_iff_eq, Option.some.injEq, cmp_lt, decide_eq_true_eq, Bool.false_eq_true, ↓reduceIte]
    have hp := Nat.two_pow_pos K
    constructor
    · intro h
      have h' : mval single r * 2 ^ K < mval single 8388608 * 2 ^ K := Int.ofNat_lt.1 h
      have h2 := Nat.lt_of_mul_lt_mul_right h'
      rcases Nat.lt_or_ge r 8388608 with g | g
      · exact g
      · have := mval_le (f := single) g; omega
    · intro h
      have := (Nat.mul_lt_mul_right hp).2 (mval_lt (f := single) h)
      exact Int.ofNat_lt.2 this
  · rw [fmt32, cres_some w (widen_inf s), I32, I64]
    cases s <;> decide +kernel
  · have hn := isN64_mod (cres_nan (k := .f64) w (by decide) h)
    rw [order_nan_l hn]
    have : ¬ x % 2147483648 < 8388608 := by
      intro g
      obtain ⟨s, t, e⟩ := (isN_iff _ _).1 h
      unfold FloatKind.decode Format.read at e
      simp only [fmt32, S32, B32] at e
      rw [if_pos g] at e
      cases e
    simp only [this, decide_false]
    rfl

/-- the exponent field is nought -/
theorem exp_zero {x : Nat} : x / 8388608 % 256 * 8388608 = 0 ↔ x % 2147483648 < 8388608 := by omega
end Fl
end Go.Proofs.Ytgmioegepmoopaa
