/- Plain facts on masks. No program; no condition. -/
import Derived.Test.YtpjgodeabdcdcaaFl
namespace Go.Proofs.Ytpjgodeabdcdcaa
namespace Fl

theorem and_field (x a n : Nat) : x &&& ((2 ^ n - 1) <<< a) = (x / 2 ^ a % 2 ^ n) * 2 ^ a := by
  rw [← Nat.shiftLeft_eq, ← Nat.shiftRight_eq_div_pow]
  apply Nat.eq_of_testBit_eq
  intro i
  simp only [Nat.testBit_and, Nat.testBit_shiftLeft, Nat.testBit_mod_two_pow, Nat.testBit_shiftRight, Nat.testBit_two_pow_sub_one]
  by_cases h : a ≤ i
  · have : a + (i - a) = i := by omega
    simp only [h, this, decide_true, Bool.true_and]
    rw [Bool.and_comm]
  · simp [h]

theorem i64_and_nat (a b : Nat) (ha : a < 9223372036854775808) (hb : b < 9223372036854775808) : bits .and .i64 (a : Int) (b : Int) = ((a &&& b : Nat) : Int) :=
  (bits_nat .i64 63 (by decide) (fun n h0 h1 => by rw [IntKind.wrap_i64]; omega) a b ha hb).1

/-- the exponent field of a float32's bits -/
theorem and_exp (a : Nat) (ha : a < 4294967296) : bits .and .i64 (a : Int) 2139095040 = ((a / 8388608 % 256 * 8388608 : Nat) : Int) := by
  rw [show (2139095040 : Int) = ((2139095040 : Nat) : Int) from rfl, i64_and_nat a _ (by omega) (by omega)]
  congr 1
  exact and_field a 23 8
/-- its sign bit -/
theorem and_sign (a : Nat) (ha : a < 4294967296) : bits .and .i64 (a : Int) 2147483648 = ((a / 2147483648 * 2147483648 : Nat) : Int) := by
  rw [show (2147483648 : Int) = ((2147483648 : Nat) : Int) from rfl, i64_and_nat a _ (by omega) (by omega)]
  congr 1
  have := and_field a 31 1
  rw [show (2 ^ 1 - 1) <<< 31 = 2147483648 from rfl, show 2 ^ 31 = 2147483648 from rfl, show 2 ^ 1 = 2 from rfl] at this
  rw [this]
  have : a / 2147483648 % 2 = a / 2147483648 := Nat.mod_eq_of_lt (by omega)
  rw [this]

/-- a float64's bits without the sign bit -/
theorem andNot_sign (a : Nat) (ha : a < 18446744073709551616) : bits .andNot .u64 (a : Int) 9223372036854775808 = ((a % 9223372036854775808 : Nat) : Int) := by
  rw [show (9223372036854775808 : Int) = ((9223372036854775808 : Nat) : Int) from rfl, u64_andNot_nat a _ ha (by omega)]
  congr 1
  exact Nat.and_two_pow_sub_one_eq_mod a 63
theorem u64_sign (a : Nat) (ha : a < 18446744073709551616) : bits .and .u64 (a : Int) 9223372036854775808 = ((a / 9223372036854775808 * 9223372036854775808 : Nat) : Int) := by
  rw [show (9223372036854775808 : Int) = ((9223372036854775808 : Nat) : Int) from rfl, u64_and_nat a _ ha (by omega)]
  congr 1
  have := and_field a 63 1
  rw [show (2 ^ 1 - 1) <<< 63 = 9223372036854775808 from rfl, show 2 ^ 63 = 9223372036854775808 from rfl, show 2 ^ 1 = 2 from rfl] at this
  rw [this]
  have : a / 9223372036854775808 % 2 = a / 9223372036854775808 := Nat.mod_eq_of_lt (by omega)
  rw [this]
theorem or_zero_u64 (a : Nat) (ha : a < 18446744073709551616) : bits .or .u64 0 (a : Int) = (a : Int) := by
  rw [show (0 : Int) = ((0 : Nat) : Int) from rfl, u64_or_nat 0 a (by omega) ha]
  simp

end Fl
end Go.Proofs.Ytpjgodeabdcdcaa
