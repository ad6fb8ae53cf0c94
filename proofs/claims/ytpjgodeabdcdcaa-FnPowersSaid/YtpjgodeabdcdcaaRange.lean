/- The widened float32: finite or not, within 2^52 or not; math.NaN. No condition. -/
import Derived.Test.YtpjgodeabdcdcaaSine
import Derived.Test.YtpjgodeabdcdcaaFin
import Derived.Test.YtpjgodeabdcdcaaAbs
namespace Go.Proofs.Ytpjgodeabdcdcaa
open Go.RowKit Fl Ieee
namespace Fl
theorem geq_words (s t : Bool) {r q : Nat} (hr : r < double.infRung) (hq : q < double.infRung) :
    (FloatKind.f64.format.order (double.word s r) (double.word t q) == some .gt || FloatKind.f64.format.order (double.word s r) (double.word t q) == some .eq) = decide (sv t (mval double q) ≤ sv s (mval double r)) := by
  rw [fmt64, order_words double s t hr hq, Bool.eq_iff_iff]
  simp only [Bool.or_eq_true, beq_iff_eq, Option.some.injEq, cmp_gt, cmp_eq, decide_eq_true_eq]
  omega
theorem leq_words (s t : Bool) {r q : Nat} (hr : r < double.infRung) (hq : q < double.infRung) :
    (FloatKind.f64.format.order (double.word s r) (double.word t q) == some .lt || FloatKind.f64.format.order (double.word s r) (double.word t q) == some .eq) = decide (sv s (mval double r) ≤ sv t (mval double q)) := by
  rw [fmt64, order_words double s t hr hq, Bool.eq_iff_iff]
  simp only [Bool.or_eq_true, beq_iff_eq, Option.some.injEq, cmp_lt, cmp_eq, decide_eq_true_eq]
  omega
abbrev R52 : Nat := 4841369599423283200
theorem R52_inf : R52 < double.infRung := by rw [I64]; decide
theorem R52_val {K : Nat} (hK : K = 1074) : mval double R52 = 4503599627370496 * 2 ^ K := by subst hK; decide +kernel
theorem R52_neg : double.word true R52 = 14064741636278059008 := by decide +kernel

/-- a word not less than 2^52: what the tests say -/
theorem big_pos {q : Nat} (hq : q < double.infRung) : (FloatKind.f64.format.order (double.word false q) 4841369599423283200 == some .gt || FloatKind.f64.format.order (double.word false q) 4841369599423283200 == some .eq) = decide (R52 ≤ q) := by
  have h := geq_words false false hq R52_inf
  rw [word_false R52] at h
  rw [h]
  unfold sv
  simp only [Bool.false_eq_true, ↓reduceIte, decide_eq_decide]
  constructor
  · intro h; exact le_of_mval (f := double) (Int.ofNat_le.1 h)
  · intro h; exact Int.ofNat_le.2 (mval_le h)
theorem big_pos' {q : Nat} (hq : q < double.infRung) : (FloatKind.f64.format.order (double.word true q) 4841369599423283200 == some .gt || FloatKind.f64.format.order (double.word true q) 4841369599423283200 == some .eq) = false := by
  have h := geq_words true false hq R52_inf
  rw [word_false R52] at h
  rw [h]
  have : 0 < mval double R52 := by rcases Nat.eq_zero_or_pos (mval double R52) with h | h
                                   · exact absurd (mval_zero h) (by decide)
                                   · exact h
  unfold sv
  simp; omega
theorem big_neg {q : Nat} (hq : q < double.infRung) : (FloatKind.f64.format.order (double.word true q) 14064741636278059008 == some .lt || FloatKind.f64.format.order (double.word true q) 14064741636278059008 == some .eq) = decide (R52 ≤ q) := by
  have h := leq_words true true hq R52_inf
  rw [R52_neg] at h
  rw [h]
  unfold sv
  simp only [↓reduceIte, decide_eq_decide]
  constructor
  · intro h; exact le_of_mval (f := double) (by omega)
  · intro h; have := mval_le (f := double) h; omega
theorem big_neg' {q : Nat} (hq : q < double.infRung) : (FloatKind.f64.format.order (double.word false q) 14064741636278059008 == some .lt || FloatKind.f64.format.order (double.word false q) 14064741636278059008 == some .eq) = false := by
  have h := leq_words false true hq R52_inf
  rw [R52_neg] at h
  rw [h]
  have : 0 < mval double R52 := by rcases Nat.eq_zero_or_pos (mval double R52) with h | h
                                   · exact absurd (mval_zero h) (by decide)
                                   · exact h
  unfold sv
  simp; omega
theorem small_val {q K : Nat} (hK : K = 1074) (h : ¬ R52 ≤ q) : mval double q < 4503599627370496 * 2 ^ K := by
  rw [← R52_val hK]; exact mval_lt (by omega)
theorem small_int {q K : Nat} (hK : K = 1074) (s : Bool) (hq : q < double.infRung) (h : ¬ R52 ≤ q) : floatToIntVal .f64 (double.word s q) .i64 = some (sv s (mval double q / 2 ^ K)) := by
  refine toIntVal_word hK s hq ?_
  have := (Nat.div_lt_iff_lt_mul (Nat.two_pow_pos K)).2 (small_val hK h)
  omega
theorem abs_word (s : Bool) {q : Nat} (hq : q < double.infRung) : double.word s q % 9223372036854775808 = double.word false q := by
  have := word_rung (f := double) (s := s) (r := q) (by rw [S64]; rw [I64] at hq; omega)
  rw [S64] at this; rw [this, word_false]

/-- a float32, widened -/
theorem wide_cases {x : Nat} (hx : x < 4294967296) : (∃ s q, q < double.infRung ∧ (∀ w, cres .f32 x .f64 w = double.word s q) ∧ cop .f32 x .f64 = double.word s q ∧ finB x = true ∧ Bd 1151 (double.word s q)) ∨
    (finB x = false ∧ ∀ w, isN .f64 (fop .sub .f64 (cres .f32 x .f64 w) (cres .f32 x .f64 w)) = true) := by
  rcases kinds .f32 (w := x) hx with ⟨s, r, hr, rfl⟩ | ⟨s, rfl⟩ | h
  · left
    have hb := wide_kinds hx
    rw [fmt32] at *
    obtain ⟨K, hK⟩ : ∃ K : Nat, K = 925 := ⟨_, rfl⟩
    obtain ⟨q, hq, hv, e⟩ := widen_word s hK (by rw [I32] at hr; exact hr)
    have hc : cop .f32 (single.word s r) .f64 = double.word s q := by unfold cop; rw [e]; rfl
    refine ⟨s, q, by rw [I64]; exact hq, fun w => cres_some w e, hc, ?_, ?_⟩
    · unfold finB
      have := self_zero .f32 s (r := r) (by rw [fmt32]; exact hr)
      rw [fmt32] at this
      rw [this]; decide +kernel
    · rcases hb with ⟨_, h⟩ | ⟨t, h⟩ | ⟨h, _⟩
      · rw [hc] at h; exact h
      · exfalso
        rw [hc] at h
        have h1 := word_rung (f := double) (s := s) (r := q) (by rw [S64]; omega)
        have h2 := word_rung (f := double) (s := t) (r := double.infRung) (by rw [S64, I64]; omega)
        rw [h, h2, I64] at h1; omega
      · have := isN_word .f32 s (r := r) (by rw [fmt32]; omega)
        rw [fmt32] at this; rw [this] at h; cases h
  · right
    refine ⟨?_, fun w => ?_⟩
    · unfold finB
      rw [order_nan_l (self_inf .f32 s)]; rfl
    · rw [fmt32, cres_some w (widen_inf s)]
      exact self_inf .f64 s
  · right
    refine ⟨?_, fun w => ?_⟩
    · unfold finB
      rw [order_nan_l (self_nan h)]; rfl
    · exact self_nan (cres_nan w (by decide) h)
theorem self_ok (s : Bool) {q : Nat} (hq : q < double.infRung) : (FloatKind.f64.format.order (fop .sub .f64 (double.word s q) (double.word s q)) 0 != some .eq) = false := by
  have := self_zero .f64 s (r := q) hq
  rw [fmt64] at this ⊢
  rw [this]; decide +kernel
theorem self_no {y : Nat} (h : isN .f64 (fop .sub .f64 y y) = true) : (FloatKind.f64.format.order (fop .sub .f64 y y) 0 != some .eq) = true := by
  rw [order_nan_l h]; rfl
end Fl
theorem NaN_any (w : World) : Calls Try.prog 38 #[] w fun e w' => e = .returned (.float .f64 9221120237041090561) ∧ w = w' := by
  go_enter Try.func38, Try.ntmps38
  go_wp2
  go_ret
  exact ⟨rfl, rfl⟩
theorem l01Narrow_any (x : Nat) (w : World) : Calls Try.prog 61 #[.float .f64 x] w fun e w' => e = .returned (.float .f32 (cres .f64 x .f32 w)) ∧ ∃ n, w' = w.drewN n := by
  go_enter Try.func61, Try.ntmps61
  go_wp2
  go_ret
  exact ⟨rfl, _, rfl⟩
end Go.Proofs.Ytpjgodeabdcdcaa
