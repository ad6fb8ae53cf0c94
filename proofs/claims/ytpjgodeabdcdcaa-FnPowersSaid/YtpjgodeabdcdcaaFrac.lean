/- Whole parts of float64 numbers: the conversions to and from an integer, what is left behind the point, signs. No condition. -/
import Derived.Test.YtpjgodeabdcdcaaSqrt
namespace Go.Proofs.Ytpjgodeabdcdcaa
open Go.RowKit Fl Ieee
namespace Fl
/-! ### to an integer -/
def ires (s : FloatKind) (b : Nat) (k : IntKind) (w : World) : Int :=
  match floatToIntVal s b k with
  | some n => n
  | none => k.wrap ((Question.floatToInt s b k).cut (w.tape w.drawn (.floatToInt s b k)))
def icnt (s : FloatKind) (b : Nat) (k : IntKind) : Nat := if (floatToIntVal s b k).isSome then 0 else 1
theorem run_i {P : Program} (ts td : TypeId) (s : FloatKind) (k : IntKind) (b : Nat) (w : World) (hs : (P.underlying ts).isSome = true) (hd : P.underlying td = some (.int k)) :
    (convert ts td (.float s b)).run P w = .ok (.int k (ires s b k w)) (w.drewN (icnt s b k)) := by
  cases h : floatToIntVal s b k with
  | some r => rw [run_convert_float_int w ts td s k b r hs hd h]; simp [ires, icnt, h, World.drewN_zero]
  | none =>
    obtain ⟨u, hs'⟩ := Option.isSome_iff_exists.1 hs
    have h0 := h
    unfold floatToIntVal at h
    split at h
    · rename_i n he
      split at h
      · cases h
      · rename_i hn
        cases u <;> simp [convert, run_underlying hs', run_underlying hd, Conv.floatToInt, he, if_neg hn, ires, icnt, h0, Question.forced, World.drew_is_drewN]
    · rename_i he
      cases u <;> simp [convert, run_underlying hs', run_underlying hd, Conv.floatToInt, he, ires, icnt, h0, Question.forced, World.drew_is_drewN]
attribute [go_sem] run_i
theorem ires_some {s : FloatKind} {b : Nat} {k : IntKind} {n : Int} (w : World) (h : floatToIntVal s b k = some n) : ires s b k w = n := by simp [ires, h]

theorem cut_zero (neg : Bool) (n drop : Nat) : Toward.zero.cut neg n drop = n / 2 ^ drop := by
  unfold Toward.cut
  simp only [Nat.one_shiftLeft, Bool.toNat_false, Nat.add_zero]
  by_cases h : drop ≤ n.log2 + 2
  · rw [Nat.min_eq_left h]
  · have hlt : n < 2 ^ (n.log2 + 1) := Nat.lt_log2_self
    rw [Nat.min_eq_right (by omega), Nat.div_eq_of_lt (Nat.lt_of_lt_of_le hlt (Nat.pow_le_pow_right (by omega) (by omega))),
      Nat.div_eq_of_lt (Nat.lt_of_lt_of_le hlt (Nat.pow_le_pow_right (by omega) (by omega)))]

theorem toInt_word {K : Nat} (hK : K = 1074) (s : Bool) {r : Nat} (hr : r < double.infRung) : (double.read (double.word s r)).toInt .zero = some (sv s (mval double r / 2 ^ K)) := by
  obtain ⟨m, d, e1, e2, _, _⟩ := read_num double s hr
  have hP : double.leastPlace = -(K : Int) := by rw [P64, hK]; rfl
  rw [e1]
  simp only [Datum.toInt, Datum.integral, cut_zero, Nat.shiftLeft_eq, signed_sv, Nat.pow_zero, Nat.mul_one]
  congr 2
  rw [← e2, hP]
  by_cases h : K ≤ d
  · have h1 : (-(K : Int) + d).toNat = d - K := by omega
    have h2 : (-(-(K : Int) + d)).toNat = 0 := by omega
    rw [h1, h2, Nat.pow_zero, Nat.div_one]
    have : m * 2 ^ d = m * 2 ^ (d - K) * 2 ^ K := by rw [Nat.mul_assoc, ← Nat.pow_add]; congr 2; omega
    rw [this, Nat.mul_div_cancel _ (Nat.two_pow_pos _)]
  · have h1 : (-(K : Int) + d).toNat = 0 := by omega
    have h2 : (-(-(K : Int) + d)).toNat = K - d := by omega
    rw [h1, h2, Nat.pow_zero, Nat.mul_one]
    have : 2 ^ K = 2 ^ (K - d) * 2 ^ d := by rw [← Nat.pow_add]; congr 1; omega
    rw [this, Nat.mul_div_mul_right _ _ (Nat.two_pow_pos _)]

theorem toIntVal_word {K : Nat} (hK : K = 1074) (s : Bool) {r : Nat} (hr : r < double.infRung) (h : mval double r / 2 ^ K < 9223372036854775808) :
    floatToIntVal .f64 (double.word s r) .i64 = some (sv s (mval double r / 2 ^ K)) := by
  unfold floatToIntVal
  have e : (FloatKind.f64.decode (double.word s r)).toInt .zero = _ := toInt_word hK s hr
  rw [e]
  simp only
  have h1 : IntKind.i64.min = -9223372036854775808 := rfl
  have h2 : IntKind.i64.max = 9223372036854775807 := rfl
  rw [if_pos]
  rw [h1, h2]
  generalize mval double r / 2 ^ K = v at *
  unfold sv
  cases s <;> simp <;> omega

/-! ### from an integer -/
theorem ofInt_word {K : Nat} (hK : K = 1074) (n : Int) (hn : n.natAbs < 9007199254740992) : ∃ q, q < double.infRung ∧ mval double q = n.natAbs * 2 ^ K ∧ floatOfInt .f64 n = double.word (decide (n < 0)) q := by
  obtain ⟨q, q1, q2⟩ := repr double n.natAbs K (by rw [B64]; omega)
  have hq : q < double.infRung := by
    refine Nat.lt_of_lt_of_le q2 ?_
    rw [inf64]; exact Nat.mul_le_mul_right _ (by omega)
  refine ⟨q, hq, q1, ?_⟩
  have hP : double.leastPlace = -(K : Int) := by rw [P64, hK]; rfl
  have := nearest_exact double (decide (n < 0)) (m := n.natAbs) (d := K) (b := 0) (r := q) (by rw [q1, Nat.pow_zero, Nat.mul_one]) hq
  rw [← this]
  unfold floatOfInt FloatKind.nearest FloatKind.encode
  rw [fmt64]
  simp only [Format.write]
  congr 1
  rw [hP]; omega

/-! ### what is left behind the point -/
/-- the whole part, as a float64 -/
def wholeF (y : Nat) : Nat := floatOfInt .f64 ((floatToIntVal .f64 y .i64).getD 0)
theorem rest_bd (s : Bool) {r : Nat} {K : Nat} (hK : K = 1074) (hr : r < double.infRung) (h : mval double r < 4503599627370496 * 2 ^ K) :
    Bd 1023 (fop .sub .f64 (double.word s r) (wholeF (double.word s r))) := by
  have hp := Nat.two_pow_pos K
  have hdiv : mval double r / 2 ^ K < 4503599627370496 := (Nat.div_lt_iff_lt_mul hp).2 h
  have e1 := toIntVal_word hK s hr (by omega)
  unfold wholeF
  rw [e1, Option.getD_some]
  obtain ⟨q, hq, hv, e2⟩ := ofInt_word hK (sv s (mval double r / 2 ^ K)) (by rw [sv_abs]; omega)
  rw [sv_abs] at hv
  rw [e2]
  obtain ⟨T, D, e3, e4⟩ := sub_words double s (decide (sv s (mval double r / 2 ^ K) < 0)) hr hq
  rw [fop_of (op := .sub) (k := .f64) e3]
  obtain ⟨E, hE⟩ : ∃ E : Nat, E = 1023 := ⟨_, rfl⟩
  rw [← hE]
  refine bd_nearest0 _ (by omega) (by omega) ?_
  rw [e4]
  have hKE : 2 ^ (51 + E) = 2 ^ K := by congr 1; omega
  rw [hKE, hv]
  have hm := Nat.div_add_mod (mval double r) (2 ^ K)
  have hl := Nat.mod_lt (mval double r) hp
  generalize mval double r / 2 ^ K = a at *
  generalize mval double r = V at *
  generalize 2 ^ K = P at *
  generalize V % P = c at *
  have hPa : a * P = P * a := Nat.mul_comm _ _
  by_cases ha : a = 0
  · subst ha
    have : sv s V - sv (decide (sv s 0 < 0)) (0 * P) = sv s V := by unfold sv; cases s <;> simp
    rw [this, sv_abs]; omega
  · have hd : decide (sv s a < 0) = s := by unfold sv; cases s <;> simp <;> omega
    rw [hd, hPa]
    generalize P * a = Z at *
    unfold sv; cases s <;> simp <;> omega

/-! ### signs -/
theorem xor_top {r : Nat} (h : r < 2 ^ 63) : r ^^^ 2 ^ 63 = 2 ^ 63 + r := by
  apply Nat.eq_of_testBit_eq
  intro i
  rw [Nat.testBit_xor, Nat.testBit_two_pow]
  rcases Nat.lt_trichotomy i 63 with g | g | g
  · rw [Nat.testBit_two_pow_add_gt g]
    have : decide (63 = i) = false := decide_eq_false (by omega)
    rw [this]; simp
  · subst g
    rw [Nat.testBit_two_pow_add_eq, Nat.testBit_lt_two_pow h]; simp
  · have h1 : 2 ^ 64 ≤ 2 ^ i := Nat.pow_le_pow_right (by omega) g
    rw [Nat.testBit_lt_two_pow (x := r) (by omega), Nat.testBit_lt_two_pow (x := 2 ^ 63 + r) (by omega)]
    have : decide (63 = i) = false := decide_eq_false (by omega)
    rw [this]; simp
theorem word_true (r : Nat) : double.word true r = 2 ^ 63 + r := by unfold Format.word; rw [S64]; simp
theorem word_false (r : Nat) : double.word false r = r := by unfold Format.word; simp
theorem neg_word (s : Bool) {r : Nat} (h : r < 2 ^ 63) : Op.negFloat .f64 (double.word s r) = double.word (!s) r := by
  have e : Op.negFloat .f64 (double.word s r) = double.word s r ^^^ 2 ^ 63 := rfl
  rw [e]
  cases s
  · rw [word_false, xor_top h, ← word_true]; rfl
  · rw [word_true, ← xor_top h, Nat.xor_assoc, Nat.xor_self, Nat.xor_zero]; exact (word_false r).symm
theorem neg_bd {e x : Nat} (h : Bd e x) : Bd e (Op.negFloat .f64 x) := by
  obtain ⟨s, r, rfl, hr, hv⟩ := h
  rw [neg_word s (by rw [I64] at hr; omega)]
  exact ⟨!s, r, rfl, hr, hv⟩
theorem isN_neg {x : Nat} (hx : x < 18446744073709551616) (h : isN .f64 x = true) : isN .f64 (Op.negFloat .f64 x) = true := by
  have hw := word_split double (w := x) (by rw [S64]; omega)
  have hl : x % double.signWeight < 2 ^ 63 := by rw [S64]; exact Nat.mod_lt _ (by omega)
  generalize x % double.signWeight = r at *
  generalize (x / double.signWeight % 2 == 1) = s at *
  subst hw
  rw [neg_word s hl]
  unfold isN FloatKind.decode at *
  rw [fmt64] at *
  unfold Format.read at *
  have hsw : r < double.signWeight := by rw [S64]; omega
  simp only [word_rung hsw] at *
  by_cases h1 : r < double.binade
  · simp only [if_pos h1, Datum.isNaN] at h; cases h
  · by_cases h2 : r < double.infRung
    · simp only [if_neg h1, if_pos h2, Datum.isNaN] at h; cases h
    · by_cases h3 : r = double.infRung
      · simp only [if_neg h1, if_neg h2, if_pos h3, Datum.isNaN] at h; cases h
      · simp only [if_neg h1, if_neg h2, if_neg h3, Datum.isNaN]
theorem neg_sim {x y : Nat} (hx : x < 18446744073709551616) (hy : y < 18446744073709551616) (h : Sim .f64 x y) : Sim .f64 (Op.negFloat .f64 x) (Op.negFloat .f64 y) := by
  rcases h with rfl | ⟨a, b⟩
  · exact .inl rfl
  · exact .inr ⟨isN_neg hx a, isN_neg hy b⟩

/-! ### what is taken from itself -/
theorem self_zero (k : FloatKind) (s : Bool) {r : Nat} (hr : r < k.format.infRung) : fop .sub k (k.format.word s r) (k.format.word s r) = 0 := by
  obtain ⟨T, D, e, he⟩ := sub_words k.format s s hr hr
  rw [fop_of (op := .sub) (k := k) e]
  have hz : sv s (mval k.format r) - sv s (mval k.format r) = 0 := by omega
  rw [hz] at he ⊢
  have hT : T = 0 := by
    have h1 : T * 2 ^ D = 0 := by rw [he]; rfl
    rcases Nat.mul_eq_zero.1 h1 with h | h
    · exact h
    · have := Nat.two_pow_pos D; omega
  rw [hT, if_pos rfl]
  unfold Format.nearest
  cases s <;> simp [Format.word]
theorem self_inf (k : FloatKind) (s : Bool) : isN k (fop .sub k (k.format.word s k.format.infRung) (k.format.word s k.format.infRung)) = true := by
  cases k <;> cases s <;> decide +kernel
theorem self_nan {k : FloatKind} {x : Nat} (h : isN k x = true) : isN k (fop .sub k x x) = true := by
  unfold fop; rw [floatBits_nan_l h]; exact isN_qn k
end Fl
end Go.Proofs.Ytpjgodeabdcdcaa
