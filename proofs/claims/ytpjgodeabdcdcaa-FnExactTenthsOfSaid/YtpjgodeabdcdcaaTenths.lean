/- Tenths of decibels: a tighter bound of the logarithm, math.Floor, and the two walks. No condition but the number's range. -/
import Derived.Test.YtpjgodeabdcdcaaLog
namespace Go.Proofs.Ytpjgodeabdcdcaa
open Go.RowKit Fl Ieee
namespace Fl
theorem qL_bd2 {u : Nat} (hu : Bd 1025 u) : ∀ j, j ≤ 13 → Bd (1023 + 3 * j) (qL u j)
  | 0, _ => const_bd (Nat.zero_le _) (by omega) (by omega)
  | j + 1, h => by
    have ih := qL_bd2 hu j (by omega)
    unfold qL
    have h1 := quo_bd (c := 1023) one_bd (kL_lb j (by omega)) (by omega) (by omega) (by omega)
    have h2 := mul_bd (c := 1025 + 3 * j) hu ih (by omega) (by omega) (by omega)
    exact add_bd (c := 1023 + 3 * (j + 1)) h1 h2 (by omega) (by omega) (by omega)
theorem near_one {x : Nat} (h : x ≤ 4611686018427387904) : Bd 1023 (fop .sub .f64 x one64) := by
  have hx : x < double.infRung := by rw [I64]; omega
  have ho : one64 < double.infRung := by rw [I64]; decide
  obtain ⟨T, D, e, he⟩ := sub_words double false false hx ho
  rw [word_false, word_false] at e
  rw [fop_of (op := .sub) (k := .f64) e]
  refine bd_nearest0 _ (by omega) (by omega) ?_
  rw [he]
  obtain ⟨C, hC⟩ : ∃ C : Nat, C = 1023 := ⟨_, rfl⟩
  have h1 : mval double one64 = 2 ^ (51 + C) := by
    rw [← mval_pow (by omega)]; congr 1; rw [hC, B64]
  have h2 : mval double x ≤ 2 * 2 ^ (51 + C) := by
    have h3 : mval double x ≤ mval double ((C + 1) * double.binade) := mval_le (by rw [B64]; omega)
    rw [mval_pow (by omega)] at h3
    have : 2 ^ (51 + (C + 1)) = 2 * 2 ^ (51 + C) := by rw [← Nat.pow_succ']; rfl
    omega
  rw [h1, ← hC]
  generalize mval double x = v at *
  generalize 2 ^ (51 + C) = P at *
  unfold sv; simp; omega
theorem tailL_bd2 {x : Nat} {E : Int} (h1 : 4602678819172646912 ≤ x) (h2 : x ≤ 4611686018427387904) (hE : E.natAbs ≤ 1000) : Bd 1066 (tailL x E) := by
  have hx : Bd 1024 x := const_bd (by rw [B64]; omega) (by omega) (by omega)
  have hl : Lb 1022 x := lb_of (by rw [B64]; omega) (by omega) (by rw [I64]; omega)
  have ho : Nb 1024 one64 := const_nb (by rw [B64]; decide) (by omega) (by omega)
  have hsub := near_one h2
  obtain ⟨hadd, _⟩ := add_lb (c := 1025) hl hx ho (by omega) (by omega) (by omega)
  have hs : Bd 1024 (sL x) := quo_bd hsub hadd (by omega) (by omega) (by omega)
  have hu := mul_bd (c := 1025) hs hs (by omega) (by omega) (by omega)
  have hq := qL_bd2 hu 13 (by omega)
  have hsq := mul_bd (c := 1063) hs hq (by omega) (by omega) (by omega)
  have h2s := mul_bd (c := 1064) (const_bd (e := 1024) (c := two64) (by rw [B64]; decide) (by omega) (by omega)) hsq (by omega) (by omega) (by omega)
  obtain ⟨K, hK⟩ : ∃ K : Nat, K = 1074 := ⟨_, rfl⟩
  obtain ⟨r, hr, hv, e⟩ := ofInt_word hK E (by omega)
  have hEb : Bd 1033 (floatOfInt .f64 E) := by
    refine ⟨_, r, e, hr, ?_⟩
    rw [hv]
    have h3 : E.natAbs ≤ 2 ^ 10 := by omega
    obtain ⟨C, hC⟩ : ∃ C : Nat, C = 1033 := ⟨_, rfl⟩
    rw [← hC]
    refine Nat.le_trans (Nat.mul_le_mul_right _ h3) ?_
    rw [← Nat.pow_add]
    exact Nat.pow_le_pow_right (by omega) (by omega)
  have hEl := mul_bd (c := 1033) hEb (const_bd (e := 1023) (c := ln2) (by rw [B64]; decide) (by omega) (by omega)) (by omega) (by omega) (by omega)
  unfold tailL
  exact (add_bd (c := 1065) h2s hEl (by omega) (by omega) (by omega)).mono (by omega)
theorem log_bd2 {q : Nat} (h1 : 3936146074321813504 ≤ q) (h2 : q ≤ 5183643171103440896) : Bd 1066 (logF q) := by
  unfold logF
  refine tailL_bd2 ?_ ?_ ?_ <;> simp only [twiced, twices, halved, halves] <;> omega
/-- the tenths, ahead of the floor -/
def tenF (q : Nat) : Nat := fop .add .f64 (fop .mul .f64 (logF q) 4631308968768463603) half64
theorem mul_ten {q : Nat} (h1 : 3936146074321813504 ≤ q) (h2 : q ≤ 5183643171103440896) : Bd 1072 (fop .mul .f64 (logF q) 4631308968768463603) :=
  mul_bd (log_bd2 h1 h2) (const_bd (e := 1029) (by rw [B64]; decide) (by omega) (by omega)) (by omega) (by omega) (by omega)
theorem ten_bd {q : Nat} (h1 : 3936146074321813504 ≤ q) (h2 : q ≤ 5183643171103440896) : Bd 1073 (tenF q) :=
  add_bd (mul_ten h1 h2) half_bd (by omega) (by omega) (by omega)
/-- the floor of a number -/
def floorF (x : Nat) : Nat := double.write ((double.read x).integral .down)
theorem cut_down_le (neg : Bool) (n drop : Nat) : Toward.down.cut neg n drop ≤ n / 2 ^ drop + 1 := by
  unfold Toward.cut
  simp only [Nat.one_shiftLeft]
  by_cases h : drop ≤ n.log2 + 2
  · rw [Nat.min_eq_left h]
    have : ∀ b : Bool, b.toNat ≤ 1 := by intro b; cases b <;> simp
    exact Nat.add_le_add_left (this _) _
  · have hlt : n < 2 ^ (n.log2 + 1) := Nat.lt_log2_self
    rw [Nat.min_eq_right (by omega), Nat.div_eq_of_lt (Nat.lt_of_lt_of_le hlt (Nat.pow_le_pow_right (by omega) (by omega)))]
    have : ∀ b : Bool, b.toNat ≤ 1 := by intro b; cases b <;> simp
    exact Nat.le_trans (Nat.add_le_add_left (this _) _) (by rw [Nat.zero_add]; exact Nat.le_add_left ..)
theorem floor_bd {x : Nat} (h : Bd 1073 x) : Bd 1075 (floorF x) := by
  obtain ⟨s, r, rfl, hr, hv⟩ := h
  obtain ⟨m, d, e1, e2, _, _⟩ := read_num double s hr
  obtain ⟨K, hK⟩ : ∃ K : Nat, K = 1074 := ⟨_, rfl⟩
  obtain ⟨C, hC⟩ : ∃ C : Nat, C = 1073 := ⟨_, rfl⟩
  have hC2 : (1075 : Nat) = C + 2 := by omega
  rw [← hC] at hv
  rw [hC2]
  have hP : double.leastPlace = -(K : Int) := by rw [P64, hK]; rfl
  unfold floorF
  rw [e1]
  simp only [Datum.integral, Format.write]
  have e0 : (0 : Int) = double.leastPlace + (K : Int) := by rw [hP]; omega
  conv => rw [e0]
  refine bd_nearest0 s (by omega) (by omega) ?_
  refine Nat.le_trans (Nat.mul_le_mul_right _ (cut_down_le ..)) ?_
  have key : (m <<< (double.leastPlace + (d : Int)).toNat) / 2 ^ (-(double.leastPlace + (d : Int))).toNat * 2 ^ K ≤ m * 2 ^ d := by
    rw [hP, Nat.shiftLeft_eq]
    by_cases h : K ≤ d
    · have h1 : (-(K : Int) + d).toNat = d - K := by omega
      have h2 : (-(-(K : Int) + d)).toNat = 0 := by omega
      rw [h1, h2, Nat.pow_zero, Nat.div_one, Nat.mul_assoc, ← Nat.pow_add]
      exact Nat.le_of_eq (by congr 2; omega)
    · have h1 : (-(K : Int) + d).toNat = 0 := by omega
      have h2 : (-(-(K : Int) + d)).toNat = K - d := by omega
      rw [h1, h2, Nat.pow_zero, Nat.mul_one]
      have : 2 ^ K = 2 ^ (K - d) * 2 ^ d := by rw [← Nat.pow_add]; congr 1; omega
      rw [this, ← Nat.mul_assoc]
      exact Nat.mul_le_mul_right _ (Nat.div_mul_le_self _ _)
  rw [Nat.add_mul, Nat.one_mul]
  have h3 : 2 ^ K ≤ 2 ^ (51 + C) := Nat.pow_le_pow_right (by omega) (by omega)
  have h4 : 2 ^ (51 + (C + 2)) = 4 * 2 ^ (51 + C) := by rw [show 51 + (C + 2) = 51 + C + 1 + 1 by omega, Nat.pow_succ, Nat.pow_succ]; omega
  rw [e2] at key
  omega
theorem bd_int {x : Nat} (h : Bd 1075 x) : ∃ n, floatToIntVal .f64 x .i64 = some n := by
  obtain ⟨s, r, rfl, hr, hv⟩ := h
  obtain ⟨K, hK⟩ : ∃ K : Nat, K = 1074 := ⟨_, rfl⟩
  obtain ⟨C, hC⟩ : ∃ C : Nat, C = 1075 := ⟨_, rfl⟩
  rw [← hC] at hv
  refine ⟨_, toIntVal_word hK s hr ?_⟩
  rw [Nat.div_lt_iff_lt_mul (Nat.two_pow_pos K)]
  refine Nat.lt_of_le_of_lt hv ?_
  have : (9223372036854775808 : Nat) = 2 ^ 63 := by decide
  rw [this, ← Nat.pow_add]
  exact Nat.pow_lt_pow_right (by omega) (by omega)
end Fl
theorem ext_floor (x : Nat) (hn : isN .f64 x = false) (w : World) : (callFunc 67 #[.float .f64 x]).run Try.prog w = .ok (.value (.float .f64 (floorF x))) w := by
  refine (run_callFunc_extern Try.func67 (by kernel_rfl) (by kernel_rfl) (by kernel_rfl) (e := Extern.MathFloor.toIntegral "math.archFloor" .down) (by kernel_rfl) _ _).trans ?_
  have hf : Extern.MathFloor.toIntegral "math.archFloor" .down #[.float .f64 x] = (match FloatKind.f64.decode x with
    | .nan s t =>
      if FloatKind.f64.format.quiet t = t then pure (.float .f64 x) else do
      let kept ← choose (.extern "math.Floor,Ceil,Trunc,RoundToEven.signallingNaN kept" 2)
      pure (.float .f64 (if kept == 1 then x else FloatKind.f64.encode (.nan s (FloatKind.f64.format.quiet t))))
    | d => pure (.float .f64 (FloatKind.f64.encode (d.integral .down)))) := rfl
  rw [hf]
  unfold floorF
  unfold isN at hn
  cases h : FloatKind.f64.decode x with
  | nan s t => rw [h] at hn; cases hn
  | infinity s =>
    have h' : double.read x = .infinity s := h
    rw [h']; rfl
  | number s m i =>
    have h' : double.read x = .number s m i := h
    rw [h']; rfl
theorem Floor_any (x : Nat) (hn : isN .f64 x = false) (w : World) : Calls Try.prog 52 #[.float .f64 x] w fun e w' => e = .returned (.float .f64 (floorF x)) ∧ w = w' := by
  have he := fun w => ext_floor x hn w
  go_enter Try.func52, Try.ntmps52
  go_wp2
  go_ret
  exact ⟨rfl, rfl⟩
end Go.Proofs.Ytpjgodeabdcdcaa
