/- The natural logarithm in 64 bits: a pure form, its bound, and that the program's and the reference's walks compute it. No condition but the number's range. -/
import Derived.Test.YtpjgodeabdcdcaaRange
import Derived.Test.YtpjgodeabdcdcaaChecked
namespace Go.Proofs.Ytpjgodeabdcdcaa
open Go.RowKit Fl Ieee
namespace Fl
abbrev two64 : Nat := 4611686018427387904
abbrev ln2 : Nat := 4604418534313441775
theorem geq_nat {x c : Nat} (hx : x < 9218868437227405312) (hc : c < 9218868437227405312) : (FloatKind.f64.format.order x c == some .gt || FloatKind.f64.format.order x c == some .eq) = decide (c ≤ x) := by
  have h := geq_words false false (r := x) (q := c) (by rw [I64]; exact hx) (by rw [I64]; exact hc)
  rw [word_false, word_false] at h
  rw [h]
  unfold sv
  simp only [Bool.false_eq_true, ↓reduceIte, decide_eq_decide]
  exact ⟨fun h => le_of_mval (f := double) (Int.ofNat_le.1 h), fun h => Int.ofNat_le.2 (mval_le h)⟩
theorem lt_nat {x c : Nat} (hx : x < 9218868437227405312) (hc : c < 9218868437227405312) : (FloatKind.f64.format.order x c == some .lt) = decide (x < c) := by
  have h := order_words double false false (r := x) (q := c) (by rw [I64]; exact hx) (by rw [I64]; exact hc)
  rw [word_false, word_false] at h
  rw [fmt64, h, Bool.eq_iff_iff]
  unfold sv
  simp only [Bool.false_eq_true, ↓reduceIte, beq_iff_eq, Option.some.injEq, cmp_lt, decide_eq_true_eq]
  constructor
  · intro h
    rcases Nat.lt_or_ge x c with g | g
    · exact g
    · have := mval_le (f := double) g; omega
  · intro h; exact Int.ofNat_lt.2 (mval_lt h)

theorem mval_up {q : Nat} (h : 4503599627370496 ≤ q) : mval double (q + 4503599627370496) = 2 * mval double q := by
  unfold mval
  rw [B64, if_neg (by omega), if_neg (by omega)]
  have h1 : (q + 4503599627370496) % 4503599627370496 = q % 4503599627370496 := by omega
  have h2 : (q + 4503599627370496) / 4503599627370496 - 1 = (q / 4503599627370496 - 1) + 1 := by omega
  rw [h1, h2, Nat.pow_succ]
  generalize 2 ^ (q / 4503599627370496 - 1) = P
  generalize 4503599627370496 + q % 4503599627370496 = M
  rw [← Nat.mul_assoc, Nat.mul_comm]
theorem two_val {K : Nat} (hK : K = 1074) : mval double 4611686018427387904 = 2 * 2 ^ K := by subst hK; decide +kernel
/-- doubling is exact -/
theorem twice_word {q : Nat} (h : 4503599627370496 ≤ q) (h2 : q + 4503599627370496 < 9218868437227405312) : floatBits .mul .f64 q 4611686018427387904 = some (q + 4503599627370496) := by
  obtain ⟨K, hK⟩ : ∃ K : Nat, K = 1074 := ⟨_, rfl⟩
  obtain ⟨T, D, e, he⟩ := mul_words double false false (r := q) (q := 4611686018427387904) (b := K) (by rw [hK]; exact least64) (by rw [I64]; omega) (by rw [I64]; omega)
  rw [word_false, word_false] at e
  have e' : floatBits .mul .f64 q 4611686018427387904 = double.mul q 4611686018427387904 := rfl
  rw [e', e]
  have := nearest_exact double (false ^^ false) (m := T) (d := D) (b := K) (r := q + 4503599627370496) (by rw [he, mval_up h, two_val hK]; generalize mval double q = v; generalize 2 ^ K = P; rw [Nat.mul_comm 2 v, Nat.mul_assoc]) (by rw [I64]; exact h2)
  rw [this]; exact congrArg some (word_false _)
theorem two_read : double.read 4611686018427387904 = .number false 4503599627370496 (-51) := by decide +kernel
/-- halving is exact -/
theorem half_word {q : Nat} (h : 2 * 4503599627370496 ≤ q) (h2 : q < 9218868437227405312) : floatBits .quo .f64 q 4611686018427387904 = some (q - 4503599627370496) := by
  have hq : q < double.infRung := by rw [I64]; exact h2
  obtain ⟨m, d, e1, e2, hm, hd⟩ := read_num double false hq
  rw [word_false] at e1
  rw [B64] at hm hd
  have hmB : 4503599627370496 ≤ m := by
    rcases hd with rfl | g
    · rw [Nat.pow_zero, Nat.mul_one] at e2
      have h1 : mval double 4503599627370496 ≤ mval double q := mval_le (by omega)
      have h3 : mval double 4503599627370496 = 4503599627370496 := by decide +kernel
      omega
    · exact g
  have hl : m.log2 = 52 := by
    have h0 : m ≠ 0 := by omega
    have a := (Nat.le_log2 h0 (k := 52)).2 (by omega)
    have b := (Nat.log2_lt h0 (k := 53)).2 (by omega)
    omega
  have e' : floatBits .quo .f64 q 4611686018427387904 = double.div q 4611686018427387904 := rfl
  rw [e']
  unfold Format.div
  rw [e1, two_read]
  have hfb : double.fractionBits = 52 := rfl
  have hl2 : Nat.log2 4503599627370496 = 52 := by decide +kernel
  simp only [Datum.quotient, if_neg (show ¬ (4503599627370496 : Nat) = 0 by omega), hl, hl2, hfb, Option.map_some, Format.write, Nat.shiftLeft_eq]
  have hdiv : m * 2 ^ (52 + 2 + 52 - 52) / 4503599627370496 = 4 * m := by
    have : m * 2 ^ (52 + 2 + 52 - 52) = 4 * m * 4503599627370496 := by
      have : (2 : Nat) ^ (52 + 2 + 52 - 52) = 4 * 4503599627370496 := by decide
      rw [this]; omega
    rw [this, Nat.mul_div_cancel _ (by omega)]
  have hmod : m * 2 ^ (52 + 2 + 52 - 52) % 4503599627370496 = 0 := by
    have : m * 2 ^ (52 + 2 + 52 - 52) = 4 * m * 4503599627370496 := by
      have : (2 : Nat) ^ (52 + 2 + 52 - 52) = 4 * 4503599627370496 := by decide
      rw [this]; omega
    rw [this, Nat.mul_mod_left]
  rw [hdiv, hmod]
  have hz : ((0 : Nat) != 0).toNat = 0 := rfl
  rw [hz, Nat.add_zero]
  have hval : 2 * mval double (q - 4503599627370496) = mval double q := by
    have := mval_up (q := q - 4503599627370496) (by omega)
    rw [show q - 4503599627370496 + 4503599627370496 = q by omega] at this
    omega
  have := nearest_exact double (false ^^ false) (m := 2 * (4 * m)) (d := d) (b := 4) (r := q - 4503599627370496) (by
    have : 2 * (4 * m) * 2 ^ d = 8 * (m * 2 ^ d) := by rw [← Nat.mul_assoc, Nat.mul_assoc]
    rw [this, e2, ← hval]; omega) (by rw [I64]; omega)
  have e3 : (double.leastPlace + (d : Int) - -51 - ((52 + 2 + 52 - 52 : Nat) : Int) - 1) = double.leastPlace + (d : Int) - ((4 : Nat) : Int) := by omega
  rw [e3, this]; exact congrArg some (word_false _)

/-! ### the pure form -/
/-- how often it is halved, and what comes of it; how often that is doubled -/
def halves (q : Nat) : Nat := (q + 4503599627370496 - 4609434218613702656) / 4503599627370496
def halved (q : Nat) : Nat := q - halves q * 4503599627370496
def twices (x : Nat) : Nat := (4604930618986332160 + 4503599627370495 - x) / 4503599627370496
def twiced (x : Nat) : Nat := x + twices x * 4503599627370496
def kL (j : Nat) : Nat := floatOfInt .f64 (25 - 2 * j)
def qL (u : Nat) : Nat → Nat
  | 0 => 0
  | j + 1 => fop .add .f64 (fop .quo .f64 one64 (kL j)) (fop .mul .f64 u (qL u j))
def sL (x : Nat) : Nat := fop .quo .f64 (fop .sub .f64 x one64) (fop .add .f64 x one64)
def tailL (x : Nat) (E : Int) : Nat := fop .add .f64 (fop .mul .f64 two64 (fop .mul .f64 (sL x) (qL (fop .mul .f64 (sL x) (sL x)) 13))) (fop .mul .f64 (floatOfInt .f64 E) ln2)
def logF (q : Nat) : Nat := tailL (twiced (halved q)) ((halves q : Int) - (twices (halved q) : Int))

theorem inc_int {z : Int} (h1 : -200 ≤ z) (h2 : z ≤ 200) : floatBits .add .f64 (floatOfInt .f64 z) one64 = some (floatOfInt .f64 (z + 1)) := by
  have h : ∀ i : Fin 401, floatBits .add .f64 (floatOfInt .f64 ((i.val : Int) - 200)) one64 = some (floatOfInt .f64 ((i.val : Int) - 200 + 1)) := by decide +kernel
  have := h ⟨(z + 200).toNat, by omega⟩
  have e : (((z + 200).toNat : Nat) : Int) - 200 = z := by omega
  simp only [e] at this; exact this
theorem dec_int {z : Int} (h1 : -200 ≤ z) (h2 : z ≤ 200) : floatBits .sub .f64 (floatOfInt .f64 z) one64 = some (floatOfInt .f64 (z - 1)) := by
  have h : ∀ i : Fin 401, floatBits .sub .f64 (floatOfInt .f64 ((i.val : Int) - 200)) one64 = some (floatOfInt .f64 ((i.val : Int) - 200 - 1)) := by decide +kernel
  have := h ⟨(z + 200).toNat, by omega⟩
  have e : (((z + 200).toNat : Nat) : Int) - 200 = z := by omega
  simp only [e] at this; exact this
theorem kL_dec : ∀ j, j < 13 → floatBits .sub .f64 (kL j) two64 = some (kL (j + 1)) := by
  have h : ∀ j : Fin 13, floatBits .sub .f64 (kL j.val) two64 = some (kL (j.val + 1)) := by decide +kernel
  intro j hj; exact h ⟨j, hj⟩
theorem kL_on : ∀ j, j < 13 → (FloatKind.f64.format.order (kL j) one64 == some .gt || FloatKind.f64.format.order (kL j) one64 == some .eq) = true := by
  have h : ∀ j : Fin 13, (FloatKind.f64.format.order (kL j.val) one64 == some .gt || FloatKind.f64.format.order (kL j.val) one64 == some .eq) = true := by decide +kernel
  intro j hj; exact h ⟨j, hj⟩
theorem kL_off : (FloatKind.f64.format.order (kL 13) one64 == some .gt || FloatKind.f64.format.order (kL 13) one64 == some .eq) = false := by decide +kernel
/-- falling with the rounds: the last one is below zero -/
def fall (b : Nat) : Nat := if b < 9223372036854775808 then b + 1 else 0
theorem kL_fall : ∀ j, j < 13 → fall (kL (j + 1)) < fall (kL j) := by
  have h : ∀ j : Fin 13, fall (kL (j.val + 1)) < fall (kL j.val) := by decide +kernel
  intro j hj; exact h ⟨j, hj⟩
theorem kL_zero : 4627730092099895296 = kL 0 := by decide +kernel
theorem kL_lb : ∀ j, j < 13 → Lb 1023 (kL j) := by
  have h : ∀ j : Fin 13, kL j.val < double.infRung ∧ 1023 * double.binade ≤ kL j.val := by decide +kernel
  intro j hj
  obtain ⟨h1, h2⟩ := h ⟨j, hj⟩
  exact lb_of h2 (by omega) h1

theorem qL_bd {u : Nat} (hu : Bd 1029 u) : ∀ j, j ≤ 13 → Bd (1023 + 7 * j) (qL u j)
  | 0, _ => const_bd (Nat.zero_le _) (by omega) (by omega)
  | j + 1, h => by
    have ih := qL_bd hu j (by omega)
    unfold qL
    have h1 := quo_bd (c := 1023) one_bd (kL_lb j (by omega)) (by omega) (by omega) (by omega)
    have h2 := mul_bd (c := 1029 + 7 * j) hu ih (by omega) (by omega) (by omega)
    exact add_bd (c := 1023 + 7 * (j + 1)) h1 h2 (by omega) (by omega) (by omega)
theorem const_nb {e c : Nat} (h : c ≤ e * double.binade) (h1 : 1 ≤ e) (h2 : e ≤ 2046) : Nb e c := by
  refine ⟨c, (word_false _).symm, Nat.lt_of_le_of_lt h (pow_rung_lt h2), ?_⟩
  rw [← mval_pow h1]; exact mval_le h
theorem tailL_bd {x : Nat} {E : Int} (h1 : 4602678819172646912 ≤ x) (h2 : x ≤ 4611686018427387904) (hE : E.natAbs ≤ 1000) : Bd 1149 (tailL x E) := by
  have hB := B64
  have hx : Bd 1024 x := const_bd (by rw [B64]; omega) (by omega) (by omega)
  have hl : Lb 1022 x := lb_of (by rw [B64]; omega) (by omega) (by rw [I64]; omega)
  have ho : Nb 1024 one64 := const_nb (by rw [B64]; decide) (by omega) (by omega)
  have hsub := sub_bd (c := 1025) hx one_bd (by omega) (by omega) (by omega)
  obtain ⟨hadd, _⟩ := add_lb (c := 1025) hl hx ho (by omega) (by omega) (by omega)
  have hs : Bd 1026 (sL x) := quo_bd hsub hadd (by omega) (by omega) (by omega)
  have hu := mul_bd (c := 1029) hs hs (by omega) (by omega) (by omega)
  have hq := qL_bd hu 13 (by omega)
  have hsq := mul_bd (c := 1117) hs hq (by omega) (by omega) (by omega)
  have h2s := mul_bd (c := 1118) (const_bd (e := 1024) (c := two64) (by rw [B64]; decide) (by omega) (by omega)) hsq (by omega) (by omega) (by omega)
  obtain ⟨K, hK⟩ : ∃ K : Nat, K = 1074 := ⟨_, rfl⟩
  obtain ⟨r, hr, hv, e⟩ := ofInt_word hK E (by omega)
  have hEb : Bd 1033 (floatOfInt .f64 E) := by
    refine ⟨_, r, e, hr, ?_⟩
    rw [hv]
    have h3 : E.natAbs ≤ 2 ^ 10 := by omega
    obtain ⟨C, hC⟩ : ∃ C : Nat, C = 1033 := ⟨_, rfl⟩
    rw [← hC]
    refine Nat.le_trans (Nat.mul_le_mul_right _ h3) ?_
    rw [← Nat.pow_add]
    exact Nat.pow_le_pow_right (by omega) (by omega)
  have hEl := mul_bd (c := 1033) hEb (const_bd (e := 1023) (c := ln2) (by rw [B64]; decide) (by omega) (by omega)) (by omega) (by omega) (by omega)
  unfold tailL
  exact (add_bd (c := 1119) h2s hEl (by omega) (by omega) (by omega)).mono (by omega)
theorem log_bd {q : Nat} (h1 : 3936146074321813504 ≤ q) (h2 : q ≤ 5183643171103440896) : Bd 1149 (logF q) := by
  unfold logF
  refine tailL_bd ?_ ?_ ?_ <;> simp only [twiced, twices, halved, halves] <;> omega
def rankL : Value → Nat
  | .float _ b => b
  | _ => 0
theorem rankL_float (k : FloatKind) (b : Nat) : rankL (.float k b) = b := rfl
def fallL : Value → Nat
  | .float _ b => fall b
  | _ => 0
end Fl

set_option maxHeartbeats 1000000 in
set_option maxRecDepth 100000 in
theorem naturalLog_any (y : Nat) (h1 : 3936146074321813504 ≤ y) (h2 : y ≤ 5183643171103440896) (w : World) : Calls Try.prog 40 #[.float .f64 y] w fun e w' => ∃ r, e = .returned (.float .f64 r) ∧ Sim .f64 r (logF y) ∧ ∃ n, w' = w.drewN n := by
  have HY1 := Lib.hid h1
  have HY2 := Lib.hid h2
  clear h1 h2
  have HP := Lib.hid (show logF y = tailL (twiced (halved y)) ((halves y : Int) - (twices (halved y) : Int)) from rfl)
  generalize logF y = P at *
  go_enter Try.func40, Try.ntmps40
  go_wp2
  go_loopw [0, 3] (fun v0 v3 w' => ∃ (x j : Nat) (e : Nat), v0 = .float .f64 x ∧ v3 = .float .f64 e ∧ RowKit.Hid (x + j * 4503599627370496 = y ∧ (j = 0 ∨ 4609434218613702656 ≤ x + 4503599627370496)) ∧ RowKit.Hid (e = floatOfInt .f64 (j : Int)) ∧ RowKit.Hid (∃ c, w' = w.drewN c)) (fun v0 _ _ => rankL v0)
  case atStart => exact ⟨y, 0, _, rfl, rfl, ⟨by omega, .inl rfl⟩, (by decide +kernel : _ = _), (show ∃ c, _ = w.drewN c from ⟨0, rfl⟩)⟩
  case round =>
    obtain ⟨x, j, e, rfl, rfl, HX, HE, HW⟩ := hrel
    by_cases hx : 4609434218613702656 ≤ x
    · have hlim : x < 9218868437227405312 := by have := HX.out.1; have := HY2.out; omega
      have hj : j ≤ 150 := by have := HX.out.1; have := HY2.out; omega
      have gx : (FloatKind.f64.format.order x 4609434218613702656 == some .gt || FloatKind.f64.format.order x 4609434218613702656 == some .eq) = true := by rw [geq_nat hlim (by omega)]; exact decide_eq_true hx
      obtain ⟨x', hx'⟩ : ∃ x', x' + 4503599627370496 = x := ⟨x - 4503599627370496, by omega⟩
      have hh : ∀ w, fres .quo .f64 x 4611686018427387904 w = x' := fun w => fres_some w ((half_word (by omega) hlim).trans (congrArg some (by omega)))
      have HXN := Lib.hid hx'
      clear hx'
      have he : ∀ w, fres .add .f64 e 4607182418800017408 w = floatOfInt .f64 ((j : Int) + 1) := fun w => fres_some w (by rw [HE.out]; exact inc_int (by omega) (by omega))
      have HXX := Lib.hid hx
      clear hx hlim
      go_wp2
      go_roundw
      case rel => exact ⟨_, j + 1, _, rfl, rfl, (show _ ∧ _ from ⟨by have := HX.out.1; have := HXX.out; have := HXN.out; omega, .inr (by have := HXX.out; have := HXN.out; omega)⟩), (congrArg (floatOfInt .f64) (by omega) : _ = _), (by obtain ⟨c, h⟩ := HW.out; exact ⟨_, by rw [h]; simp only [World.drewN_drewN]; rfl⟩)⟩
      case measure => have := HXX.out; have := HXN.out; simp only [rankL_float]; omega
    · have hlim : x < 9218868437227405312 := by have := HX.out.1; have := HY2.out; omega
      have gx : (FloatKind.f64.format.order x 4609434218613702656 == some .gt || FloatKind.f64.format.order x 4609434218613702656 == some .eq) = false := by rw [geq_nat hlim (by omega)]; exact decide_eq_false hx
      have HH : RowKit.Hid (halves y = j ∧ halved y = x) := by
        have := HX.out
        refine (show _ ∧ _ from ?_)
        unfold halved halves; omega
      have HR : RowKit.Hid (3936146074321813504 ≤ x ∧ j ≤ 150) := (show _ ∧ _ from by have := HX.out; have := HY1.out; have := HY2.out; omega)
      have HLIM := Lib.hid hlim
      have HXX := Lib.hid hx
      clear hx hlim HX
      go_wp2
      go_loopw [0, 3] (fun v0 v3 w' => ∃ (z i : Nat) (e : Nat), v0 = .float .f64 z ∧ v3 = .float .f64 e ∧ RowKit.Hid (z = x + i * 4503599627370496 ∧ (i = 0 ∨ z < 4604930618986332160 + 4503599627370496)) ∧ RowKit.Hid (e = floatOfInt .f64 ((j : Int) - i)) ∧ RowKit.Hid (∃ c, w' = w.drewN c)) (fun v0 _ _ => 9218868437227405312 - rankL v0)
      case atStart => exact ⟨x, 0, _, rfl, rfl, ⟨by omega, .inl rfl⟩, (by rw [HE.out]; exact congrArg _ (by omega)), HW⟩
      case round =>
        obtain ⟨z, i, d, rfl, rfl, HZ, HD, HV⟩ := hrel
        by_cases hz : z < 4604930618986332160
        · have hi : i ≤ 160 := by have := HZ.out.1; have := HR.out.1; omega
          have gz : (FloatKind.f64.format.order z 4604930618986332160 == some .lt) = true := by rw [lt_nat (by omega) (by omega)]; exact decide_eq_true hz
          obtain ⟨z', hz'⟩ : ∃ z', z' = z + 4503599627370496 := ⟨_, rfl⟩
          have hh : ∀ w, fres .mul .f64 z 4611686018427387904 w = z' := fun w => fres_some w ((twice_word (by have := HZ.out.1; have := HR.out.1; omega) (by omega)).trans (congrArg some (by omega)))
          have HZN := Lib.hid hz'
          clear hz'
          have he : ∀ w, fres .sub .f64 d 4607182418800017408 w = floatOfInt .f64 ((j : Int) - i - 1) := fun w => fres_some w (by rw [HD.out]; exact dec_int (by have := HR.out.2; omega) (by have := HR.out.2; omega))
          have HZZ := Lib.hid hz
          clear hz
          go_wp2
          go_roundw
          case rel => exact ⟨_, i + 1, _, rfl, rfl, (show _ ∧ _ from ⟨by have := HZ.out.1; have := HZN.out; omega, .inr (by have := HZZ.out; have := HZN.out; omega)⟩), (congrArg (floatOfInt .f64) (by omega) : _ = _), (by obtain ⟨c, h⟩ := HV.out; exact ⟨_, by rw [h]; simp only [World.drewN_drewN]; rfl⟩)⟩
          case measure => have := HZZ.out; have := HZN.out; simp only [rankL_float]; omega
        · have hzl : z < 9218868437227405312 := by have := HZ.out; have := HLIM.out; omega
          have gz : (FloatKind.f64.format.order z 4604930618986332160 == some .lt) = false := by rw [lt_nat hzl (by omega)]; exact decide_eq_false hz
          have HT : RowKit.Hid (twices x = i ∧ twiced x = z) := by
            have := HZ.out
            refine (show _ ∧ _ from ?_)
            unfold twiced twices; omega
          have HFIN : RowKit.Hid (P = tailL z ((j : Int) - (i : Int))) := by rw [HP.out, HH.out.1, HH.out.2, HT.out.1, HT.out.2]; rfl
          have HIB : RowKit.Hid (i ≤ 160) := (show _ ≤ _ from by have := HZ.out.1; have := HR.out.1; have := HZ.out; omega)
          clear hz hzl HZ
          go_wp2
          generalize hs : fres .quo .f64 _ _ _ = s
          have HS : RowKit.Hid (Sim .f64 s (sL z)) := by rw [← hs]; exact fres_of _ (fres_sim ..) (fres_sim ..)
          clear hs
          generalize hu : fres .mul .f64 s s _ = u
          have HU : RowKit.Hid (Sim .f64 u (fop .mul .f64 (sL z) (sL z))) := by rw [← hu]; exact fres_of _ HS.out HS.out
          clear hu
          go_loopw [6, 7] (fun v6 v7 w' => ∃ (q k m : Nat), v6 = .float .f64 q ∧ v7 = .float .f64 k ∧ RowKit.Hid (m ≤ 13) ∧ RowKit.Hid (k = kL m) ∧ RowKit.Hid (Sim .f64 q (qL (fop .mul .f64 (sL z) (sL z)) m)) ∧ RowKit.Hid (∃ c, w' = w.drewN c)) (fun _ v7 _ => fallL v7)
          case atStart => exact ⟨0, 4627730092099895296, 0, rfl, rfl, Nat.zero_le 13, kL_zero, Sim.refl .f64 _, (by obtain ⟨c, h⟩ := HV.out; exact ⟨_, by rw [h]; simp only [World.drewN_drewN]; rfl⟩)⟩
          case round =>
            obtain ⟨q, k, m, rfl, rfl, HM, HK, HQ, HW2⟩ := hrel
            by_cases hm : m < 13
            · have gk : (FloatKind.f64.format.order k 4607182418800017408 == some .gt || FloatKind.f64.format.order k 4607182418800017408 == some .eq) = true := by rw [HK.out]; exact kL_on m hm
              have HMM := Lib.hid hm
              clear hm
              go_wp2
              go_roundw
              case rel =>
                refine ⟨_, _, m + 1, rfl, rfl, HMM.out, ?_, ?_, ?_⟩
                · exact fres_some _ (by rw [HK.out]; exact kL_dec m HMM.out)
                · show Sim .f64 _ (fop .add .f64 (fop .quo .f64 one64 (kL m)) (fop .mul .f64 (fop .mul .f64 (sL z) (sL z)) (qL (fop .mul .f64 (sL z) (sL z)) m)))
                  rw [← HK.out]
                  exact fres_of _ (fres_sim ..) (fres_of _ HU.out HQ.out)
                · obtain ⟨c, h⟩ := HW2.out; exact ⟨_, by rw [h]; simp only [World.drewN_drewN]; rfl⟩
              case measure =>
                show fall (fres .sub .f64 k two64 _) < fall k
                rw [fres_some _ (by rw [HK.out]; exact kL_dec m HMM.out), HK.out]
                exact kL_fall m HMM.out
            · obtain rfl : m = 13 := by have := HM.out; omega
              have gk : (FloatKind.f64.format.order k 4607182418800017408 == some .gt || FloatKind.f64.format.order k 4607182418800017408 == some .eq) = false := by rw [HK.out]; exact kL_off
              clear hm
              go_wp2
              go_ret
              refine ⟨_, rfl, ?_, by obtain ⟨c, h⟩ := HW2.out; exact ⟨_, by rw [h]; simp only [World.drewN_drewN]; rfl⟩⟩
              rw [HFIN.out]
              unfold tailL
              rw [← HD.out]
              exact fres_of _ (fres_of _ (Sim.refl ..) (fres_of _ HS.out HQ.out)) (fres_sim ..)
theorem IsInf_any (x : Nat) (w : World) : Calls Try.prog 72 #[.float .f64 x, .int .i64 1] w fun e w' => e = .returned (.bool (FloatKind.f64.format.order x 9218868437227405311 == some .gt)) ∧ w = w' := by
  go_enter Try.func72, Try.ntmps72
  go_wp2
  go_ret
  exact ⟨rfl, rfl⟩
set_option maxHeartbeats 1000000 in
set_option maxRecDepth 100000 in
theorem l01Log_yes (y : Nat) (h1 : 3936146074321813504 ≤ y) (h2 : y ≤ 5183643171103440896) (w : World) : Calls Try.prog 65 #[.float .f64 y] w fun e w' => ∃ r, e = .returned (.float .f64 r) ∧ Sim .f64 r (logF y) ∧ ∃ n, w' = w.drewN n := by
  have HY1 := Lib.hid h1
  have HY2 := Lib.hid h2
  have gn : (FloatKind.f64.format.order y y != some .eq) = false := by
    have := order_self (k := .f64) (x := y) (by have := isN_word .f64 false (r := y) (by rw [fmt64, I64]; omega); rw [fmt64, word_false] at this; exact this)
    rw [this]; rfl
  have gl : (FloatKind.f64.format.order y 0 == some .lt) = false := by rw [lt_nat (by omega) (by omega)]; exact decide_eq_false (by omega)
  have ge : (FloatKind.f64.format.order y 0 == some .eq) = false := by
    have h3 := geq_nat (x := 0) (c := y) (by omega) (by omega)
    have h4 := lt_nat (x := y) (c := 0) (by omega) (by omega)
    have h5 := geq_nat (x := y) (c := 0) (by omega) (by omega)
    have h6 := lt_nat (x := 0) (c := y) (by omega) (by omega)
    have h7 := order_words double false false (r := y) (q := 0) (by rw [I64]; omega) (by rw [I64]; omega)
    rw [word_false, word_false] at h7
    rw [fmt64, h7, beq_eq_false_iff_ne]
    intro h8
    rw [Option.some.injEq, cmp_eq] at h8
    unfold sv at h8
    simp only [Bool.false_eq_true, ↓reduceIte] at h8
    have := mval_inj (f := double) (Int.ofNat_inj.1 h8)
    omega
  have gi : (FloatKind.f64.format.order y 9218868437227405311 == some .gt) = false := by
    have h3 := leq_words false false (r := y) (q := 9218868437227405311) (by rw [I64]; omega) (by rw [I64]; omega)
    rw [word_false, word_false] at h3
    cases ho : FloatKind.f64.format.order y 9218868437227405311 with
    | none => rfl
    | some o =>
      cases o with
      | gt =>
        exfalso
        rw [ho] at h3
        have h4 : sv false (mval double y) ≤ sv false (mval double 9218868437227405311) := by
          unfold sv; simp only [Bool.false_eq_true, ↓reduceIte]; exact Int.ofNat_le.2 (mval_le (by omega))
        rw [decide_eq_true h4] at h3
        cases h3
      | lt => rfl
      | eq => rfl
  clear h1 h2
  have HP := Lib.hid (show logF y = tailL (twiced (halved y)) ((halves y : Int) - (twices (halved y) : Int)) from rfl)
  generalize logF y = P at *
  go_enter Try.func65, Try.ntmps65
  go_wp2_with (go_at_call 72; refine (IsInf_any _ _).mono ?_; rintro e w' ⟨rfl, rfl⟩)
  go_loopw [0, 3] (fun v0 v3 w' => ∃ (x j : Nat) (e : Int), v0 = .float .f64 x ∧ v3 = .int .i64 e ∧ RowKit.Hid (x + j * 4503599627370496 = y ∧ (j = 0 ∨ 4609434218613702656 ≤ x + 4503599627370496)) ∧ RowKit.Hid (e = (j : Int)) ∧ RowKit.Hid (∃ c, w' = w.drewN c)) (fun v0 _ _ => rankL v0)
  case atStart => exact ⟨y, 0, _, rfl, rfl, ⟨by omega, .inl rfl⟩, (show (0 : Int) = ((0 : Nat) : Int) from rfl), (show ∃ c, _ = w.drewN c from ⟨0, rfl⟩)⟩
  case round =>
    obtain ⟨x, j, e, rfl, rfl, HX, HE, HW⟩ := hrel
    by_cases hx : 4609434218613702656 ≤ x
    · have hlim : x < 9218868437227405312 := by have := HX.out.1; have := HY2.out; omega
      have hj : j ≤ 150 := by have := HX.out.1; have := HY2.out; omega
      have gx : (FloatKind.f64.format.order x 4609434218613702656 == some .gt || FloatKind.f64.format.order x 4609434218613702656 == some .eq) = true := by rw [geq_nat hlim (by omega)]; exact decide_eq_true hx
      obtain ⟨x', hx'⟩ : ∃ x', x' + 4503599627370496 = x := ⟨x - 4503599627370496, by omega⟩
      have hh : ∀ w, fres .quo .f64 x 4611686018427387904 w = x' := fun w => fres_some w ((half_word (by omega) hlim).trans (congrArg some (by omega)))
      have HXN := Lib.hid hx'
      clear hx'
      have he1 : -200 ≤ e := by have := HE.out; omega
      have he2 : e ≤ 200 := by have := HE.out; omega
      have HXX := Lib.hid hx
      clear hx hlim
      go_wp2
      go_roundw
      case rel => exact ⟨_, j + 1, _, rfl, rfl, (show _ ∧ _ from ⟨by have := HX.out.1; have := HXX.out; have := HXN.out; omega, .inr (by have := HXX.out; have := HXN.out; omega)⟩), (show _ = (((j + 1 : Nat) : Int)) by rw [HE.out]; omega), (by obtain ⟨c, h⟩ := HW.out; exact ⟨_, by rw [h]; simp only [World.drewN_drewN]; rfl⟩)⟩
      case measure => have := HXX.out; have := HXN.out; simp only [rankL_float]; omega
    · have hlim : x < 9218868437227405312 := by have := HX.out.1; have := HY2.out; omega
      have gx : (FloatKind.f64.format.order x 4609434218613702656 == some .gt || FloatKind.f64.format.order x 4609434218613702656 == some .eq) = false := by rw [geq_nat hlim (by omega)]; exact decide_eq_false hx
      have HH : RowKit.Hid (halves y = j ∧ halved y = x) := by
        have := HX.out
        refine (show _ ∧ _ from ?_)
        unfold halved halves; omega
      have HR : RowKit.Hid (3936146074321813504 ≤ x ∧ j ≤ 150) := (show _ ∧ _ from by have := HX.out; have := HY1.out; have := HY2.out; omega)
      have HLIM := Lib.hid hlim
      have HXX := Lib.hid hx
      clear hx hlim HX
      go_wp2
      go_loopw [0, 3] (fun v0 v3 w' => ∃ (z i : Nat) (e : Int), v0 = .float .f64 z ∧ v3 = .int .i64 e ∧ RowKit.Hid (z = x + i * 4503599627370496 ∧ (i = 0 ∨ z < 4604930618986332160 + 4503599627370496)) ∧ RowKit.Hid (e = (j : Int) - i) ∧ RowKit.Hid (∃ c, w' = w.drewN c)) (fun v0 _ _ => 9218868437227405312 - rankL v0)
      case atStart => exact ⟨x, 0, _, rfl, rfl, ⟨by omega, .inl rfl⟩, (by rw [HE.out]; exact (show (j : Int) = (j : Int) - ((0 : Nat) : Int) by omega)), HW⟩
      case round =>
        obtain ⟨z, i, d, rfl, rfl, HZ, HD, HV⟩ := hrel
        by_cases hz : z < 4604930618986332160
        · have hi : i ≤ 160 := by have := HZ.out.1; have := HR.out.1; omega
          have gz : (FloatKind.f64.format.order z 4604930618986332160 == some .lt) = true := by rw [lt_nat (by omega) (by omega)]; exact decide_eq_true hz
          obtain ⟨z', hz'⟩ : ∃ z', z' = z + 4503599627370496 := ⟨_, rfl⟩
          have hh : ∀ w, fres .mul .f64 z 4611686018427387904 w = z' := fun w => fres_some w ((twice_word (by have := HZ.out.1; have := HR.out.1; omega) (by omega)).trans (congrArg some (by omega)))
          have HZN := Lib.hid hz'
          clear hz'
          have he1 : -400 ≤ d := by have := HD.out; have := HR.out.2; omega
          have he2 : d ≤ 400 := by have := HD.out; have := HR.out.2; omega
          have HZZ := Lib.hid hz
          clear hz
          go_wp2
          go_roundw
          case rel => exact ⟨_, i + 1, _, rfl, rfl, (show _ ∧ _ from ⟨by have := HZ.out.1; have := HZN.out; omega, .inr (by have := HZZ.out; have := HZN.out; omega)⟩), (show _ = ((j : Int) - ((i + 1 : Nat) : Int)) by rw [HD.out]; omega), (by obtain ⟨c, h⟩ := HV.out; exact ⟨_, by rw [h]; simp only [World.drewN_drewN]; rfl⟩)⟩
          case measure => have := HZZ.out; have := HZN.out; simp only [rankL_float]; omega
        · have hzl : z < 9218868437227405312 := by have := HZ.out; have := HLIM.out; omega
          have gz : (FloatKind.f64.format.order z 4604930618986332160 == some .lt) = false := by rw [lt_nat hzl (by omega)]; exact decide_eq_false hz
          have HT : RowKit.Hid (twices x = i ∧ twiced x = z) := by
            have := HZ.out
            refine (show _ ∧ _ from ?_)
            unfold twiced twices; omega
          have HFIN : RowKit.Hid (P = tailL z ((j : Int) - (i : Int))) := by rw [HP.out, HH.out.1, HH.out.2, HT.out.1, HT.out.2]; rfl
          have HIB : RowKit.Hid (i ≤ 160) := (show _ ≤ _ from by have := HZ.out.1; have := HR.out.1; have := HZ.out; omega)
          clear hz hzl HZ
          go_wp2
          generalize hs : fres .quo .f64 _ _ _ = s
          have HS : RowKit.Hid (Sim .f64 s (sL z)) := by rw [← hs]; exact fres_of _ (fres_sim ..) (fres_sim ..)
          clear hs
          generalize hu : fres .mul .f64 s s _ = u
          have HU : RowKit.Hid (Sim .f64 u (fop .mul .f64 (sL z) (sL z))) := by rw [← hu]; exact fres_of _ HS.out HS.out
          clear hu
          go_loopw [6, 7] (fun v6 v7 w' => ∃ (q m : Nat) (k : Int), v6 = .float .f64 q ∧ v7 = .int .i64 k ∧ RowKit.Hid (m ≤ 13) ∧ RowKit.Hid (k = 25 - 2 * (m : Int)) ∧ RowKit.Hid (Sim .f64 q (qL (fop .mul .f64 (sL z) (sL z)) m)) ∧ RowKit.Hid (∃ c, w' = w.drewN c)) (fun _ v7 _ => (intOf v7 + 1).toNat)
          case atStart => exact ⟨0, 0, 25, rfl, rfl, Nat.zero_le 13, (show (25 : Int) = 25 - 2 * ((0 : Nat) : Int) by omega), Sim.refl .f64 _, (by obtain ⟨c, h⟩ := HV.out; exact ⟨_, by rw [h]; simp only [World.drewN_drewN]; rfl⟩)⟩
          case round =>
            obtain ⟨q, m, k, rfl, rfl, HM, HK, HQ, HW2⟩ := hrel
            by_cases hm : m < 13
            · have hk1 : 1 ≤ k := by have := HK.out; omega
              have hk2 : k ≤ 25 := by have := HK.out; omega
              have HMM := Lib.hid hm
              clear hm
              go_wp2
              go_roundw
              case rel =>
                refine ⟨_, m + 1, _, rfl, rfl, HMM.out, ?_, ?_, ?_⟩
                · show _ = (25 : Int) - 2 * ((m + 1 : Nat) : Int)
                  rw [HK.out]; omega
                · show Sim .f64 _ (fop .add .f64 (fop .quo .f64 one64 (floatOfInt .f64 (25 - 2 * (m : Int)))) (fop .mul .f64 (fop .mul .f64 (sL z) (sL z)) (qL (fop .mul .f64 (sL z) (sL z)) m)))
                  rw [← HK.out]
                  exact fres_of _ (fres_sim ..) (fres_of _ HU.out HQ.out)
                · obtain ⟨c, h⟩ := HW2.out; exact ⟨_, by rw [h]; simp only [World.drewN_drewN]; rfl⟩
              case measure => simp [intOf]; omega
            · obtain rfl : m = 13 := by have := HM.out; omega
              have hk : k = -1 := by have := HK.out; omega
              subst hk
              clear hm
              go_wp2
              go_ret
              refine ⟨_, rfl, ?_, by obtain ⟨c, h⟩ := HW2.out; exact ⟨_, by rw [h]; simp only [World.drewN_drewN]; rfl⟩⟩
              rw [HFIN.out]
              unfold tailL
              rw [← HD.out]
              exact fres_of _ (fres_of _ (Sim.refl ..) (fres_of _ HS.out HQ.out)) (fres_sim ..)
end Go.Proofs.Ytpjgodeabdcdcaa
