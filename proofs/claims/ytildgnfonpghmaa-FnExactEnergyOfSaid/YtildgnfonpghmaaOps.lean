/- Plain facts on floating-point operations: what order, sums, products and conversions are, on words given by sign and rung. No program; no condition. -/
import Derived.Test.YtildgnfonpghmaaVal
namespace Go.Proofs.Ytildgnfonpghmaa
namespace Fl
open Ieee

/-- a magnitude with a sign -/
def sv (s : Bool) (v : Nat) : Int := if s then -(v : Int) else v

theorem signed_sv (s : Bool) (m d : Nat) : signed s m d = sv s (m * 2 ^ d) := by
  unfold signed sv; rw [Nat.shiftLeft_eq]
theorem sv_mul (s : Bool) (v c : Nat) : sv s (v * c) = sv s v * c := by
  unfold sv; cases s
  · simp
  · simp [Int.neg_mul]

theorem compare_mul {a b : Int} (c : Nat) (hc : 0 < c) : compare (a * c) (b * c) = compare a b := by
  have hc' : (0 : Int) < c := by omega
  simp only [compare, compareOfLessAndEq]
  by_cases h : a < b
  · rw [if_pos h, if_pos (Int.mul_lt_mul_of_pos_right h hc')]
  · rw [if_neg h, if_neg (fun g => h (Int.lt_of_mul_lt_mul_right g (by omega)))]
    by_cases e : a = b
    · rw [if_pos e, if_pos (by rw [e])]
    · rw [if_neg e, if_neg (fun g => e (Int.eq_of_mul_eq_mul_right (by omega) g))]

theorem sv_scaled (f : Format) (s t : Bool) (m d n e : Nat) :
    sv s (m * 2 ^ d) = signed s m (f.leastPlace + (d : Int) - min (f.leastPlace + (d : Int)) (f.leastPlace + (e : Int))).toNat * ((2 ^ min d e : Nat) : Int) ∧
    sv t (n * 2 ^ e) = signed t n (f.leastPlace + (e : Int) - min (f.leastPlace + (d : Int)) (f.leastPlace + (e : Int))).toNat * ((2 ^ min d e : Nat) : Int) := by
  refine ⟨?_, ?_⟩
  · have e1 : (f.leastPlace + (d : Int) - min (f.leastPlace + (d : Int)) (f.leastPlace + (e : Int))).toNat = d - min d e := by omega
    rw [e1, signed_sv, ← sv_mul, Nat.mul_assoc, ← Nat.pow_add]; congr 3; omega
  · have e1 : (f.leastPlace + (e : Int) - min (f.leastPlace + (d : Int)) (f.leastPlace + (e : Int))).toNat = e - min d e := by omega
    rw [e1, signed_sv, ← sv_mul, Nat.mul_assoc, ← Nat.pow_add]; congr 3; omega

theorem order_words (f : Format) (s t : Bool) {r q : Nat} (hr : r < f.infRung) (hq : q < f.infRung) :
    f.order (f.word s r) (f.word t q) = some (compare (sv s (mval f r)) (sv t (mval f q))) := by
  obtain ⟨m, d, e1, e2, _, _⟩ := read_num f s hr
  obtain ⟨n, e, g1, g2, _, _⟩ := read_num f t hq
  obtain ⟨c1, c2⟩ := sv_scaled f s t m d n e
  unfold Format.order
  rw [e1, g1]
  simp only [Datum.order]
  rw [← e2, ← g2, c1, c2, compare_mul _ (Nat.two_pow_pos _)]

theorem cmp_lt {a b : Int} : compare a b = .lt ↔ a < b := by
  simp only [compare, compareOfLessAndEq]; split
  · simp [*]
  · split <;> simp [*]
theorem cmp_eq {a b : Int} : compare a b = .eq ↔ a = b := by
  simp only [compare, compareOfLessAndEq]; split
  · simp; omega
  · split <;> simp [*]
theorem cmp_gt {a b : Int} : compare a b = .gt ↔ b < a := by
  simp only [compare, compareOfLessAndEq]; split
  · simp; omega
  · split
    · simp; omega
    · simp; omega

/-- the sum of two finite words, ahead of rounding -/
theorem sum_words (f : Format) (s t : Bool) {m d n e : Nat} (x y : Datum) (hx : x = .number s m (f.leastPlace + d)) (hy : y = .number t n (f.leastPlace + e)) :
    ∃ (T D : Nat), x.sum y = some (.number (if sv s (m * 2 ^ d) + sv t (n * 2 ^ e) = 0 then s && t else decide (sv s (m * 2 ^ d) + sv t (n * 2 ^ e) < 0)) T (f.leastPlace + D)) ∧ T * 2 ^ D = (sv s (m * 2 ^ d) + sv t (n * 2 ^ e)).natAbs := by
  obtain ⟨c1, c2⟩ := sv_scaled f s t m d n e
  subst hx hy
  simp only [Datum.sum]
  generalize signed s m (f.leastPlace + (d : Int) - min (f.leastPlace + (d : Int)) (f.leastPlace + (e : Int))).toNat = X at *
  generalize signed t n (f.leastPlace + (e : Int) - min (f.leastPlace + (d : Int)) (f.leastPlace + (e : Int))).toNat = Y at *
  have hp : min (f.leastPlace + (d : Int)) (f.leastPlace + (e : Int)) = f.leastPlace + ((min d e : Nat) : Int) := by omega
  have hc : (0 : Int) < ((2 ^ min d e : Nat) : Int) := by have := Nat.two_pow_pos (min d e); omega
  have hz : (sv s (m * 2 ^ d) + sv t (n * 2 ^ e) = 0) ↔ (X + Y = 0) := by
    rw [c1, c2, ← Int.add_mul]
    constructor
    · intro h; rcases Int.mul_eq_zero.1 h with h | h
      · exact h
      · omega
    · intro h; rw [h, Int.zero_mul]
  have hn : (sv s (m * 2 ^ d) + sv t (n * 2 ^ e) < 0) ↔ (X + Y < 0) := by
    rw [c1, c2, ← Int.add_mul]
    constructor
    · intro h; exact Int.lt_of_mul_lt_mul_right (by rw [Int.zero_mul]; exact h) (Int.le_of_lt hc)
    · intro h
      have := Int.mul_lt_mul_of_pos_right h hc
      rw [Int.zero_mul] at this; exact this
  refine ⟨(X + Y).natAbs, min d e, ?_, ?_⟩
  · simp only [hz, hn, hp]
  · rw [c1, c2, ← Int.add_mul, Int.natAbs_mul]; simp

theorem add_words (f : Format) (s t : Bool) {r q : Nat} (hr : r < f.infRung) (hq : q < f.infRung) :
    ∃ (T D : Nat), f.add (f.word s r) (f.word t q) = some (f.nearest (if sv s (mval f r) + sv t (mval f q) = 0 then s && t else decide (sv s (mval f r) + sv t (mval f q) < 0)) T (f.leastPlace + D)) ∧ T * 2 ^ D = (sv s (mval f r) + sv t (mval f q)).natAbs := by
  obtain ⟨m, d, e1, e2, _, _⟩ := read_num f s hr
  obtain ⟨n, e, g1, g2, _, _⟩ := read_num f t hq
  obtain ⟨T, D, h1, h2⟩ := sum_words f s t _ _ e1 g1
  rw [e2, g2] at h1 h2
  exact ⟨T, D, by unfold Format.add; rw [h1]; rfl, h2⟩
theorem sub_words (f : Format) (s t : Bool) {r q : Nat} (hr : r < f.infRung) (hq : q < f.infRung) :
    ∃ (T D : Nat), f.sub (f.word s r) (f.word t q) = some (f.nearest (if sv s (mval f r) - sv t (mval f q) = 0 then s && !t else decide (sv s (mval f r) - sv t (mval f q) < 0)) T (f.leastPlace + D)) ∧ T * 2 ^ D = (sv s (mval f r) - sv t (mval f q)).natAbs := by
  obtain ⟨m, d, e1, e2, _, _⟩ := read_num f s hr
  obtain ⟨n, e, g1, g2, _, _⟩ := read_num f t hq
  have g1' : (f.read (f.word t q)).opposite = .number (!t) n (f.leastPlace + e) := by rw [g1]; rfl
  obtain ⟨T, D, h1, h2⟩ := sum_words f s (!t) _ _ e1 g1'
  rw [e2, g2] at h1 h2
  have hneg : sv (!t) (mval f q) = - sv t (mval f q) := by unfold sv; cases t <;> simp
  rw [hneg, ← Int.sub_eq_add_neg] at h1 h2
  exact ⟨T, D, by unfold Format.sub; rw [h1]; rfl, h2⟩
theorem mul_words (f : Format) (s t : Bool) {r q b : Nat} (hb : (b : Int) = - f.leastPlace) (hr : r < f.infRung) (hq : q < f.infRung) :
    ∃ (T D : Nat), f.mul (f.word s r) (f.word t q) = some (f.nearest (s ^^ t) T (f.leastPlace + D - b)) ∧ T * 2 ^ D = mval f r * mval f q := by
  obtain ⟨m, d, e1, e2, _, _⟩ := read_num f s hr
  obtain ⟨n, e, g1, g2, _, _⟩ := read_num f t hq
  refine ⟨m * n, d + e, ?_, ?_⟩
  · unfold Format.mul
    rw [e1, g1]
    simp only [Datum.product, Option.map_some, Format.write]
    congr 2
    omega
  · rw [← e2, ← g2, Nat.pow_add]
    simp only [Nat.mul_assoc, Nat.mul_left_comm]

/-! ### the two kinds -/
theorem fmt32 : FloatKind.f32.format = single := rfl
theorem fmt64 : FloatKind.f64.format = double := rfl
theorem B32 : single.binade = 8388608 := by decide +kernel
theorem B64 : double.binade = 4503599627370496 := by decide +kernel
theorem I32 : single.infRung = 2139095040 := by decide +kernel
theorem I64 : double.infRung = 9218868437227405312 := by decide +kernel
theorem S32 : single.signWeight = 2147483648 := by decide +kernel
theorem S64 : double.signWeight = 9223372036854775808 := by decide +kernel
theorem P32 : single.leastPlace = -149 := by decide +kernel
theorem P64 : double.leastPlace = -1074 := by decide +kernel

theorem word32_lt {s : Bool} {r : Nat} (h : r ≤ 2139095040) : single.word s r < 4294967296 := by
  unfold Format.word; rw [S32]; split <;> omega

/-- every word is finite, an infinity or a NaN -/
theorem kinds (k : FloatKind) {w : Nat} (h : w < lim k) : (∃ s r, r < k.format.infRung ∧ w = k.format.word s r) ∨ (∃ s, w = k.format.word s k.format.infRung) ∨ isN k w = true := by
  have h2 : w < 2 * k.format.signWeight := by cases k <;> simp only [lim, fmt32, fmt64, S32, S64] at h ⊢ <;> omega
  have hw := word_split _ h2
  have hlt : w % k.format.signWeight < k.format.signWeight := Nat.mod_lt _ (by have := k.format.infRung_lt; omega)
  rcases Nat.lt_trichotomy (w % k.format.signWeight) k.format.infRung with g | g | g
  · exact .inl ⟨_, _, g, hw⟩
  · right; left; rw [g] at hw; exact ⟨_, hw⟩
  · right; right
    have hB : k.format.binade ≤ k.format.infRung := by cases k <;> simp only [fmt32, fmt64, B32, B64, I32, I64] <;> omega
    unfold isN FloatKind.decode Format.read
    simp only
    rw [if_neg (by omega), if_neg (by omega), if_neg (by omega)]
    rfl
theorem isN_word (k : FloatKind) (s : Bool) {r : Nat} (h : r ≤ k.format.infRung) : isN k (k.format.word s r) = false := by
  have hB : k.format.binade ≤ k.format.infRung := by cases k <;> simp only [fmt32, fmt64, B32, B64, I32, I64] <;> omega
  unfold isN FloatKind.decode
  rcases Nat.lt_or_eq_of_le h with g | g
  · obtain ⟨m, d, e, _⟩ := read_num k.format s g
    rw [e]; rfl
  · rw [g, read_inf _ _ hB]; rfl

theorem place_of {m d r : Nat} (h : m * 2 ^ d = mval single r) (hr : r < 2139095040) (hd : d = 0 ∨ 8388608 ≤ m) : d ≤ 253 := by
  have h1 : mval single r < mval single 2139095040 := mval_lt hr
  have h2 : mval single 2139095040 = 8388608 * 2 ^ 254 := by decide +kernel
  rcases Nat.lt_or_ge 253 d with g | g
  · rcases hd with e | e
    · omega
    · have : 8388608 * 2 ^ 254 ≤ m * 2 ^ d := Nat.mul_le_mul e (Nat.pow_le_pow_right (by omega) g)
      rw [h, ← h2] at this
      exact absurd h1 (Nat.not_lt.2 this)
  · exact g

/-- a float32 widened: the same number (K: 925) -/
theorem widen_word (s : Bool) {r K : Nat} (hK : K = 925) (h : r < 2139095040) : ∃ q, q < 9218868437227405312 ∧ mval double q = mval single r * 2 ^ K ∧ floatToFloatBits .f32 (single.word s r) .f64 = some (double.word s q) := by
  have h' : r < single.infRung := by rw [I32]; exact h
  obtain ⟨m, d, e1, e2, hm, hdm⟩ := read_num single s h'
  rw [B32] at hm hdm
  have hd := place_of e2 h hdm
  obtain ⟨q, q1, q2⟩ := repr double m (d + K) (by rw [B64]; omega)
  have hq : q < double.infRung := by
    rw [I64]; rw [B64] at q2
    have : (d + K + 2) * 4503599627370496 ≤ (253 + 925 + 2) * 4503599627370496 := Nat.mul_le_mul_right _ (by omega)
    clear q1 e2 e1
    omega
  refine ⟨q, by rw [I64] at hq; exact hq, by rw [q1, ← e2, Nat.pow_add, Nat.mul_assoc], ?_⟩
  have hn : double.nearest s m (single.leastPlace + d) = double.word s q := by
    have := nearest_exact double s (m := m) (d := d + K) (b := 0) (r := q) (by rw [q1, Nat.pow_zero, Nat.mul_one]) hq
    rw [← this, P64, P32]; clear q1 e2 e1 this; congr 1; omega
  unfold floatToFloatBits
  rw [if_neg (by decide)]
  have hd2 : FloatKind.f32.decode (single.word s r) = .number s m (single.leastPlace + d) := e1
  rw [hd2]
  simp only [FloatKind.encode, fmt64, Format.write, hn]
  rw [if_neg]
  obtain ⟨m', d', e', _⟩ := read_num double s hq
  simp only [FloatKind.decode, fmt64, e', Datum.isInfinity]
  simp

theorem widen_inf (s : Bool) : floatToFloatBits .f32 (single.word s single.infRung) .f64 = some (double.word s double.infRung) := by
  cases s <;> decide +kernel

theorem read_mod (f : Format) (w : Nat) : f.read w = f.read (f.word (w / f.signWeight % 2 == 1) (w % f.signWeight)) := by
  have h : w % f.signWeight < f.signWeight := Nat.mod_lt _ (by have := f.infRung_lt; omega)
  unfold Format.read
  simp only [word_sign h, word_rung h]
theorem isN_mod (k : FloatKind) (w : Nat) : isN k w = isN k (k.format.word (w / k.format.signWeight % 2 == 1) (w % k.format.signWeight)) := by
  unfold isN FloatKind.decode; rw [read_mod]
theorem widen_none {x : Nat} (h : floatToFloatBits .f32 x .f64 = none) : isN .f32 x = true := by
  rw [isN_mod]
  have hr := read_mod single x
  have h1 : floatToFloatBits .f32 (single.word (x / single.signWeight % 2 == 1) (x % single.signWeight)) .f64 = none := by
    rw [← h]; unfold floatToFloatBits FloatKind.decode; rw [if_neg (by decide), if_neg (by decide)]; simp only [fmt32, hr]
  have hlt : x % single.signWeight < 2147483648 := by rw [S32]; exact Nat.mod_lt _ (by omega)
  have hl : single.word (x / single.signWeight % 2 == 1) (x % single.signWeight) < lim .f32 := by
    show _ < 4294967296
    unfold Format.word; rw [S32] at *; split <;> omega
  show isN .f32 (single.word _ _) = true
  rcases kinds .f32 hl with ⟨s, r, hr', e⟩ | ⟨s, e⟩ | e
  · obtain ⟨q, _, _, e'⟩ := widen_word s rfl (r := r) (by rw [fmt32, I32] at hr'; exact hr')
    rw [e, fmt32, e'] at h1; cases h1
  · rw [e, fmt32, widen_inf] at h1; cases h1
  · exact e

theorem cop_nan {s k : FloatKind} {b : Nat} (hk : s ≠ k) (h : isN s b = true) : cop s b k = qn k := by
  obtain ⟨sg, t, he⟩ := (isN_iff s b).1 h
  unfold cop floatToFloatBits; rw [if_neg hk, he]; rfl
theorem cop_congr {s k : FloatKind} {a b : Nat} (hk : s ≠ k) (h : Sim s a b) : cop s a k = cop s b k := by
  rcases h with rfl | ⟨x, y⟩
  · rfl
  · rw [cop_nan hk x, cop_nan hk y]
/-- a float32 widened, in whatever world -/
theorem wide_sim (x : Nat) (w : World) : Sim .f64 (cres .f32 x .f64 w) (cop .f32 x .f64) := by
  cases h : floatToFloatBits .f32 x .f64 with
  | some r => rw [cres_some w h]; unfold cop; rw [h]; exact .inl rfl
  | none =>
    have hn := widen_none h
    refine .inr ⟨cres_nan w (by decide) hn, ?_⟩
    rw [cop_nan (by decide) hn]; exact isN_qn _
theorem wide_of {x y : Nat} (w : World) (h : Sim .f32 x y) : Sim .f64 (cres .f32 x .f64 w) (cop .f32 y .f64) := by
  rw [← cop_congr (by decide) h]; exact wide_sim x w
@[simp, go_sem] theorem order_wide_l (x z : Nat) (w : World) : FloatKind.f64.format.order (cres .f32 x .f64 w) z = FloatKind.f64.format.order (cop .f32 x .f64) z := order_congr (wide_sim ..) (Sim.refl ..)
@[simp, go_sem] theorem order_wide_r (x z : Nat) (w : World) : FloatKind.f64.format.order z (cres .f32 x .f64 w) = FloatKind.f64.format.order z (cop .f32 x .f64) := order_congr (Sim.refl ..) (wide_sim ..)
@[simp] theorem fop_wide_l (o : BinOp) (x z : Nat) (w : World) : fop o .f64 (cres .f32 x .f64 w) z = fop o .f64 (cop .f32 x .f64) z := fop_congr (wide_sim ..) (Sim.refl ..)
@[simp] theorem fop_wide_r (o : BinOp) (x z : Nat) (w : World) : fop o .f64 z (cres .f32 x .f64 w) = fop o .f64 z (cop .f32 x .f64) := fop_congr (Sim.refl ..) (wide_sim ..)
theorem cres_lt {s k : FloatKind} {b : Nat} (hb : b < lim s) (w : World) : cres s b k w < lim k := by
  unfold cres
  split
  · rename_i r h; exact (wf_iff k _).1 (floatToFloatBits_wf ((wf_iff s b).2 hb) h)
  · rename_i h
    split
    · exact nanConv_lt k b _
    · rename_i hn
      cases k with
      | f32 => exact Nat.mod_lt _ (by decide)
      | f64 =>
        cases s with
        | f32 => exact absurd (widen_none h) hn
        | f64 => unfold floatToFloatBits at h; rw [if_pos rfl] at h; cases h

/-- two float32 that are the same, widened, in whatever worlds -/
theorem wide_both {x y : Nat} (w w' : World) (h : Sim .f32 x y) : Sim .f64 (cres .f32 x .f64 w) (cres .f32 y .f64 w') := (wide_of w h).trans (wide_sim y w').symm

end Fl
end Go.Proofs.Ytildgnfonpghmaa
