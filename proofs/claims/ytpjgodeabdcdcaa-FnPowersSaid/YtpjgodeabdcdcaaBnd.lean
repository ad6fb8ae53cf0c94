/- Plain facts on the size of float64 results: an operation on bounded numbers is valid and bounded, a bounded number can be narrowed. No program; no condition. -/
import Derived.Test.YtpjgodeabdcdcaaOps
namespace Go.Proofs.Ytpjgodeabdcdcaa
namespace Fl
open Ieee

/-- finite, and at most 2^(e - 1023) in magnitude -/
def Bd (e x : Nat) : Prop := ∃ s r, x = double.word s r ∧ r < double.infRung ∧ mval double r ≤ 2 ^ (51 + e)
/-- finite, positive, at least 2^(e - 1023) -/
def Lb (e x : Nat) : Prop := ∃ r, x = double.word false r ∧ r < double.infRung ∧ 2 ^ (51 + e) ≤ mval double r

theorem mval_pow {c : Nat} (h : 1 ≤ c) : mval double (c * double.binade) = 2 ^ (51 + c) := by
  have hB := binade_pos double
  unfold mval
  have h1 : ¬ c * double.binade < double.binade := by
    have := Nat.mul_le_mul_right double.binade h; omega
  rw [if_neg h1, Nat.mul_mod_left, Nat.mul_div_cancel _ hB, Nat.add_zero]
  have : double.binade = 2 ^ 52 := rfl
  rw [this, ← Nat.pow_add]
  congr 1; omega
theorem inf64 : double.infRung = 2047 * double.binade := rfl
theorem pow_rung_lt {c : Nat} (h : c ≤ 2046) : c * double.binade < double.infRung := by
  rw [inf64]; exact Nat.mul_lt_mul_of_pos_right (by omega) (binade_pos _)

theorem Bd.mono {a b x : Nat} (h : Bd a x) (hab : a ≤ b) : Bd b x := by
  obtain ⟨s, r, h1, h2, h3⟩ := h
  exact ⟨s, r, h1, h2, Nat.le_trans h3 (Nat.pow_le_pow_right (by omega) (by omega))⟩

theorem bd_nearest (neg : Bool) {m d b c : Nat} (hc : 1 ≤ c) (hc2 : c ≤ 2046) (h : m * 2 ^ d ≤ 2 ^ (51 + c) * 2 ^ b) : Bd c (double.nearest neg m (double.leastPlace + d - b)) := by
  rw [← mval_pow hc] at h
  obtain ⟨r, hr, e⟩ := nearest_le double neg h
  refine ⟨neg, r, e, Nat.lt_of_le_of_lt hr (pow_rung_lt hc2), ?_⟩
  rw [← mval_pow hc]
  exact mval_le hr
theorem bd_nearest0 (neg : Bool) {m d c : Nat} (hc : 1 ≤ c) (hc2 : c ≤ 2046) (h : m * 2 ^ d ≤ 2 ^ (51 + c)) : Bd c (double.nearest neg m (double.leastPlace + d)) := by
  have := bd_nearest neg (m := m) (d := d) (b := 0) hc hc2 (by rw [Nat.pow_zero, Nat.mul_one]; exact h)
  simpa using this

theorem fop_of {op : BinOp} {k : FloatKind} {x y r : Nat} (h : floatBits op k x y = some r) : fop op k x y = r := by unfold fop; rw [h]; rfl

theorem sv_abs (s : Bool) (v : Nat) : (sv s v).natAbs = v := by unfold sv; cases s <;> simp

theorem add_bd {a b c x y : Nat} (hx : Bd a x) (hy : Bd b y) (ha : a < c) (hb : b < c) (hc : c ≤ 2046) : Bd c (fop .add .f64 x y) := by
  obtain ⟨s, r, rfl, hr, hv⟩ := hx
  obtain ⟨t, q, rfl, hq, hu⟩ := hy
  obtain ⟨T, D, e, he⟩ := add_words double s t hr hq
  rw [fop_of (op := .add) (k := .f64) e]
  refine bd_nearest0 _ (by omega) hc ?_
  rw [he]
  have h1 : (sv s (mval double r) + sv t (mval double q)).natAbs ≤ mval double r + mval double q := by
    have := Int.natAbs_add_le (sv s (mval double r)) (sv t (mval double q)); rw [sv_abs, sv_abs] at this; exact this
  have h2 : 2 ^ (51 + a) ≤ 2 ^ (51 + (c - 1)) := Nat.pow_le_pow_right (by omega) (by omega)
  have h3 : 2 ^ (51 + b) ≤ 2 ^ (51 + (c - 1)) := Nat.pow_le_pow_right (by omega) (by omega)
  have h4 : 2 ^ (51 + c) = 2 * 2 ^ (51 + (c - 1)) := by rw [← Nat.pow_succ']; congr 1; omega
  generalize mval double r = A at *
  generalize mval double q = B at *
  generalize 2 ^ (51 + (c - 1)) = P at *
  omega
theorem sub_bd {a b c x y : Nat} (hx : Bd a x) (hy : Bd b y) (ha : a < c) (hb : b < c) (hc : c ≤ 2046) : Bd c (fop .sub .f64 x y) := by
  obtain ⟨s, r, rfl, hr, hv⟩ := hx
  obtain ⟨t, q, rfl, hq, hu⟩ := hy
  obtain ⟨T, D, e, he⟩ := sub_words double s t hr hq
  rw [fop_of (op := .sub) (k := .f64) e]
  refine bd_nearest0 _ (by omega) hc ?_
  rw [he]
  have h1 : (sv s (mval double r) - sv t (mval double q)).natAbs ≤ mval double r + mval double q := by
    have := Int.natAbs_sub_le (sv s (mval double r)) (sv t (mval double q)); rw [sv_abs, sv_abs] at this; exact this
  have h2 : 2 ^ (51 + a) ≤ 2 ^ (51 + (c - 1)) := Nat.pow_le_pow_right (by omega) (by omega)
  have h3 : 2 ^ (51 + b) ≤ 2 ^ (51 + (c - 1)) := Nat.pow_le_pow_right (by omega) (by omega)
  have h4 : 2 ^ (51 + c) = 2 * 2 ^ (51 + (c - 1)) := by rw [← Nat.pow_succ']; congr 1; omega
  generalize mval double r = A at *
  generalize mval double q = B at *
  generalize 2 ^ (51 + (c - 1)) = P at *
  omega

theorem least64 : ((1074 : Nat) : Int) = - double.leastPlace := by rw [P64]; rfl
theorem mul_bd {a b c x y : Nat} (hx : Bd a x) (hy : Bd b y) (h : a + b ≤ c + 1023) (h1 : 1 ≤ c) (hc : c ≤ 2046) : Bd c (fop .mul .f64 x y) := by
  obtain ⟨s, r, rfl, hr, hv⟩ := hx
  obtain ⟨t, q, rfl, hq, hu⟩ := hy
  obtain ⟨K, hK⟩ : ∃ K : Nat, K = 1074 := ⟨_, rfl⟩
  obtain ⟨T, D, e, he⟩ := mul_words double s t (b := K) (by rw [hK]; exact least64) hr hq
  rw [fop_of (op := .mul) (k := .f64) e]
  refine bd_nearest _ h1 hc ?_
  rw [he]
  refine Nat.le_trans (Nat.mul_le_mul hv hu) ?_
  rw [← Nat.pow_add, ← Nat.pow_add]
  exact Nat.pow_le_pow_right (by omega) (by omega)

/-- the quotient of two finite words -/
theorem div_words (f : Format) (s t : Bool) {r q : Nat} (hr : r < f.infRung) (hq : q < f.infRung) (hq0 : mval f q ≠ 0) :
    ∃ (m d n e more : Nat), m * 2 ^ d = mval f r ∧ n * 2 ^ e = mval f q ∧ n ≠ 0 ∧ (m ≠ 0 → n ≤ m * 2 ^ more) ∧
      f.div (f.word s r) (f.word t q) = some (f.nearest (s ^^ t) (2 * (m * 2 ^ more / n) + (m * 2 ^ more % n != 0).toNat) ((d : Int) - e - more - 1)) := by
  obtain ⟨m, d, e1, e2, _, _⟩ := read_num f s hr
  obtain ⟨n, e, g1, g2, _, _⟩ := read_num f t hq
  have hn : n ≠ 0 := by
    intro h; rw [h, Nat.zero_mul] at g2; exact hq0 g2.symm
  refine ⟨m, d, n, e, f.fractionBits + 2 + n.log2 - m.log2, e2, g2, hn, fun hm => ?_, ?_⟩
  · have h1 := (log2_bounds hm).1
    have h2 := (log2_bounds hn).2
    have h3 : 2 ^ (n.log2 + 1) ≤ 2 ^ (m.log2 + (f.fractionBits + 2 + n.log2 - m.log2)) := Nat.pow_le_pow_right (by omega) (by omega)
    rw [Nat.pow_add 2 m.log2] at h3
    have h4 := Nat.mul_le_mul_right (2 ^ (f.fractionBits + 2 + n.log2 - m.log2)) h1
    omega
  unfold Format.div
  rw [e1, g1]
  simp only [Datum.quotient, if_neg hn, Option.map_some, Format.write, Nat.shiftLeft_eq]
  congr 2
  omega

theorem quot_le {D n t : Nat} (hn : n ≠ 0) (h : D ≤ n * 2 ^ t) : 2 * (D / n) + (D % n != 0).toNat ≤ 2 ^ (t + 1) := by
  have hd := Nat.div_add_mod D n
  have h1 : D / n ≤ 2 ^ t := by
    have : D / n ≤ n * 2 ^ t / n := Nat.div_le_div_right h
    rwa [Nat.mul_div_cancel_left _ (by omega)] at this
  rw [Nat.pow_succ]
  have hb : (D % n != 0).toNat ≤ 1 := by cases (D % n != 0) <;> simp
  rcases Nat.lt_or_eq_of_le h1 with g | g
  · omega
  · have : D % n = 0 := by rw [g] at hd; omega
    rw [this, g]; simp; omega

theorem quo_bd {a b c x y : Nat} (hx : Bd a x) (hy : Lb b y) (h : a + 1023 ≤ c + b) (h1 : 1 ≤ c) (hc : c ≤ 2046) : Bd c (fop .quo .f64 x y) := by
  obtain ⟨s, r, rfl, hr, hv⟩ := hx
  obtain ⟨q, hy, hq, hu⟩ := hy
  rw [hy]
  have hp := Nat.two_pow_pos (51 + b)
  obtain ⟨m, d, n, e, more, h2, h3, h4, hbig, h5⟩ := div_words double s false hr hq (by omega)
  rw [fop_of (op := .quo) (k := .f64) h5]
  -- in units: the place is least + (d + 1074) - (e + more + 1)
  obtain ⟨K, hK⟩ : ∃ K : Nat, K = 1074 := ⟨_, rfl⟩
  have hpl : ((d : Int) - e - more - 1) = double.leastPlace + ((d + K : Nat) : Int) - ((e + more + 1 : Nat) : Int) := by rw [P64]; omega
  rw [hpl]
  refine bd_nearest _ h1 hc ?_
  -- m * 2^d ≤ 2^(51+a), n * 2^e ≥ 2^(51+b)
  rw [← h2] at hv
  rw [← h3] at hu
  -- the dividend over n is at most 2^t, where t is what makes both sides meet
  have key : m * 2 ^ more * 2 ^ (d + K) ≤ n * (2 ^ (51 + c) * 2 ^ (e + more)) := by
    have e1 : m * 2 ^ more * 2 ^ (d + K) = m * 2 ^ d * 2 ^ (more + K) := by rw [Nat.mul_assoc, Nat.mul_assoc, ← Nat.pow_add, ← Nat.pow_add]; congr 2; omega
    have e2 : n * (2 ^ (51 + c) * 2 ^ (e + more)) = n * 2 ^ e * 2 ^ (51 + c + more) := by rw [Nat.mul_assoc, ← Nat.pow_add, ← Nat.pow_add]; congr 2; omega
    rw [e1, e2]
    refine Nat.le_trans (Nat.mul_le_mul_right _ hv) (Nat.le_trans ?_ (Nat.mul_le_mul_right _ hu))
    rw [← Nat.pow_add, ← Nat.pow_add]
    exact Nat.pow_le_pow_right (by omega) (by omega)
  by_cases ht : d + K ≤ 51 + c + (e + more)
  · obtain ⟨t, ht'⟩ : ∃ t, 51 + c + (e + more) = d + K + t := ⟨51 + c + (e + more) - (d + K), by omega⟩
    have h6 : m * 2 ^ more ≤ n * 2 ^ t := by
      have e3 : 2 ^ (51 + c) * 2 ^ (e + more) = 2 ^ t * 2 ^ (d + K) := by rw [← Nat.pow_add, ht', ← Nat.pow_add]; congr 1; omega
      rw [e3, ← Nat.mul_assoc] at key
      exact Nat.le_of_mul_le_mul_right key (Nat.two_pow_pos _)
    refine Nat.le_trans (Nat.mul_le_mul_right _ (quot_le h4 h6)) ?_
    rw [← Nat.pow_add, ← Nat.pow_add]
    exact Nat.pow_le_pow_right (by omega) (by omega)
  · -- the quotient is below one: nothing is left of it but what is told of the rest
    obtain ⟨t, ht'⟩ : ∃ t, d + K = 51 + c + (e + more) + (t + 1) := ⟨d + K - (51 + c + (e + more)) - 1, by omega⟩
    have h6 : m * 2 ^ more * 2 ^ (t + 1) ≤ n := by
      have e3 : 2 ^ (51 + c) * 2 ^ (e + more) = 2 ^ (51 + c + (e + more)) := by rw [← Nat.pow_add]
      have e4 : 2 ^ (d + K) = 2 ^ (t + 1) * 2 ^ (51 + c + (e + more)) := by rw [ht', ← Nat.pow_add]; congr 1; omega
      rw [e3, e4, ← Nat.mul_assoc] at key
      exact Nat.le_of_mul_le_mul_right key (Nat.two_pow_pos _)
    by_cases hm0 : m = 0
    · subst hm0; simp
    · exfalso
      have h7 := hbig hm0
      have h8 : m * 2 ^ more * 2 ≤ m * 2 ^ more * 2 ^ (t + 1) := Nat.mul_le_mul_left _ (by rw [Nat.pow_succ]; have := Nat.two_pow_pos t; omega)
      have h9 : 0 < m * 2 ^ more := Nat.mul_pos (by omega) (Nat.two_pow_pos _)
      omega


/-! ### lower bounds -/
theorem cut_ge (neg : Bool) {n drop u : Nat} (h : u * 2 ^ drop ≤ n) : u ≤ Toward.even.cut neg n drop := by
  by_cases hu : u = 0
  · omega
  · have hn : n ≠ 0 := by
      intro e; rw [e] at h
      have := Nat.mul_pos (show 0 < u by omega) (Nat.two_pow_pos drop); omega
    have hd : drop ≤ n.log2 := by
      rw [Nat.le_log2 hn]
      refine Nat.le_trans ?_ h
      exact Nat.le_mul_of_pos_left _ (by omega)
    have hm : min drop (n.log2 + 2) = drop := by omega
    unfold Toward.cut
    simp only [hm, Nat.one_shiftLeft]
    have : u ≤ n / 2 ^ drop := (Nat.le_div_iff_mul_le (Nat.two_pow_pos _)).2 h
    omega

/-- ROUNDING KEEPS A LOWER BOUND that is a power of two. -/
theorem nearest_ge_pow (f : Format) (neg : Bool) {m d b c : Nat} (hc : 1 ≤ c) (hci : c * f.binade ≤ f.infRung) (h : 2 ^ (f.fractionBits + (c - 1)) * 2 ^ b ≤ m * 2 ^ d) :
    ∃ r', c * f.binade ≤ r' ∧ r' ≤ f.infRung ∧ f.nearest neg m (f.leastPlace + d - b) = f.word neg r' := by
  unfold Format.nearest
  have hpb := Nat.two_pow_pos b
  have hpd := Nat.two_pow_pos d
  have hm : m ≠ 0 := by
    intro e; subst e
    have := Nat.mul_pos (Nat.two_pow_pos (f.fractionBits + (c - 1))) hpb
    omega
  rw [if_neg hm]
  obtain ⟨hL1, hL2⟩ := log2_bounds hm
  generalize m.log2 = L at *
  have hlo : 2 ^ (L + d) ≤ m * 2 ^ d := by rw [Nat.pow_add]; exact Nat.mul_le_mul_right _ hL1
  have hhi : m * 2 ^ d < 2 ^ (L + 1 + d) := by rw [Nat.pow_add]; exact (Nat.mul_lt_mul_right hpd).2 hL2
  have hB : f.binade = 2 ^ f.fractionBits := rfl
  have hexp : f.fractionBits + (c - 1) + b < L + 1 + d := by
    refine exp_lt (x := m * 2 ^ d) ?_ hhi
    rw [Nat.pow_add]; exact h
  obtain ⟨t, ht⟩ : ∃ t, L + d = f.fractionBits + b + t := ⟨L + d - (f.fractionBits + b), by omega⟩
  have hlast : (max (f.leastPlace + d - b + L - f.fractionBits) f.leastPlace : Int) = f.leastPlace + t := by omega
  simp only [hlast]
  have e1 : (f.leastPlace + (t : Int) - f.leastPlace).toNat = t := by omega
  rw [e1]
  have hcut : f.binade ≤ Toward.even.cut neg (m <<< (f.leastPlace + d - b - (f.leastPlace + t)).toNat) (f.leastPlace + t - (f.leastPlace + d - b)).toNat := by
    have hu : f.binade * 2 ^ (t + b) ≤ m * 2 ^ d := by
      rw [hB, ← Nat.pow_add]
      refine Nat.le_trans ?_ hlo
      exact Nat.pow_le_pow_right (by omega) (by omega)
    by_cases hdt : t + b ≤ d
    · have e2 : (f.leastPlace + d - b - (f.leastPlace + t) : Int).toNat = d - (t + b) := by omega
      have e3 : (f.leastPlace + t - (f.leastPlace + d - b) : Int).toNat = 0 := by omega
      rw [e2, e3, Nat.shiftLeft_eq]
      refine cut_ge neg ?_
      rw [Nat.pow_zero, Nat.mul_one]
      have h2 : f.binade * 2 ^ (t + b) ≤ m * 2 ^ (d - (t + b)) * 2 ^ (t + b) := by rw [Nat.mul_assoc, ← Nat.pow_add, Nat.sub_add_cancel hdt]; exact hu
      exact Nat.le_of_mul_le_mul_right h2 (Nat.two_pow_pos _)
    · have e2 : (f.leastPlace + d - b - (f.leastPlace + t) : Int).toNat = 0 := by omega
      have e3 : (f.leastPlace + t - (f.leastPlace + d - b) : Int).toNat = t + b - d := by omega
      rw [e2, e3, Nat.shiftLeft_eq]
      refine cut_ge neg ?_
      rw [Nat.pow_zero, Nat.mul_one]
      have h2 : f.binade * 2 ^ (t + b - d) * 2 ^ d ≤ m * 2 ^ d := by rw [Nat.mul_assoc, ← Nat.pow_add, Nat.sub_add_cancel (by omega)]; exact hu
      exact Nat.le_of_mul_le_mul_right h2 hpd
  refine ⟨_, ?_, Nat.min_le_right .., rfl⟩
  rw [Nat.le_min]
  refine ⟨?_, hci⟩
  have : (c - 1) * f.binade ≤ t * f.binade := Nat.mul_le_mul_right _ (by omega)
  have h3 : (c - 1) * f.binade + f.binade = c * f.binade := by rw [← Nat.succ_mul]; congr 1; omega
  omega

/-- finite, not negative, at most 2^(e - 1023) -/
def Nb (e x : Nat) : Prop := ∃ r, x = double.word false r ∧ r < double.infRung ∧ mval double r ≤ 2 ^ (51 + e)
theorem Nb.bd {e x : Nat} (h : Nb e x) : Bd e x := by obtain ⟨r, h1, h2, h3⟩ := h; exact ⟨false, r, h1, h2, h3⟩
theorem Lb.bd {e x : Nat} (h : Lb e x) : ∃ r, x = double.word false r ∧ r < double.infRung := by obtain ⟨r, h1, h2, _⟩ := h; exact ⟨r, h1, h2⟩
theorem Lb.mono {a b x : Nat} (h : Lb a x) (hab : b ≤ a) : Lb b x := by
  obtain ⟨r, h1, h2, h3⟩ := h
  exact ⟨r, h1, h2, Nat.le_trans (Nat.pow_le_pow_right (by omega) (by omega)) h3⟩

/-- a sum with one that is at least 2^(b - 1023), the other not negative -/
theorem add_lb {a b c x y : Nat} (hx : Lb b x) (hxa : Bd a x) (hy : Nb a y) (hb : 1 ≤ b) (ha : a < c) (hc : c ≤ 2046) : Lb b (fop .add .f64 x y) ∧ Bd c (fop .add .f64 x y) := by
  have hbd := add_bd hxa hy.bd ha ha hc
  refine ⟨?_, hbd⟩
  obtain ⟨r, hx', hr, hv⟩ := hx
  obtain ⟨q, hy', hq, hu⟩ := hy
  rw [hx', hy'] at hbd ⊢
  obtain ⟨T, D, e, he⟩ := add_words double false false hr hq
  rw [fop_of (op := .add) (k := .f64) e] at hbd ⊢
  have hsum : (sv false (mval double r) + sv false (mval double q)).natAbs = mval double r + mval double q := by unfold sv; simp; omega
  rw [hsum] at he
  have hp := Nat.two_pow_pos (51 + b)
  have hneg : (if sv false (mval double r) + sv false (mval double q) = 0 then false && false else decide (sv false (mval double r) + sv false (mval double q) < 0)) = false := by
    unfold sv; simp only [Bool.false_eq_true, ↓reduceIte, Bool.and_false]
    split
    · rfl
    · exact decide_eq_false (by omega)
  rw [hneg] at hbd ⊢
  have hb2 : b ≤ 2046 := by
    have h1 : mval double r < mval double (2047 * double.binade) := mval_lt hr
    rw [mval_pow (by omega)] at h1
    have := exp_lt (a := 51 + b) (b := 51 + 2047) hv h1
    omega
  obtain ⟨r', hr', hri, e'⟩ := nearest_ge_pow double false (m := T) (d := D) (b := 0) (c := b) hb (by rw [inf64]; exact Nat.mul_le_mul_right _ (by omega)) (by
    rw [he, Nat.pow_zero, Nat.mul_one]
    have : double.fractionBits + (b - 1) = 51 + b := by show 52 + (b - 1) = _; omega
    rw [this]; omega)
  have e'' : double.nearest false T (double.leastPlace + (D : Int)) = double.word false r' := by rw [← e']; congr 1; omega
  rw [e''] at hbd ⊢
  obtain ⟨s2, r2, e2, hr2, _⟩ := hbd
  have hsw : ∀ {z : Nat}, z ≤ double.infRung → z < double.signWeight := fun h => Nat.lt_of_le_of_lt h double.infRung_lt
  have : r' = r2 := by
    have h1 := word_rung (f := double) (s := false) (hsw hri)
    have h2 := word_rung (f := double) (s := s2) (hsw (Nat.le_of_lt hr2))
    rw [e2, h2] at h1; exact h1.symm
  exact ⟨r', rfl, by rw [this]; exact hr2, by rw [← mval_pow hb]; exact mval_le hr'⟩

/-! ### narrowing -/
theorem mval_pow32 {c : Nat} (h : 1 ≤ c) : mval single (c * single.binade) = 2 ^ (22 + c) := by
  have hB := binade_pos single
  unfold mval
  have h1 : ¬ c * single.binade < single.binade := by
    have := Nat.mul_le_mul_right single.binade h; omega
  rw [if_neg h1, Nat.mul_mod_left, Nat.mul_div_cancel _ hB, Nat.add_zero]
  have : single.binade = 2 ^ 23 := rfl
  rw [this, ← Nat.pow_add]
  congr 1; omega
theorem narrow_bd {e x : Nat} (h : Bd e x) (he : e ≤ 1149) : ∃ s r, r < single.infRung ∧ floatToFloatBits .f64 x .f32 = some (single.word s r) := by
  obtain ⟨s, q, rfl, hq, hv⟩ := h
  obtain ⟨m, d, e1, e2, _, _⟩ := read_num double s hq
  obtain ⟨K, hK⟩ : ∃ K : Nat, K = 925 := ⟨_, rfl⟩
  obtain ⟨C, hC⟩ : ∃ C : Nat, C = 253 := ⟨_, rfl⟩
  have hpl : double.leastPlace + (d : Int) = single.leastPlace + (d : Int) - (K : Int) := by rw [P64, P32, hK]; omega
  have hle : m * 2 ^ d ≤ mval single (C * single.binade) * 2 ^ K := by
    rw [e2, mval_pow32 (by omega), ← Nat.pow_add]
    refine Nat.le_trans hv (Nat.pow_le_pow_right (by omega) (by omega))
  obtain ⟨r, hr, e3⟩ := nearest_le single s hle
  have hri : r < single.infRung := by
    have : single.infRung = 255 * single.binade := rfl
    rw [this]
    exact Nat.lt_of_le_of_lt hr (Nat.mul_lt_mul_of_pos_right (by omega) (binade_pos _))
  refine ⟨s, r, hri, ?_⟩
  unfold floatToFloatBits
  rw [if_neg (by decide)]
  have hd2 : FloatKind.f64.decode (double.word s q) = .number s m (double.leastPlace + d) := e1
  rw [hd2, hpl]
  simp only [FloatKind.encode, fmt32, Format.write, e3]
  rw [if_neg]
  obtain ⟨m', d', e', _⟩ := read_num single s hri
  simp only [FloatKind.decode, fmt32, e', Datum.isInfinity]
  simp

end Fl
end Go.Proofs.Ytpjgodeabdcdcaa
