/- The angle of a point in 64 bits: bounds. No program; no condition. -/
import Derived.Test.YtpjgodeabdcdcaaLog
namespace Go.Proofs.Ytpjgodeabdcdcaa
open Go.RowKit Fl Ieee
namespace Fl
theorem quo_rel {s : Bool} {r q c K0 : Nat} (hK0 : K0 = 1074) (hr : r < double.infRung) (hq : q < double.infRung) (hq0 : mval double q ≠ 0) (h : mval double r * 2 ^ K0 ≤ 2 ^ (51 + c) * mval double q) (h1 : 1 ≤ c) (hc : c ≤ 2046) : Bd c (fop .quo .f64 (double.word s r) (double.word false q)) := by
  obtain ⟨m, d, n, e, more, h2, h3, h4, hbig, h5⟩ := div_words double s false hr hq hq0
  rw [fop_of (op := .quo) (k := .f64) h5]
  -- in units: the place is least + (d + 1074) - (e + more + 1)
  obtain ⟨K, hK⟩ : ∃ K : Nat, K = 1074 := ⟨_, rfl⟩
  have hpl : ((d : Int) - e - more - 1) = double.leastPlace + ((d + K : Nat) : Int) - ((e + more + 1 : Nat) : Int) := by rw [P64]; omega
  rw [hpl]
  refine bd_nearest _ h1 hc ?_
  rw [← h2, ← h3, hK0, ← hK] at h
  have key : m * 2 ^ more * 2 ^ (d + K) ≤ n * (2 ^ (51 + c) * 2 ^ (e + more)) := by
    have e1 : m * 2 ^ more * 2 ^ (d + K) = m * 2 ^ d * 2 ^ K * 2 ^ more := by
      rw [Nat.mul_assoc, ← Nat.pow_add, Nat.mul_assoc, Nat.mul_assoc, ← Nat.pow_add, ← Nat.pow_add]; congr 2; omega
    have e2 : n * (2 ^ (51 + c) * 2 ^ (e + more)) = 2 ^ (51 + c) * (n * 2 ^ e) * 2 ^ more := by
      rw [Nat.pow_add 2 e more]
      generalize 2 ^ (51 + c) = A
      generalize 2 ^ e = B
      generalize 2 ^ more = C
      rw [Nat.mul_left_comm, ← Nat.mul_assoc n, ← Nat.mul_assoc A]
    rw [e1, e2]
    exact Nat.mul_le_mul_right _ h
  by_cases ht : d + K ≤ 51 + c + (e + more)
  · obtain ⟨t, ht'⟩ : ∃ t, 51 + c + (e + more) = d + K + t := ⟨51 + c + (e + more) - (d + K), by omega⟩
    have h6 : m * 2 ^ more ≤ n * 2 ^ t := by
      have e3 : 2 ^ (51 + c) * 2 ^ (e + more) = 2 ^ t * 2 ^ (d + K) := by rw [← Nat.pow_add, ht', ← Nat.pow_add]; congr 1; omega
      rw [e3, ← Nat.mul_assoc] at key
      exact Nat.le_of_mul_le_mul_right key (Nat.two_pow_pos _)
    refine Nat.le_trans (Nat.mul_le_mul_right _ (quot_le h4 h6)) ?_
    rw [← Nat.pow_add, ← Nat.pow_add]
    exact Nat.pow_le_pow_right (by omega) (by omega)
  · -- the quotient is below one: nothing is left of it but what is told of the rest
    obtain ⟨t, ht'⟩ : ∃ t, d + K = 51 + c + (e + more) + (t + 1) := ⟨d + K - (51 + c + (e + more)) - 1, by omega⟩
    have h6 : m * 2 ^ more * 2 ^ (t + 1) ≤ n := by
      have e3 : 2 ^ (51 + c) * 2 ^ (e + more) = 2 ^ (51 + c + (e + more)) := by rw [← Nat.pow_add]
      have e4 : 2 ^ (d + K) = 2 ^ (t + 1) * 2 ^ (51 + c + (e + more)) := by rw [ht', ← Nat.pow_add]; congr 1; omega
      rw [e3, e4, ← Nat.mul_assoc] at key
      exact Nat.le_of_mul_le_mul_right key (Nat.two_pow_pos _)
    by_cases hm0 : m = 0
    · subst hm0; simp
    · exfalso
      have h7 := hbig hm0
      have h8 : m * 2 ^ more * 2 ≤ m * 2 ^ more * 2 ^ (t + 1) := Nat.mul_le_mul_left _ (by rw [Nat.pow_succ]; have := Nat.two_pow_pos t; omega)
      have h9 : 0 < m * 2 ^ more := Nat.mul_pos (by omega) (Nat.two_pow_pos _)
      omega



theorem nearest_false (m : Nat) (p : Int) : ∃ r', r' ≤ double.infRung ∧ double.nearest false m p = double.word false r' := by
  unfold Format.nearest
  split
  · exact ⟨0, Nat.zero_le _, rfl⟩
  · exact ⟨_, Nat.min_le_right .., rfl⟩
theorem nb_bd {c x r : Nat} (h : Bd c x) (e : x = double.word false r) (hr : r ≤ double.infRung) : Nb c x := by
  obtain ⟨s, q, e2, hq, hv⟩ := h
  have hsw : ∀ {z : Nat}, z ≤ double.infRung → z < double.signWeight := fun h => Nat.lt_of_le_of_lt h double.infRung_lt
  have h1 := word_rung (f := double) (s := false) (hsw hr)
  have h2 := word_rung (f := double) (s := s) (hsw (Nat.le_of_lt hq))
  rw [← e, e2, h2] at h1
  subst h1
  exact ⟨q, e, hq, hv⟩
theorem nb_of_lb {b c x : Nat} (h : Lb b x) (hb : Bd c x) : Nb c x := by
  obtain ⟨r, e, hr, _⟩ := h
  exact nb_bd hb e (Nat.le_of_lt hr)
theorem mul_nb {a b c x y : Nat} (hx : Nb a x) (hy : Nb b y) (h : a + b ≤ c + 1023) (h1 : 1 ≤ c) (hc : c ≤ 2046) : Nb c (fop .mul .f64 x y) := by
  have hb := mul_bd hx.bd hy.bd h h1 hc
  obtain ⟨r, e1, hr, _⟩ := hx
  obtain ⟨q, e2, hq, _⟩ := hy
  obtain ⟨K, hK⟩ : ∃ K : Nat, K = 1074 := ⟨_, rfl⟩
  obtain ⟨T, D, e, he⟩ := mul_words double false false (b := K) (by rw [hK]; exact least64) hr hq
  rw [← e1, ← e2] at e
  obtain ⟨r', hr', en⟩ := nearest_false T (double.leastPlace + D - K)
  exact nb_bd hb ((fop_of (op := .mul) (k := .f64) e).trans en) hr'
theorem quo_nb0 {c r q : Nat} (hr : r < double.infRung) (hq : q < double.infRung) (hq0 : mval double q ≠ 0) (hb : Bd c (fop .quo .f64 (double.word false r) (double.word false q))) : Nb c (fop .quo .f64 (double.word false r) (double.word false q)) := by
  obtain ⟨m, d, n, e, more, _, _, _, _, h5⟩ := div_words double false false hr hq hq0
  obtain ⟨r', hr', en⟩ := nearest_false (2 * (m * 2 ^ more / n) + (m * 2 ^ more % n != 0).toNat) (double.leastPlace + ((d : Int) - e - more - 1) - double.leastPlace)
  have e0 : double.leastPlace + ((d : Int) - e - more - 1) - double.leastPlace = (d : Int) - e - more - 1 := by omega
  rw [e0] at en
  exact nb_bd hb ((fop_of (op := .quo) (k := .f64) h5).trans en) hr'
theorem quo_nb {a b c x y : Nat} (hx : Nb a x) (hy : Lb b y) (h : a + 1023 ≤ c + b) (h1 : 1 ≤ c) (hc : c ≤ 2046) : Nb c (fop .quo .f64 x y) := by
  have hb := quo_bd hx.bd hy h h1 hc
  obtain ⟨r, e1, hr, _⟩ := hx
  obtain ⟨q, e2, hq, hu⟩ := hy
  rw [e1, e2] at hb ⊢
  exact quo_nb0 hr hq (by have := Nat.two_pow_pos (51 + b); omega) hb
theorem sqrt_nb {e c x : Nat} (h : Nb e x) (ho : e % 2 = 1) (hc : e + 1023 ≤ 2 * c) (hc1 : 1 ≤ c) (hc2 : c ≤ 2046) : Nb c (sop x) := by
  have hb := sqrt_bd h.bd ho hc hc1 hc2
  obtain ⟨r, ex, hr, _⟩ := h
  rw [ex] at hb ⊢
  clear ex
  obtain ⟨m, d, e1, e2, _, _⟩ := read_num double false hr
  have key : ∃ M p, double.sqrt (double.word false r) = some (double.nearest false M p) := by
    unfold Format.sqrt; rw [e1]
    by_cases hm : m = 0
    · subst hm; exact ⟨0, _, rfl⟩
    · simp only [Datum.root, if_neg hm]; exact ⟨_, _, rfl⟩
  obtain ⟨M, p, hs⟩ := key
  obtain ⟨r', hr', en⟩ := nearest_false M p
  have hv : sop (double.word false r) = double.word false r' := by unfold sop; rw [hs, Option.getD_some, en]
  rcases hb with g | g
  · rw [hv] at g
    have := isN_word .f64 false (r := r') hr'
    rw [fmt64] at this; rw [this] at g; cases g
  · exact nb_bd g hv hr'

/-! ### the pure form -/
def tstep (t : Nat) : Nat := fop .quo .f64 t (fop .add .f64 one64 (sop (fop .add .f64 one64 (fop .mul .f64 t t))))
def tN (t : Nat) : Nat → Nat
  | 0 => t
  | j + 1 => tstep (tN t j)
def kA (j : Nat) : Nat := floatOfInt .f64 (15 - 2 * j)
def pA (u : Nat) : Nat → Nat
  | 0 => 0
  | j + 1 => fop .sub .f64 (fop .quo .f64 one64 (kA j)) (fop .mul .f64 u (pA u j))
def angA (t : Nat) : Nat := fop .quo .f64 (fop .mul .f64 4620693217682128896 (fop .mul .f64 t (pA (fop .mul .f64 t t) 8))) turn64
def overA (a b : Nat) : Bool := FloatKind.f64.format.order a b == some .gt
def tA (a b : Nat) : Nat := if overA a b then fop .quo .f64 b a else fop .quo .f64 a b
def ang1 (o : Bool) (t : Nat) : Nat := if o then fop .sub .f64 quart64 (angA t) else angA t
def ang2 (o bx : Bool) (t : Nat) : Nat := if bx then fop .sub .f64 half64 (ang1 o t) else ang1 o t
def ang3 (o bx by' : Bool) (t : Nat) : Nat := if by' then Op.negFloat .f64 (ang2 o bx t) else ang2 o bx t

theorem kA_dec : ∀ j, j < 8 → floatBits .sub .f64 (kA j) two64 = some (kA (j + 1)) := by
  have h : ∀ j : Fin 8, floatBits .sub .f64 (kA j.val) two64 = some (kA (j.val + 1)) := by decide +kernel
  intro j hj; exact h ⟨j, hj⟩
theorem kA_on : ∀ j, j < 8 → (FloatKind.f64.format.order (kA j) one64 == some .gt || FloatKind.f64.format.order (kA j) one64 == some .eq) = true := by
  have h : ∀ j : Fin 8, (FloatKind.f64.format.order (kA j.val) one64 == some .gt || FloatKind.f64.format.order (kA j.val) one64 == some .eq) = true := by decide +kernel
  intro j hj; exact h ⟨j, hj⟩
theorem kA_off : (FloatKind.f64.format.order (kA 8) one64 == some .gt || FloatKind.f64.format.order (kA 8) one64 == some .eq) = false := by decide +kernel
theorem kA_fall : ∀ j, j < 8 → fall (kA (j + 1)) < fall (kA j) := by
  have h : ∀ j : Fin 8, fall (kA (j.val + 1)) < fall (kA j.val) := by decide +kernel
  intro j hj; exact h ⟨j, hj⟩
theorem kA_zero : 4624633867356078080 = kA 0 := by decide +kernel
theorem kA_lb : ∀ j, j < 8 → Lb 1023 (kA j) := by
  have h : ∀ j : Fin 8, kA j.val < double.infRung ∧ 1023 * double.binade ≤ kA j.val := by decide +kernel
  intro j hj
  obtain ⟨h1, h2⟩ := h ⟨j, hj⟩
  exact lb_of h2 (by omega) h1
theorem one_lb : Lb 1023 one64 := lb_of (by rw [B64]; decide) (by omega) (by rw [I64]; decide)
theorem one_nb : Nb 1023 one64 := const_nb (by rw [B64]; decide) (by omega) (by omega)
theorem Nb.mono {a b x : Nat} (h : Nb a x) (hab : a ≤ b) : Nb b x := by
  obtain ⟨r, h1, h2, h3⟩ := h
  exact ⟨r, h1, h2, Nat.le_trans h3 (Nat.pow_le_pow_right (by omega) (by omega))⟩
theorem tstep_nb {t : Nat} (h : Nb 1023 t) : Nb 1023 (tstep t) := by
  have h1 := mul_nb (c := 1023) h h (by omega) (by omega) (by omega)
  obtain ⟨h2, h3⟩ := add_lb (c := 1025) one_lb (one_nb.mono (b := 1024) (by omega)).bd (h1.mono (b := 1024) (by omega)) (by omega) (by omega) (by omega)
  have h4 := sqrt_nb (c := 1024) (nb_of_lb h2 h3) (by omega) (by omega) (by omega) (by omega)
  obtain ⟨h5, _⟩ := add_lb (c := 1025) one_lb (one_nb.mono (b := 1024) (by omega)).bd h4 (by omega) (by omega) (by omega)
  exact quo_nb h h5 (by omega) (by omega) (by omega)
theorem pA_bd {u : Nat} (hu : Bd 1023 u) : ∀ j, j ≤ 8 → Bd (1023 + j) (pA u j)
  | 0, _ => const_bd (Nat.zero_le _) (by omega) (by omega)
  | j + 1, h => by
    have ih := pA_bd hu j (by omega)
    unfold pA
    have h1 := quo_bd (c := 1023) one_bd (kA_lb j (by omega)) (by omega) (by omega) (by omega)
    have h2 := mul_bd (c := 1023 + j) hu ih (by omega) (by omega) (by omega)
    exact sub_bd (c := 1023 + (j + 1)) h1 h2 (by omega) (by omega) (by omega)
theorem ang_bd {t : Nat} (h : Nb 1023 t) : Bd 1035 (angA t) := by
  have hu := mul_bd (c := 1023) h.bd h.bd (by omega) (by omega) (by omega)
  have hp := pA_bd hu 8 (by omega)
  have h1 := mul_bd (c := 1031) h.bd hp (by omega) (by omega) (by omega)
  have h2 := mul_bd (c := 1034) (const_bd (e := 1026) (c := 4620693217682128896) (by rw [B64]; decide) (by omega) (by omega)) h1 (by omega) (by omega) (by omega)
  exact quo_bd (c := 1035) h2 (lb_of (e := 1025) (c := turn64) (by rw [B64]; decide) (by omega) (by rw [I64]; decide)) (by omega) (by omega) (by omega)
theorem ang3_bd {t : Nat} (o bx b : Bool) (h : Nb 1023 t) : Bd 1037 (ang3 o bx b t) := by
  have h1 := ang_bd h
  have hq : Bd 1023 quart64 := const_bd (by rw [B64]; decide) (by omega) (by omega)
  have h2 : Bd 1036 (ang1 o t) := by
    unfold ang1; split
    · exact sub_bd hq h1 (by omega) (by omega) (by omega)
    · exact h1.mono (by omega)
  have h3 : Bd 1037 (ang2 o bx t) := by
    unfold ang2; split
    · exact sub_bd half_bd h2 (by omega) (by omega) (by omega)
    · exact h2.mono (by omega)
  unfold ang3; split
  · exact neg_bd h3
  · exact h3
theorem tN_nb {t : Nat} (h : Nb 1023 t) : ∀ j, Nb 1023 (tN t j)
  | 0 => h
  | j + 1 => tstep_nb (tN_nb h j)
/-- the lesser over the greater -/
theorem quo_one {r q : Nat} (hq : q < double.infRung) (h : r ≤ q) (h0 : q ≠ 0) : Nb 1023 (fop .quo .f64 r q) := by
  have hr : r < double.infRung := Nat.lt_of_le_of_lt h hq
  have hq0 : mval double q ≠ 0 := fun e => h0 (mval_zero e)
  obtain ⟨K, hK⟩ : ∃ K : Nat, K = 1074 := ⟨_, rfl⟩
  obtain ⟨C, hC⟩ : ∃ C : Nat, C = 1023 := ⟨_, rfl⟩
  have hb : Bd C (fop .quo .f64 (double.word false r) (double.word false q)) := by
    refine quo_rel hK hr hq hq0 ?_ (by omega) (by omega)
    rw [show 51 + C = K by omega, Nat.mul_comm]
    exact Nat.mul_le_mul_left _ (mval_le h)
  have := quo_nb0 hr hq hq0 hb
  rw [word_false, word_false] at this
  rw [← hC]; exact this
theorem tA_nb {a b : Nat} (ha : a < 9218868437227405312) (hb : b < 9218868437227405312) (h : a ≠ 0 ∨ b ≠ 0) : Nb 1023 (tA a b) := by
  have hg : overA a b = decide (b < a) := by
    unfold overA
    have h1 := order_words double false false (r := a) (q := b) (by rw [I64]; exact ha) (by rw [I64]; exact hb)
    rw [word_false, word_false] at h1
    rw [fmt64, h1, Bool.eq_iff_iff]
    unfold sv
    simp only [Bool.false_eq_true, ↓reduceIte, beq_iff_eq, Option.some.injEq, cmp_gt, decide_eq_true_eq]
    constructor
    · intro h
      rcases Nat.lt_or_ge b a with g | g
      · exact g
      · have := mval_le (f := double) g; omega
    · intro h; exact Int.ofNat_lt.2 (mval_lt h)
  unfold tA
  rw [hg]
  by_cases hlt : b < a
  · rw [if_pos (decide_eq_true hlt)]
    exact quo_one (by rw [I64]; exact ha) (by omega) (by omega)
  · rw [if_neg (by rw [decide_eq_false hlt]; decide)]
    exact quo_one (by rw [I64]; exact hb) (by omega) (by omega)
end Fl
end Go.Proofs.Ytpjgodeabdcdcaa
