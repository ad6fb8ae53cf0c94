/- Plain facts on floating-point words: which number a word stands for, in units of the least one; that writing a number that a word has gives that word; that rounding keeps an upper bound. No program; no condition. -/
import Derived.Test.YtildgnfonpghmaaFl
namespace Go.Proofs.Ytildgnfonpghmaa
namespace Fl
open Ieee

/-- the magnitude of a rung, in units of the least number -/
def mval (f : Format) (r : Nat) : Nat := if r < f.binade then r else (f.binade + r % f.binade) * 2 ^ (r / f.binade - 1)

theorem binade_pos (f : Format) : 0 < f.binade := Nat.two_pow_pos _

theorem mval_zero {f : Format} {r : Nat} (h : mval f r = 0) : r = 0 := by
  unfold mval at h
  split at h
  · exact h
  · have := binade_pos f
    rcases Nat.mul_eq_zero.1 h with h | h
    · omega
    · have := Nat.two_pow_pos (r / f.binade - 1); omega

/-- what is left of a number that is cut where nothing is lost -/
theorem cut_exact (neg : Bool) (c drop : Nat) : Toward.even.cut neg (c * 2 ^ drop) drop = c := by
  by_cases hc : c = 0
  · subst hc
    simp [Toward.cut]
  · have hl : drop ≤ (c * 2 ^ drop).log2 := by
      rw [Nat.le_log2 (by have := Nat.two_pow_pos drop; exact Nat.ne_of_gt (Nat.mul_pos (by omega) this))]
      exact Nat.le_mul_of_pos_left _ (by omega)
    have hm : min drop ((c * 2 ^ drop).log2 + 2) = drop := by omega
    have hp := Nat.two_pow_pos drop
    unfold Toward.cut
    simp only [hm, Nat.one_shiftLeft]
    rw [Nat.mul_mod_left, Nat.mul_div_cancel _ hp]
    simp

theorem cut_le (neg : Bool) {n drop u : Nat} (h : n ≤ u * 2 ^ drop) : Toward.even.cut neg n drop ≤ u := by
  unfold Toward.cut
  by_cases hd : drop ≤ n.log2 + 2
  · have hm : min drop (n.log2 + 2) = drop := by omega
    simp only [hm, Nat.one_shiftLeft]
    have hp := Nat.two_pow_pos drop
    have h1 : n / 2 ^ drop ≤ u := by
      rw [Nat.div_le_iff_le_mul hp]; omega
    by_cases he : n / 2 ^ drop = u
    · have hr : n % 2 ^ drop = 0 := by
        have h3 := Nat.div_add_mod n (2 ^ drop)
        rw [he, Nat.mul_comm] at h3
        omega
      simp only [hr, he]
      have : (2 ^ drop == 0) = false := by rw [beq_eq_false_iff_ne]; omega
      simp [this]
    · have h2 : ∀ b : Bool, b.toNat ≤ 1 := by intro b; cases b <;> simp
      have := h2 (decide (2 ^ drop < 2 * (n % 2 ^ drop)) || 2 ^ drop == 2 * (n % 2 ^ drop) && n / 2 ^ drop % 2 == 1)
      omega
  · have hm : min drop (n.log2 + 2) = n.log2 + 2 := by omega
    simp only [hm, Nat.one_shiftLeft]
    have hlt : n < 2 ^ (n.log2 + 1) := Nat.lt_log2_self
    have hg : 2 ^ (n.log2 + 2) = 2 * 2 ^ (n.log2 + 1) := by rw [Nat.pow_succ, Nat.mul_comm]
    have h0 : n / 2 ^ (n.log2 + 2) = 0 := Nat.div_eq_of_lt (by omega)
    have h1 : n % 2 ^ (n.log2 + 2) = n := Nat.mod_eq_of_lt (by omega)
    rw [h0, h1, hg]
    have a1 : ¬ 2 * 2 ^ (n.log2 + 1) < 2 * n := by omega
    have a2 : (2 * 2 ^ (n.log2 + 1) == 2 * n) = false := by rw [beq_eq_false_iff_ne]; omega
    simp only [a2, decide_eq_false a1]
    simp

theorem log2_bounds {m : Nat} (h : m ≠ 0) : 2 ^ m.log2 ≤ m ∧ m < 2 ^ (m.log2 + 1) := ⟨Nat.log2_self_le h, Nat.lt_log2_self⟩

/-- 2^a ≤ x and x < 2^b: a < b -/
theorem exp_lt {a b x : Nat} (h1 : 2 ^ a ≤ x) (h2 : x < 2 ^ b) : a < b := (Nat.pow_lt_pow_iff_right (by omega)).1 (Nat.lt_of_le_of_lt h1 h2)

/-- A NUMBER THAT A WORD HAS IS WRITTEN AS THAT WORD. 'm * 2^d' units, cut by 2^b. -/
theorem nearest_exact (f : Format) (neg : Bool) {m d b r : Nat} (h : m * 2 ^ d = mval f r * 2 ^ b) (hr : r < f.infRung) :
    f.nearest neg m (f.leastPlace + d - b) = f.word neg r := by
  unfold Format.nearest
  by_cases hm : m = 0
  · subst hm
    have : mval f r = 0 := by
      have hp := Nat.two_pow_pos b
      rw [Nat.zero_mul] at h
      rcases Nat.mul_eq_zero.1 h.symm with h | h <;> omega
    rw [if_pos rfl, mval_zero this]
  · rw [if_neg hm]
    obtain ⟨hL1, hL2⟩ := log2_bounds hm
    generalize m.log2 = L at *
    have hpd := Nat.two_pow_pos d
    have hpb := Nat.two_pow_pos b
    -- the kept number and the place of its last digit
    have key : ∃ t c : Nat, (max (f.leastPlace + d - b + L - f.fractionBits) f.leastPlace : Int) = f.leastPlace + t ∧ m * 2 ^ d = c * 2 ^ (t + b) ∧ t * f.binade + c = r := by
      unfold mval at h
      have hB : f.binade = 2 ^ f.fractionBits := rfl
      by_cases hrB : r < f.binade
      · rw [if_pos hrB] at h
        refine ⟨0, r, ?_, by simpa using h, by omega⟩
        have : L + d < f.fractionBits + b := by
          refine exp_lt (x := m * 2 ^ d) ?_ ?_
          · rw [Nat.pow_add]; exact Nat.mul_le_mul_right _ hL1
          · rw [h, Nat.pow_add, ← hB]; exact (Nat.mul_lt_mul_right hpb).2 hrB
        omega
      · rw [if_neg hrB] at h
        have hq : 1 ≤ r / f.binade := (Nat.le_div_iff_mul_le (binade_pos f)).2 (by omega)
        have hmod := Nat.mod_lt r (binade_pos f)
        have hdm := Nat.div_add_mod r f.binade
        generalize r / f.binade = q at *
        generalize r % f.binade = ρ at *
        refine ⟨q - 1, f.binade + ρ, ?_, by rw [h, Nat.mul_assoc, ← Nat.pow_add], ?_⟩
        · have e : m * 2 ^ d = (f.binade + ρ) * 2 ^ (q - 1 + b) := by rw [h, Nat.mul_assoc, ← Nat.pow_add]
          have lo : f.fractionBits + (q - 1 + b) < L + 1 + d := by
            refine exp_lt (x := m * 2 ^ d) ?_ ?_
            · rw [e, Nat.pow_add, ← hB]; exact Nat.mul_le_mul_right _ (by omega)
            · rw [Nat.pow_add]; exact (Nat.mul_lt_mul_right hpd).2 hL2
          have hi : L + d < f.fractionBits + 1 + (q - 1 + b) := by
            refine exp_lt (x := m * 2 ^ d) ?_ ?_
            · rw [Nat.pow_add]; exact Nat.mul_le_mul_right _ hL1
            · rw [e, Nat.pow_add 2 (f.fractionBits + 1), Nat.pow_succ, ← hB]; exact (Nat.mul_lt_mul_right (Nat.two_pow_pos _)).2 (by omega)
          omega
        · have : (q - 1) * f.binade + f.binade = q * f.binade := by rw [← Nat.succ_mul]; congr 1; omega
          rw [Nat.mul_comm] at hdm
          omega
    obtain ⟨t, c, hlast, hc, hsum⟩ := key
    simp only [hlast]
    have e1 : (f.leastPlace + (t : Int) - f.leastPlace).toNat = t := by omega
    rw [e1]
    have hcut : Toward.even.cut neg (m <<< (f.leastPlace + d - b - (f.leastPlace + t)).toNat) (f.leastPlace + t - (f.leastPlace + d - b)).toNat = c := by
      by_cases hdt : t + b ≤ d
      · have e2 : (f.leastPlace + d - b - (f.leastPlace + t) : Int).toNat = d - (t + b) := by omega
        have e3 : (f.leastPlace + t - (f.leastPlace + d - b) : Int).toNat = 0 := by omega
        rw [e2, e3, Nat.shiftLeft_eq]
        have : m * 2 ^ (d - (t + b)) = c := by
          have h2 : m * 2 ^ (d - (t + b)) * 2 ^ (t + b) = c * 2 ^ (t + b) := by rw [Nat.mul_assoc, ← Nat.pow_add, Nat.sub_add_cancel hdt, hc]
          exact Nat.eq_of_mul_eq_mul_right (Nat.two_pow_pos _) h2
        rw [this]
        have := cut_exact neg c 0
        simpa using this
      · have e2 : (f.leastPlace + d - b - (f.leastPlace + t) : Int).toNat = 0 := by omega
        have e3 : (f.leastPlace + t - (f.leastPlace + d - b) : Int).toNat = t + b - d := by omega
        rw [e2, e3, Nat.shiftLeft_eq]
        have : m = c * 2 ^ (t + b - d) := by
          have h2 : m * 2 ^ d = c * 2 ^ (t + b - d) * 2 ^ d := by rw [Nat.mul_assoc, ← Nat.pow_add, Nat.sub_add_cancel (by omega), hc]
          exact Nat.eq_of_mul_eq_mul_right hpd h2
        rw [this, Nat.pow_zero, Nat.mul_one]
        exact cut_exact neg c _
    rw [hcut, hsum, Nat.min_eq_left (by omega)]

/-- ROUNDING KEEPS AN UPPER BOUND that is a number of the format. -/
theorem nearest_le (f : Format) (neg : Bool) {m d b r : Nat} (h : m * 2 ^ d ≤ mval f r * 2 ^ b) :
    ∃ r', r' ≤ r ∧ f.nearest neg m (f.leastPlace + d - b) = f.word neg r' := by
  unfold Format.nearest
  by_cases hm : m = 0
  · exact ⟨0, Nat.zero_le _, by rw [if_pos hm]⟩
  · rw [if_neg hm]
    obtain ⟨hL1, hL2⟩ := log2_bounds hm
    generalize m.log2 = L at *
    have hpd := Nat.two_pow_pos d
    have hpb := Nat.two_pow_pos b
    have hB : f.binade = 2 ^ f.fractionBits := rfl
    have hlo : 2 ^ (L + d) ≤ m * 2 ^ d := by rw [Nat.pow_add]; exact Nat.mul_le_mul_right _ hL1
    have hhi : m * 2 ^ d < 2 ^ (L + 1 + d) := by rw [Nat.pow_add]; exact (Nat.mul_lt_mul_right hpd).2 hL2
    -- the cut number is at most every u that bounds it
    have hcut : ∀ t u : Nat, m * 2 ^ d ≤ u * 2 ^ (t + b) → Toward.even.cut neg (m <<< (f.leastPlace + d - b - (f.leastPlace + t)).toNat) (f.leastPlace + t - (f.leastPlace + d - b)).toNat ≤ u := by
      intro t u hu
      by_cases hdt : t + b ≤ d
      · have e2 : (f.leastPlace + d - b - (f.leastPlace + t) : Int).toNat = d - (t + b) := by omega
        have e3 : (f.leastPlace + t - (f.leastPlace + d - b) : Int).toNat = 0 := by omega
        rw [e2, e3, Nat.shiftLeft_eq]
        refine cut_le neg ?_
        rw [Nat.pow_zero, Nat.mul_one]
        have h2 : m * 2 ^ (d - (t + b)) * 2 ^ (t + b) ≤ u * 2 ^ (t + b) := by rw [Nat.mul_assoc, ← Nat.pow_add, Nat.sub_add_cancel hdt]; exact hu
        exact Nat.le_of_mul_le_mul_right h2 (Nat.two_pow_pos _)
      · have e2 : (f.leastPlace + d - b - (f.leastPlace + t) : Int).toNat = 0 := by omega
        have e3 : (f.leastPlace + t - (f.leastPlace + d - b) : Int).toNat = t + b - d := by omega
        rw [e2, e3, Nat.shiftLeft_eq]
        refine cut_le neg ?_
        rw [Nat.pow_zero, Nat.mul_one]
        have h2 : m * 2 ^ d ≤ u * 2 ^ (t + b - d) * 2 ^ d := by rw [Nat.mul_assoc, ← Nat.pow_add, Nat.sub_add_cancel (by omega)]; exact hu
        exact Nat.le_of_mul_le_mul_right h2 hpd
    have key : ∃ t : Nat, (max (f.leastPlace + d - b + L - f.fractionBits) f.leastPlace : Int) = f.leastPlace + t ∧
        ∀ c, c = Toward.even.cut neg (m <<< (f.leastPlace + d - b - (f.leastPlace + t)).toNat) (f.leastPlace + t - (f.leastPlace + d - b)).toNat → t * f.binade + c ≤ r := by
      unfold mval at h
      by_cases ht : L + d ≤ f.fractionBits + b
      · refine ⟨0, by omega, ?_⟩
        intro c hc
        have h2B : c ≤ 2 * f.binade := by
          rw [hc]
          refine hcut 0 _ ?_
          have : m * 2 ^ d < 2 ^ (f.fractionBits + 1 + b) := Nat.lt_of_lt_of_le hhi (Nat.pow_le_pow_right (by omega) (by omega))
          rw [Nat.pow_add, Nat.pow_succ, ← hB] at this
          rw [Nat.zero_add, Nat.mul_comm 2]
          omega
        by_cases hrB : r < f.binade
        · rw [if_pos hrB] at h
          have : c ≤ r := by rw [hc]; exact hcut 0 _ (by simpa using h)
          omega
        · rw [if_neg hrB] at h
          have hq : 1 ≤ r / f.binade := (Nat.le_div_iff_mul_le (binade_pos f)).2 (by omega)
          have hdm := Nat.div_add_mod r f.binade
          by_cases hq1 : r / f.binade = 1
          · have : c ≤ f.binade + r % f.binade := by rw [hc]; refine hcut 0 _ ?_; rw [hq1] at h; simpa using h
            rw [hq1] at hdm
            omega
          · have : f.binade * 2 ≤ f.binade * (r / f.binade) := Nat.mul_le_mul_left _ (by omega)
            omega
      · obtain ⟨t, ht'⟩ : ∃ t, L + d = f.fractionBits + b + t := ⟨L + d - (f.fractionBits + b), by omega⟩
        refine ⟨t, by omega, ?_⟩
        intro c hc
        have h2B : c ≤ 2 * f.binade := by
          rw [hc]
          refine hcut t _ ?_
          have : m * 2 ^ d < 2 ^ (f.fractionBits + 1 + (t + b)) := Nat.lt_of_lt_of_le hhi (Nat.pow_le_pow_right (by omega) (by omega))
          rw [Nat.pow_add, Nat.pow_succ, ← hB] at this
          rw [Nat.mul_comm 2]
          omega
        by_cases hrB : r < f.binade
        · rw [if_pos hrB] at h
          have : L + d < f.fractionBits + b := by
            refine exp_lt hlo (Nat.lt_of_le_of_lt h ?_)
            rw [Nat.pow_add, ← hB]; exact (Nat.mul_lt_mul_right hpb).2 hrB
          omega
        · rw [if_neg hrB] at h
          have hq : 1 ≤ r / f.binade := (Nat.le_div_iff_mul_le (binade_pos f)).2 (by omega)
          have hdm := Nat.div_add_mod r f.binade
          have hmod := Nat.mod_lt r (binade_pos f)
          generalize r / f.binade = q at *
          generalize r % f.binade = ρ at *
          have h' : m * 2 ^ d ≤ (f.binade + ρ) * 2 ^ (q - 1 + b) := by rw [Nat.pow_add, ← Nat.mul_assoc]; exact h
          have : L + d < f.fractionBits + 1 + (q - 1 + b) := by
            refine exp_lt hlo (Nat.lt_of_le_of_lt h' ?_)
            rw [Nat.pow_add 2 (f.fractionBits + 1), Nat.pow_succ, ← hB]; exact (Nat.mul_lt_mul_right (Nat.two_pow_pos _)).2 (by omega)
          by_cases hqt : q - 1 = t
          · have : c ≤ f.binade + ρ := by rw [hc]; exact hcut t _ (by rw [← hqt]; exact h')
            have e : (q - 1) * f.binade + f.binade = q * f.binade := by rw [← Nat.succ_mul]; congr 1; omega
            rw [Nat.mul_comm] at hdm
            rw [← hqt]
            omega
          · have : (t + 2) * f.binade ≤ q * f.binade := Nat.mul_le_mul_right _ (by omega)
            rw [Nat.add_mul] at this
            rw [Nat.mul_comm] at hdm
            omega
    obtain ⟨t, hlast, hle⟩ := key
    simp only [hlast]
    have e1 : (f.leastPlace + (t : Int) - f.leastPlace).toNat = t := by omega
    rw [e1]
    have := hle _ rfl
    exact ⟨_, Nat.le_trans (Nat.min_le_left ..) this, rfl⟩

/-! ### words and what they stand for -/
theorem mval_lt {f : Format} {r s : Nat} (h : r < s) : mval f r < mval f s := by
  have hB := binade_pos f
  unfold mval
  by_cases h2 : s < f.binade
  · rw [if_pos h2, if_pos (by omega)]; exact h
  · rw [if_neg h2]
    have hp := Nat.two_pow_pos (s / f.binade - 1)
    have hge : f.binade + s % f.binade ≤ (f.binade + s % f.binade) * 2 ^ (s / f.binade - 1) := Nat.le_mul_of_pos_right _ hp
    by_cases h1 : r < f.binade
    · rw [if_pos h1]; omega
    · rw [if_neg h1]
      have d1 := Nat.div_add_mod r f.binade
      have d2 := Nat.div_add_mod s f.binade
      have m1 := Nat.mod_lt r hB
      have m2 := Nat.mod_lt s hB
      have q1 : 1 ≤ r / f.binade := (Nat.le_div_iff_mul_le hB).2 (by omega)
      have q12 : r / f.binade ≤ s / f.binade := Nat.div_le_div_right (by omega)
      generalize r / f.binade = q at *
      generalize s / f.binade = p at *
      generalize r % f.binade = ρ at *
      generalize s % f.binade = σ at *
      by_cases e : q = p
      · subst e
        exact (Nat.mul_lt_mul_right hp).2 (by omega)
      · have l1 : (f.binade + ρ) * 2 ^ (q - 1) < f.binade * 2 * 2 ^ (q - 1) := (Nat.mul_lt_mul_right (Nat.two_pow_pos _)).2 (by omega)
        have l2 : f.binade * 2 * 2 ^ (q - 1) = f.binade * 2 ^ q := by
          rw [Nat.mul_assoc, ← Nat.pow_succ']; congr 2; omega
        have l3 : f.binade * 2 ^ q ≤ f.binade * 2 ^ (p - 1) := Nat.mul_le_mul_left _ (Nat.pow_le_pow_right (by omega) (by omega))
        have l4 : f.binade * 2 ^ (p - 1) ≤ (f.binade + σ) * 2 ^ (p - 1) := Nat.mul_le_mul_right _ (by omega)
        omega
theorem mval_inj {f : Format} {r s : Nat} (h : mval f r = mval f s) : r = s := by
  rcases Nat.lt_trichotomy r s with g | g | g
  · have := mval_lt (f := f) g; omega
  · exact g
  · have := mval_lt (f := f) g; omega
theorem mval_le {f : Format} {r s : Nat} (h : r ≤ s) : mval f r ≤ mval f s := by
  rcases Nat.lt_or_eq_of_le h with g | g
  · exact Nat.le_of_lt (mval_lt g)
  · rw [g]; exact Nat.le_refl _
theorem le_of_mval {f : Format} {r s : Nat} (h : mval f r ≤ mval f s) : r ≤ s := by
  rcases Nat.lt_or_ge s r with g | g
  · have := mval_lt (f := f) g; omega
  · exact g
theorem mval_small {f : Format} {r : Nat} (h : r < f.binade) : mval f r = r := by unfold mval; rw [if_pos h]

/-- a number of few digits stands in the format -/
theorem repr (f : Format) (c e : Nat) (hc : c < 2 * f.binade) : ∃ r, mval f r = c * 2 ^ e ∧ r < (e + 2) * f.binade := by
  have hB : f.binade = 2 ^ f.fractionBits := rfl
  have hBp := binade_pos f
  by_cases h0 : c = 0
  · exact ⟨0, by rw [mval_small hBp, h0, Nat.zero_mul], by rw [Nat.add_mul]; omega⟩
  · obtain ⟨l1, l2⟩ := log2_bounds h0
    generalize c.log2 = l at *
    have hl : l ≤ f.fractionBits := by
      have : l < f.fractionBits + 1 := exp_lt l1 (by rw [Nat.pow_succ, ← hB]; omega)
      omega
    by_cases hs : e + l < f.fractionBits
    · have hlt : c * 2 ^ e < f.binade := by
        have a : c * 2 ^ e < 2 ^ (l + 1) * 2 ^ e := (Nat.mul_lt_mul_right (Nat.two_pow_pos _)).2 l2
        rw [← Nat.pow_add] at a
        have b : 2 ^ (l + 1 + e) ≤ f.binade := by rw [hB]; exact Nat.pow_le_pow_right (by omega) (by omega)
        omega
      exact ⟨c * 2 ^ e, mval_small hlt, by rw [Nat.add_mul]; omega⟩
    · obtain ⟨t, ht⟩ : ∃ t, e + l = f.fractionBits + t := ⟨e + l - f.fractionBits, by omega⟩
      obtain ⟨u, hu⟩ : ∃ u, f.fractionBits = l + u := ⟨f.fractionBits - l, by omega⟩
      have lo : f.binade ≤ c * 2 ^ u := by rw [hB, hu, Nat.pow_add]; exact Nat.mul_le_mul_right _ l1
      have hi : c * 2 ^ u < 2 * f.binade := by
        have : c * 2 ^ u < 2 ^ (l + 1) * 2 ^ u := (Nat.mul_lt_mul_right (Nat.two_pow_pos _)).2 l2
        rw [hB, hu, Nat.mul_comm 2, ← Nat.pow_succ]
        rw [← Nat.pow_add] at this
        have e1 : l + 1 + u = (l + u).succ := by omega
        rw [← e1]; exact this
      refine ⟨t * f.binade + c * 2 ^ u, ?_, ?_⟩
      · have hq : (t * f.binade + c * 2 ^ u) / f.binade = t + 1 := by
          have : t * f.binade + c * 2 ^ u = (c * 2 ^ u - f.binade) + f.binade * (t + 1) := by rw [Nat.mul_add, Nat.mul_comm f.binade t]; omega
          rw [this, Nat.add_mul_div_left _ _ hBp, Nat.div_eq_of_lt (by omega)]; omega
        have hρ : (t * f.binade + c * 2 ^ u) % f.binade = c * 2 ^ u - f.binade := by
          have : t * f.binade + c * 2 ^ u = (c * 2 ^ u - f.binade) + f.binade * (t + 1) := by rw [Nat.mul_add, Nat.mul_comm f.binade t]; omega
          rw [this, Nat.add_mul_mod_self_left, Nat.mod_eq_of_lt (by omega)]
        unfold mval
        rw [if_neg (by omega), hq, hρ]
        have : f.binade + (c * 2 ^ u - f.binade) = c * 2 ^ u := by omega
        rw [this, Nat.mul_assoc, ← Nat.pow_add]
        congr 2; omega
      · have : t ≤ e := by omega
        have : t * f.binade ≤ e * f.binade := Nat.mul_le_mul_right _ this
        rw [Nat.add_mul]; omega

theorem word_sign {f : Format} {s : Bool} {r : Nat} (h : r < f.signWeight) : (f.word s r / f.signWeight % 2 == 1) = s := by
  unfold Format.word
  cases s
  · simp [Nat.div_eq_of_lt h]
  · simp only [if_true]
    have : (f.signWeight + r) / f.signWeight = 1 := by
      rw [Nat.add_div_left _ (by omega), Nat.div_eq_of_lt h]
    rw [this]; rfl
theorem word_rung {f : Format} {s : Bool} {r : Nat} (h : r < f.signWeight) : f.word s r % f.signWeight = r := by
  unfold Format.word
  cases s
  · simp [Nat.mod_eq_of_lt h]
  · simp [Nat.mod_eq_of_lt h]
theorem word_split (f : Format) {w : Nat} (h : w < 2 * f.signWeight) : w = f.word (w / f.signWeight % 2 == 1) (w % f.signWeight) := by
  have hd := Nat.div_add_mod w f.signWeight
  have h2 : w / f.signWeight < 2 := Nat.div_lt_of_lt_mul (by omega)
  unfold Format.word
  generalize w / f.signWeight = q at *
  have : q = 0 ∨ q = 1 := by omega
  rcases this with e | e
  · rw [e] at hd ⊢; simp; simp at hd; exact hd.symm
  · rw [e] at hd ⊢; simp; simp at hd; exact hd.symm

/-- reading a finite word -/
theorem read_num (f : Format) (s : Bool) {r : Nat} (h : r < f.infRung) : ∃ m d : Nat, f.read (f.word s r) = .number s m (f.leastPlace + d) ∧ m * 2 ^ d = mval f r ∧ m < 2 * f.binade ∧ (d = 0 ∨ f.binade ≤ m) := by
  have hsw := Nat.lt_trans h f.infRung_lt
  have hBp := binade_pos f
  unfold Format.read
  simp only [word_rung hsw, word_sign hsw]
  by_cases hb : r < f.binade
  · exact ⟨r, 0, by rw [if_pos hb]; simp, by rw [mval_small hb]; simp, by omega, .inl rfl⟩
  · refine ⟨f.binade + r % f.binade, r / f.binade - 1, by rw [if_neg hb, if_pos h], ?_, ?_, .inr (by omega)⟩
    · unfold mval; rw [if_neg hb]
    · have := Nat.mod_lt r hBp; omega
theorem read_inf (f : Format) (s : Bool) (hb : f.binade ≤ f.infRung) : f.read (f.word s f.infRung) = .infinity s := by
  have hsw := f.infRung_lt
  unfold Format.read
  simp only [word_rung hsw, word_sign hsw]
  rw [if_neg (by omega), if_neg (by omega), if_pos trivial]

end Fl
end Go.Proofs.Ytildgnfonpghmaa
