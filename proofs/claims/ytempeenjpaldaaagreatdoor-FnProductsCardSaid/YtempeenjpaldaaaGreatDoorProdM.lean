/- Whole numbers in floating point, and the walk of the law FnProducts: it returns true for all bytes. -/
import Derived.Test.YtempeenjpaldaaaGreatDoorFlA
import Derived.Test.YtempeenjpaldaaaGreatDoorNumsA
import Derived.Test.YtempeenjpaldaaaGreatDoorSZ2
import Derived.Test.YtempeenjpaldaaaGreatDoorPDraw
import Derived.Test.YtempeenjpaldaaaGreatDoorPRound
import Derived.Test.YtempeenjpaldaaaGreatDoorPCxE
import Derived.Test.YtempeenjpaldaaaGreatDoorLaidR
namespace Go.Proofs.YtempeenjpaldaaaGreatDoor
namespace Fl
open Ieee
/-- the bits stand for the whole number n (either zero for 0) -/
def Iv (k : FloatKind) (v : Nat) (n : Int) : Prop := ∃ (s : Bool) (q K : Nat), (K : Int) = - k.format.leastPlace ∧ v = k.format.word s q ∧ q < k.format.infRung ∧ sv s (mval k.format q) = n * ((2 ^ K : Nat) : Int)
/-- a number of few digits -/
def Few (k : FloatKind) (n : Int) : Prop := n.natAbs < 2 * k.format.binade
theorem least_place (k : FloatKind) : ∃ K : Nat, (K : Int) = - k.format.leastPlace ∧ (K + 2) * k.format.binade ≤ k.format.infRung := by
  cases k
  · obtain ⟨K, hK⟩ : ∃ K : Nat, K = 149 := ⟨_, rfl⟩
    refine ⟨K, by rw [fmt32, P32, hK]; rfl, ?_⟩
    rw [fmt32, B32, I32, hK]
    omega
  · obtain ⟨K, hK⟩ : ∃ K : Nat, K = 1074 := ⟨_, rfl⟩
    refine ⟨K, by rw [fmt64, P64, hK]; rfl, ?_⟩
    rw [fmt64, B64, I64, hK]
    omega
theorem sv_zero (s : Bool) : sv s 0 = 0 := by cases s <;> rfl
theorem sv_int (n : Int) : sv (decide (n < 0)) n.natAbs = n := by
  unfold sv
  by_cases h : n < 0
  · rw [if_pos (by rw [decide_eq_true h])]; omega
  · rw [if_neg (by rw [decide_eq_false h]; decide)]; omega
/-- what is written of a whole number -/
theorem near_int (k : FloatKind) (n : Int) (hn : Few k n) (s : Bool) (hs : n = 0 ∨ s = decide (n < 0)) {K m d b : Nat} (hK : (K : Int) = - k.format.leastPlace) (h : m * 2 ^ d = n.natAbs * 2 ^ K * 2 ^ b) :
    ∃ q, q < k.format.infRung ∧ mval k.format q = n.natAbs * 2 ^ K ∧ k.format.nearest s m (k.format.leastPlace + d - b) = k.format.word s q ∧ Iv k (k.format.word s q) n := by
  obtain ⟨K', hK', hroom⟩ := least_place k
  obtain rfl : K = K' := by omega
  obtain ⟨q, q1, q2⟩ := repr k.format n.natAbs K hn
  have hq : q < k.format.infRung := Nat.lt_of_lt_of_le q2 hroom
  have e := nearest_exact k.format s (m := m) (d := d) (b := b) (r := q) (by rw [q1]; exact h) hq
  refine ⟨q, hq, q1, e, s, q, K, hK, rfl, hq, ?_⟩
  rw [q1, sv_mul]
  rcases hs with rfl | rfl
  · rw [Int.natAbs_zero, sv_zero]
  · rw [sv_int]
theorem near_int0 (k : FloatKind) (n : Int) (hn : Few k n) (s : Bool) (hs : n = 0 ∨ s = decide (n < 0)) {K m d : Nat} (hK : (K : Int) = - k.format.leastPlace) (h : m * 2 ^ d = n.natAbs * 2 ^ K) :
    ∃ q, q < k.format.infRung ∧ mval k.format q = n.natAbs * 2 ^ K ∧ k.format.nearest s m (k.format.leastPlace + d) = k.format.word s q ∧ Iv k (k.format.word s q) n := by
  have := near_int k n hn s hs hK (m := m) (d := d) (b := 0) (by rw [h, Nat.pow_zero, Nat.mul_one])
  rwa [show k.format.leastPlace + (d : Int) - ((0 : Nat) : Int) = k.format.leastPlace + d by omega] at this
theorem pow_int_pos (K : Nat) : (0 : Int) < ((2 ^ K : Nat) : Int) := by have := Nat.two_pow_pos K; omega
theorem zero_of_pow {n : Int} {K : Nat} (h : n * ((2 ^ K : Nat) : Int) = 0) : n = 0 := by
  rcases Int.mul_eq_zero.1 h with h | h
  · exact h
  · have := pow_int_pos K; omega
theorem neg_of_pow {n : Int} {K : Nat} : n * ((2 ^ K : Nat) : Int) < 0 ↔ n < 0 := by
  constructor
  · intro h; exact Int.lt_of_mul_lt_mul_right (by rw [Int.zero_mul]; exact h) (Int.le_of_lt (pow_int_pos K))
  · intro h
    have := Int.mul_lt_mul_of_pos_right h (pow_int_pos K)
    rwa [Int.zero_mul] at this
theorem abs_pow (n : Int) (K : Nat) : (n * ((2 ^ K : Nat) : Int)).natAbs = n.natAbs * 2 ^ K := by rw [Int.natAbs_mul, Int.natAbs_natCast]
theorem iv_abs {s : Bool} {v : Nat} {n : Int} {K : Nat} (h : sv s v = n * ((2 ^ K : Nat) : Int)) : v = n.natAbs * 2 ^ K := by
  rw [← sv_abs s v, h, abs_pow]
theorem iv_sign {s : Bool} {v : Nat} {n : Int} {K : Nat} (h : sv s v = n * ((2 ^ K : Nat) : Int)) : n = 0 ∨ s = decide (n < 0) := by
  by_cases h0 : n = 0
  · exact .inl h0
  · right
    have hne : sv s v ≠ 0 := fun e => h0 (zero_of_pow (by rw [← h, e]))
    have hlt : sv s v < 0 ↔ n < 0 := by rw [h]; exact neg_of_pow
    cases s with
    | true =>
      symm
      apply decide_eq_true
      apply hlt.1
      unfold sv at hne ⊢
      simp at hne ⊢
      omega
    | false =>
      symm
      apply decide_eq_false
      intro g
      have := hlt.2 g
      unfold sv at this
      simp at this
      omega
/-- an integer as a float -/
theorem iv_ofInt (k : FloatKind) (n : Int) (hn : Few k n) : Iv k (floatOfInt k n) n ∧ ∃ q, q < k.format.infRung ∧ floatOfInt k n = k.format.word (decide (n < 0)) q := by
  obtain ⟨K, hK, _⟩ := least_place k
  obtain ⟨q, hq, _, e, hi⟩ := near_int0 k n hn (decide (n < 0)) (.inr rfl) hK (m := n.natAbs) (d := K) rfl
  have he : floatOfInt k n = k.format.word (decide (n < 0)) q := by
    rw [← e]
    unfold floatOfInt FloatKind.nearest FloatKind.encode
    simp only [Format.write]
    congr 1
    omega
  rw [he]
  exact ⟨hi, q, hq, rfl⟩
/-- which bits a whole number without a minus has -/
theorem iv_plain {k : FloatKind} {q K : Nat} {n : Int} (hK : (K : Int) = - k.format.leastPlace) (hn : Few k n) (h0 : 0 ≤ n) (hm : mval k.format q = n.natAbs * 2 ^ K) : k.format.word false q = floatOfInt k n := by
  obtain ⟨q2, hq2, hm2, e, hi⟩ := near_int0 k n hn (decide (n < 0)) (.inr rfl) hK (m := n.natAbs) (d := K) rfl
  have he : floatOfInt k n = k.format.word (decide (n < 0)) q2 := by
    rw [← e]
    unfold floatOfInt FloatKind.nearest FloatKind.encode
    simp only [Format.write]
    congr 1
    omega
  rw [he, decide_eq_false (by omega), mval_inj (hm.trans hm2.symm)]
theorem iv_add {k : FloatKind} {v w : Nat} {a c : Int} (hv : Iv k v a) (hw : Iv k w c) (hf : Few k (a + c)) : ∃ r, floatBits .add k v w = some r ∧ Iv k r (a + c) := by
  obtain ⟨s, r, K, hK, rfl, hr, hx⟩ := hv
  obtain ⟨t, q, K', hK', rfl, hq, hy⟩ := hw
  obtain rfl : K = K' := by omega
  obtain ⟨T, D, e, he⟩ := add_words k.format s t hr hq
  rw [hx, hy, ← Int.add_mul] at e he
  rw [abs_pow] at he
  obtain ⟨z, _, _, e2, hi⟩ := near_int0 k (a + c) hf (if (a + c) * ((2 ^ K : Nat) : Int) = 0 then s && t else decide ((a + c) * ((2 ^ K : Nat) : Int) < 0)) (by
    by_cases h : a + c = 0
    · exact .inl h
    · right
      rw [if_neg (fun g => h (zero_of_pow g))]
      exact decide_eq_decide.2 neg_of_pow) hK he
  exact ⟨_, e.trans (congrArg some e2), hi⟩
theorem iv_sub {k : FloatKind} {v w : Nat} {a c : Int} (hv : Iv k v a) (hw : Iv k w c) (hf : Few k (a - c)) : ∃ r, floatBits .sub k v w = some r ∧ Iv k r (a - c) := by
  obtain ⟨s, r, K, hK, rfl, hr, hx⟩ := hv
  obtain ⟨t, q, K', hK', rfl, hq, hy⟩ := hw
  obtain rfl : K = K' := by omega
  obtain ⟨T, D, e, he⟩ := sub_words k.format s t hr hq
  rw [hx, hy, ← Int.sub_mul] at e he
  rw [abs_pow] at he
  obtain ⟨z, _, _, e2, hi⟩ := near_int0 k (a - c) hf (if (a - c) * ((2 ^ K : Nat) : Int) = 0 then s && !t else decide ((a - c) * ((2 ^ K : Nat) : Int) < 0)) (by
    by_cases h : a - c = 0
    · exact .inl h
    · right
      rw [if_neg (fun g => h (zero_of_pow g))]
      exact decide_eq_decide.2 neg_of_pow) hK he
  exact ⟨_, e.trans (congrArg some e2), hi⟩
theorem xor_sign {a c : Int} {s t : Bool} (hs : a = 0 ∨ s = decide (a < 0)) (ht : c = 0 ∨ t = decide (c < 0)) : a * c = 0 ∨ (s ^^ t) = decide (a * c < 0) := by
  rcases hs with rfl | rfl
  · left; rw [Int.zero_mul]
  · rcases ht with rfl | rfl
    · left; rw [Int.mul_zero]
    · rcases Int.lt_trichotomy a 0 with h | h | h
      · rcases Int.lt_trichotomy c 0 with g | g | g
        · right
          rw [decide_eq_true h, decide_eq_true g, decide_eq_false (by have := Int.mul_pos_of_neg_of_neg h g; omega)]; rfl
        · left; rw [g, Int.mul_zero]
        · right
          rw [decide_eq_true h, decide_eq_false (by omega), decide_eq_true (Int.mul_neg_of_neg_of_pos h g)]; rfl
      · left; rw [h, Int.zero_mul]
      · rcases Int.lt_trichotomy c 0 with g | g | g
        · right
          rw [decide_eq_false (by omega), decide_eq_true g, decide_eq_true (Int.mul_neg_of_pos_of_neg h g)]; rfl
        · left; rw [g, Int.mul_zero]
        · right
          rw [decide_eq_false (by omega), decide_eq_false (by omega), decide_eq_false (by have := Int.mul_pos h g; omega)]; rfl
theorem iv_mul {k : FloatKind} {v w : Nat} {a c : Int} (hv : Iv k v a) (hw : Iv k w c) (hf : Few k (a * c)) : ∃ r, floatBits .mul k v w = some r ∧ Iv k r (a * c) := by
  obtain ⟨s, r, K, hK, rfl, hr, hx⟩ := hv
  obtain ⟨t, q, K', hK', rfl, hq, hy⟩ := hw
  obtain rfl : K = K' := by omega
  obtain ⟨T, D, e, he⟩ := mul_words k.format s t (b := K) hK hr hq
  rw [iv_abs hx, iv_abs hy] at he
  obtain ⟨z, _, _, e2, hi⟩ := near_int k (a * c) hf (s ^^ t) (xor_sign (iv_sign hx) (iv_sign hy)) hK (m := T) (d := D) (b := K) (by
    rw [he, Int.natAbs_mul]
    simp only [Nat.mul_assoc, Nat.mul_left_comm])
  exact ⟨_, e.trans (congrArg some e2), hi⟩
/-- a square, and a sum of squares, have no minus -/
theorem iv_square {k : FloatKind} {v : Nat} {a : Int} (hv : Iv k v a) (hf : Few k (a * a)) : floatBits .mul k v v = some (floatOfInt k (a * a)) := by
  obtain ⟨s, r, K, hK, rfl, hr, hx⟩ := hv
  obtain ⟨T, D, e, he⟩ := mul_words k.format s s (b := K) hK hr hr
  rw [iv_abs hx] at he
  have h0 : 0 ≤ a * a := by
    rcases Int.le_total 0 a with h | h
    · exact Int.mul_nonneg h h
    · exact Int.mul_nonneg_of_nonpos_of_nonpos h h
  obtain ⟨z, _, hm, e2, hi⟩ := near_int k (a * a) hf false (.inr (decide_eq_false (by omega)).symm) hK (m := T) (d := D) (b := K) (by
    rw [he, Int.natAbs_mul]
    simp only [Nat.mul_assoc, Nat.mul_left_comm])
  rw [Bool.xor_self] at e
  exact e.trans (congrArg some (e2.trans (iv_plain hK hf h0 hm)))
theorem plain_add {k : FloatKind} {a c : Int} (ha : Few k a) (hc : Few k c) (h0 : 0 ≤ a) (h1 : 0 ≤ c) (hf : Few k (a + c)) : floatBits .add k (floatOfInt k a) (floatOfInt k c) = some (floatOfInt k (a + c)) := by
  obtain ⟨K, hK, _⟩ := least_place k
  obtain ⟨⟨s, r, K1, hK1, er, hr, hx⟩, q1, hq1, e1⟩ := iv_ofInt k a ha
  obtain ⟨⟨t, q, K2, hK2, eq, hq, hy⟩, q2, hq2, e2⟩ := iv_ofInt k c hc
  rw [decide_eq_false (by omega)] at e1 e2
  obtain ⟨z1, hz1, hm1, g1, _⟩ := near_int0 k a ha (decide (a < 0)) (.inr rfl) hK (m := a.natAbs) (d := K) rfl
  obtain ⟨z2, hz2, hm2, g2, _⟩ := near_int0 k c hc (decide (c < 0)) (.inr rfl) hK (m := c.natAbs) (d := K) rfl
  have f1 := iv_plain hK ha h0 hm1
  have f2 := iv_plain hK hc h1 hm2
  rw [← f1, ← f2]
  obtain ⟨T, D, e, he⟩ := add_words k.format false false hz1 hz2
  have ex : sv false (mval k.format z1) = a * ((2 ^ K : Nat) : Int) := by
    have hs : sv false (mval k.format z1) = ((mval k.format z1 : Nat) : Int) := by unfold sv; simp
    rw [hs, hm1, Int.natCast_mul]
    congr 1
    omega
  have ey : sv false (mval k.format z2) = c * ((2 ^ K : Nat) : Int) := by
    have hs : sv false (mval k.format z2) = ((mval k.format z2 : Nat) : Int) := by unfold sv; simp
    rw [hs, hm2, Int.natCast_mul]
    congr 1
    omega
  rw [ex, ey, ← Int.add_mul] at e he
  rw [abs_pow] at he
  obtain ⟨z, _, hm, e3, hi⟩ := near_int0 k (a + c) hf false (.inr (decide_eq_false (by omega)).symm) hK he
  have hs : (if (a + c) * ((2 ^ K : Nat) : Int) = 0 then false && false else decide ((a + c) * ((2 ^ K : Nat) : Int) < 0)) = false := by
    split
    · rfl
    · exact decide_eq_false (fun g => by have := neg_of_pow.1 g; omega)
  rw [hs] at e
  exact e.trans (congrArg some (e3.trans (iv_plain hK hf (by omega) hm)))
/-! ### quotients -/
theorem div_more (f : Format) (s t : Bool) {r q : Nat} (hr : r < f.infRung) (hq : q < f.infRung) (hq0 : mval f q ≠ 0) :
    ∃ (m d n e more : Nat), m * 2 ^ d = mval f r ∧ n * 2 ^ e = mval f q ∧ n ≠ 0 ∧ (m ≠ 0 → n * (2 * f.binade) ≤ m * 2 ^ more) ∧
      f.div (f.word s r) (f.word t q) = some (f.nearest (s ^^ t) (2 * (m * 2 ^ more / n) + (m * 2 ^ more % n != 0).toNat) ((d : Int) - e - more - 1)) := by
  obtain ⟨m, d, e1, e2, _, _⟩ := read_num f s hr
  obtain ⟨n, e, g1, g2, _, _⟩ := read_num f t hq
  have hn : n ≠ 0 := by
    intro h; rw [h, Nat.zero_mul] at g2; exact hq0 g2.symm
  refine ⟨m, d, n, e, f.fractionBits + 2 + n.log2 - m.log2, e2, g2, hn, fun hm => ?_, ?_⟩
  · have h1 := (log2_bounds hm).1
    have h2 := (log2_bounds hn).2
    have hB : f.binade = 2 ^ f.fractionBits := rfl
    rw [hB, ← Nat.pow_succ']
    have h3 : 2 ^ (n.log2 + 1) * 2 ^ (f.fractionBits + 1) ≤ 2 ^ m.log2 * 2 ^ (f.fractionBits + 2 + n.log2 - m.log2) := by
      rw [← Nat.pow_add, ← Nat.pow_add]
      exact Nat.pow_le_pow_right (by omega) (by omega)
    have h4 := Nat.mul_le_mul_right (2 ^ (f.fractionBits + 2 + n.log2 - m.log2)) h1
    have h5 := Nat.mul_le_mul_right (2 ^ (f.fractionBits + 1)) (Nat.le_of_lt h2)
    exact Nat.le_trans h5 (Nat.le_trans h3 h4)
  unfold Format.div
  rw [e1, g1]
  simp only [Datum.quotient, if_neg hn, Option.map_some, Format.write, Nat.shiftLeft_eq]
  congr 2
  omega
theorem iv_quo {k : FloatKind} {v w : Nat} {a c : Int} (hv : Iv k v (a * c)) (hw : Iv k w c) (hc : c ≠ 0) (hf : Few k a) : ∃ r, floatBits .quo k v w = some r ∧ Iv k r a := by
  obtain ⟨s, r, K, hK, rfl, hr, hx⟩ := hv
  obtain ⟨t, q, K', hK', rfl, hq, hy⟩ := hw
  obtain rfl : K = K' := by omega
  have hq0 : mval k.format q ≠ 0 := by
    rw [iv_abs hy]
    have h1 : 0 < c.natAbs := by omega
    have := Nat.mul_pos h1 (Nat.two_pow_pos K)
    omega
  obtain ⟨m, d, n, e, more, h2, h3, h4, hbig, h5⟩ := div_more k.format s t hr hq hq0
  have hsign : a = 0 ∨ (s ^^ t) = decide (a < 0) := by
    rcases xor_sign (iv_sign hx) (iv_sign hy) with h | h
    · left
      rcases Int.mul_eq_zero.1 h with h | h
      · rcases Int.mul_eq_zero.1 h with h | h
        · exact h
        · exact absurd h hc
      · exact absurd h hc
    · right
      rw [h]
      apply decide_eq_decide.2
      have hcc : 0 < c * c := by
        rcases Int.lt_or_gt_of_ne hc with g | g
        · exact Int.mul_pos_of_neg_of_neg g g
        · exact Int.mul_pos g g
      rw [Int.mul_assoc]
      constructor
      · intro g; exact Int.lt_of_mul_lt_mul_right (by rw [Int.zero_mul]; exact g) (Int.le_of_lt hcc)
      · intro g
        have := Int.mul_lt_mul_of_pos_right g hcc
        rwa [Int.zero_mul] at this
  -- m * 2^d = |a| * (n * 2^e)
  have hmn : m * 2 ^ d = a.natAbs * (n * 2 ^ e) := by
    rw [h2, h3, iv_abs hx, iv_abs hy, Int.natAbs_mul, Nat.mul_assoc]
  by_cases hm : m = 0
  · have ha : a = 0 := by
      rw [hm, Nat.zero_mul] at hmn
      have h6 : 0 < n * 2 ^ e := Nat.mul_pos (by omega) (Nat.two_pow_pos e)
      rcases Nat.eq_zero_or_pos a.natAbs with h | h
      · omega
      · have := Nat.mul_pos h h6; omega
    obtain ⟨z, _, _, e2, hi⟩ := near_int k a hf (s ^^ t) hsign hK (m := 0) (d := d + K) (b := e + more + 1) (by rw [ha]; simp)
    rw [hm] at h5
    have hz : (2 * (0 * 2 ^ more / n) + (0 * 2 ^ more % n != 0).toNat) = 0 := by simp
    rw [hz] at h5
    have hpl : ((d : Int) - e - more - 1) = k.format.leastPlace + ((d + K : Nat) : Int) - ((e + more + 1 : Nat) : Int) := by omega
    rw [hpl, e2] at h5
    exact ⟨_, h5, hi⟩
  · have hb := hbig hm
    have hde : d ≤ e + more := by
      rcases Nat.lt_or_ge (e + more) d with g | g
      · exfalso
        obtain ⟨u, hu⟩ : ∃ u, d = e + more + (u + 1) := ⟨d - (e + more) - 1, by omega⟩
        have h6 : m * 2 ^ more * 2 ^ (u + 1) = a.natAbs * n := by
          have e1 : m * 2 ^ d = m * 2 ^ more * 2 ^ (u + 1) * 2 ^ e := by rw [hu, Nat.mul_assoc, Nat.mul_assoc, ← Nat.pow_add, ← Nat.pow_add]; congr 2; omega
          rw [e1, ← Nat.mul_assoc] at hmn
          exact Nat.eq_of_mul_eq_mul_right (Nat.two_pow_pos e) hmn
        have h7 : n * (2 * k.format.binade) * 2 ^ (u + 1) ≤ a.natAbs * n := by rw [← h6]; exact Nat.mul_le_mul_right _ hb
        have h8 : 1 ≤ 2 ^ (u + 1) := Nat.one_le_two_pow
        have h9 : n * (2 * k.format.binade) ≤ n * (2 * k.format.binade) * 2 ^ (u + 1) := Nat.le_mul_of_pos_right _ (by omega)
        have h10 : n * (2 * k.format.binade) ≤ n * a.natAbs := by rw [Nat.mul_comm n a.natAbs]; exact Nat.le_trans h9 h7
        have h11 := Nat.le_of_mul_le_mul_left h10 (by omega)
        unfold Few at hf
        omega
      · exact g
    obtain ⟨u, hu⟩ : ∃ u, e + more = d + u := ⟨e + more - d, by omega⟩
    have h6 : m * 2 ^ more = n * (a.natAbs * 2 ^ u) := by
      have e1 : m * 2 ^ more * 2 ^ d = n * (a.natAbs * 2 ^ u) * 2 ^ d := by
        have e3 : m * 2 ^ more * 2 ^ d = m * 2 ^ d * 2 ^ more := by rw [Nat.mul_assoc, Nat.mul_assoc, Nat.mul_comm (2 ^ more)]
        have e4 : n * (a.natAbs * 2 ^ u) * 2 ^ d = a.natAbs * n * 2 ^ (d + u) := by rw [Nat.pow_add]; simp only [Nat.mul_assoc, Nat.mul_left_comm, Nat.mul_comm]
        rw [e3, hmn, e4, ← hu, Nat.pow_add]
        simp only [Nat.mul_assoc]
      exact Nat.eq_of_mul_eq_mul_right (Nat.two_pow_pos d) e1
    have hq1 : m * 2 ^ more / n = a.natAbs * 2 ^ u := by rw [h6, Nat.mul_div_cancel_left _ (by omega)]
    have hq2 : (m * 2 ^ more % n != 0) = false := by rw [h6, Nat.mul_mod_right]; rfl
    rw [hq1, hq2] at h5
    have hpl : ((d : Int) - e - more - 1) = k.format.leastPlace + ((d + K : Nat) : Int) - ((e + more + 1 : Nat) : Int) := by omega
    obtain ⟨z, _, _, e2, hi⟩ := near_int k a hf (s ^^ t) hsign hK (m := 2 * (a.natAbs * 2 ^ u)) (d := d + K) (b := e + more + 1) (by
      rw [hu, Nat.pow_add 2 (d + u) 1, Nat.pow_add 2 d u, Nat.pow_add 2 d K, Nat.pow_one]
      simp only [Nat.mul_assoc, Nat.mul_left_comm, Nat.mul_comm])
    rw [hpl] at h5
    simp only [Bool.toNat_false, Nat.add_zero] at h5
    rw [e2] at h5
    exact ⟨_, h5, hi⟩
/-! ### widened, narrowed, compared, negated -/
theorem iv_widen {v : Nat} {n : Int} (hv : Iv .f32 v n) : ∃ r, floatToFloatBits .f32 v .f64 = some r ∧ Iv .f64 r n := by
  obtain ⟨s, r, K, hK, rfl, hr, hx⟩ := hv
  rw [fmt32] at *
  obtain ⟨K2, hK2⟩ : ∃ K : Nat, K = 925 := ⟨_, rfl⟩
  obtain ⟨q, hq, hv, e⟩ := widen_word s hK2 (r := r) (by rw [I32] at hr; exact hr)
  refine ⟨_, e, s, q, K + K2, ?_, rfl, ?_, ?_⟩
  · rw [fmt64, P64]; rw [P32] at hK; omega
  · rw [fmt64, I64]; exact hq
  · rw [fmt64, hv, sv_mul, hx, Nat.pow_add, Int.natCast_mul, Int.mul_assoc]
theorem iv_narrow {v : Nat} {n : Int} (hv : Iv .f64 v n) (hf : Few .f32 n) : ∃ r, floatToFloatBits .f64 v .f32 = some r ∧ Iv .f32 r n := by
  obtain ⟨s, q, K, hK, rfl, hq, hx⟩ := hv
  rw [fmt64] at *
  obtain ⟨m, d, e1, e2, _, _⟩ := read_num double s (r := q) hq
  obtain ⟨K1, hK1, _⟩ := least_place .f32
  obtain ⟨K2, hK2⟩ : ∃ K : Nat, K = 925 := ⟨_, rfl⟩
  have hKK : K = K1 + K2 := by rw [fmt32, P32] at hK1; rw [P64] at hK; omega
  have hpl : double.leastPlace + (d : Int) = single.leastPlace + (d : Int) - (K2 : Int) := by rw [P64, P32, hK2]; omega
  obtain ⟨z, hz, _, e3, hi⟩ := near_int .f32 n hf s (iv_sign hx) hK1 (m := m) (d := d) (b := K2) (by rw [e2, iv_abs hx, hKK, Nat.pow_add, Nat.mul_assoc])
  rw [fmt32] at e3 hz
  refine ⟨_, ?_, hi⟩
  unfold floatToFloatBits
  rw [if_neg (by decide)]
  have hd2 : FloatKind.f64.decode (double.word s q) = .number s m (double.leastPlace + d) := e1
  rw [hd2, hpl]
  simp only [FloatKind.encode, fmt32, Format.write, e3]
  rw [if_neg]
  obtain ⟨m', d', e', _⟩ := read_num single s hz
  simp only [FloatKind.decode, fmt32, e', Datum.isInfinity]
  simp
theorem iv_order {k : FloatKind} {v w : Nat} {a c : Int} (hv : Iv k v a) (hw : Iv k w c) : k.format.order v w = some (compare a c) := by
  obtain ⟨s, r, K, hK, rfl, hr, hx⟩ := hv
  obtain ⟨t, q, K', hK', rfl, hq, hy⟩ := hw
  obtain rfl : K = K' := by omega
  rw [order_words k.format s t hr hq, hx, hy, compare_mul _ (Nat.two_pow_pos K)]
theorem iv_eq {k : FloatKind} {v w : Nat} {a : Int} (hv : Iv k v a) (hw : Iv k w a) : k.format.order v w = some .eq := by rw [iv_order hv hw, cmp_eq.2 rfl]
theorem xor_top32 {r : Nat} (h : r < 2 ^ 31) : r ^^^ 2 ^ 31 = 2 ^ 31 + r := by
  apply Nat.eq_of_testBit_eq
  intro i
  rw [Nat.testBit_xor, Nat.testBit_two_pow]
  rcases Nat.lt_trichotomy i 31 with g | g | g
  · rw [Nat.testBit_two_pow_add_gt g]
    have : decide (31 = i) = false := decide_eq_false (by omega)
    rw [this]; simp
  · subst g
    rw [Nat.testBit_two_pow_add_eq, Nat.testBit_lt_two_pow h]; simp
  · have h1 : 2 ^ 32 ≤ 2 ^ i := Nat.pow_le_pow_right (by omega) g
    rw [Nat.testBit_lt_two_pow (x := r) (by omega), Nat.testBit_lt_two_pow (x := 2 ^ 31 + r) (by omega)]
    have : decide (31 = i) = false := decide_eq_false (by omega)
    rw [this]; simp
theorem iv_neg32 {v : Nat} {n : Int} (hv : Iv .f32 v n) : Iv .f32 (Op.negFloat .f32 v) (-n) := by
  obtain ⟨s, r, K, hK, rfl, hr, hx⟩ := hv
  refine ⟨!s, r, K, hK, ?_, hr, ?_⟩
  · rw [fmt32] at *
    rw [I32] at hr
    have e : Op.negFloat .f32 (single.word s r) = single.word s r ^^^ 2 ^ 31 := rfl
    have wt : single.word true r = 2 ^ 31 + r := by unfold Format.word; rw [S32]; simp
    have wf : single.word false r = r := by unfold Format.word; simp
    rw [e]
    cases s
    · rw [wf, xor_top32 (by omega), ← wt]; rfl
    · rw [wt, ← xor_top32 (by omega), Nat.xor_assoc, Nat.xor_self, Nat.xor_zero]; exact wf.symm
  · rw [Int.neg_mul, ← hx]
    unfold sv
    cases s <;> simp
theorem iv_neg64 {v : Nat} {n : Int} (hv : Iv .f64 v n) : Iv .f64 (Op.negFloat .f64 v) (-n) := by
  obtain ⟨s, r, K, hK, rfl, hr, hx⟩ := hv
  refine ⟨!s, r, K, hK, ?_, hr, ?_⟩
  · rw [fmt64] at *
    rw [I64] at hr
    exact neg_word s (by omega)
  · rw [Int.neg_mul, ← hx]
    unfold sv
    cases s <;> simp
theorem neg_neg32 (v : Nat) : Op.negFloat .f32 (Op.negFloat .f32 v) = v := by
  have e : ∀ u, Op.negFloat .f32 u = u ^^^ 2 ^ 31 := fun _ => rfl
  rw [e, e, Nat.xor_assoc, Nat.xor_self, Nat.xor_zero]
/-- sums of squares, narrowed or not, are plain -/
theorem plain_widen {n : Int} (hn : Few .f32 n) (h0 : 0 ≤ n) : floatToFloatBits .f32 (floatOfInt .f32 n) .f64 = some (floatOfInt .f64 n) := by
  obtain ⟨K, hK, _⟩ := least_place .f32
  obtain ⟨q, hq, hm, g, _⟩ := near_int0 .f32 n hn (decide (n < 0)) (.inr rfl) hK (m := n.natAbs) (d := K) rfl
  have f1 := iv_plain hK hn h0 hm
  rw [← f1]
  rw [fmt32] at *
  obtain ⟨K2, hK2⟩ : ∃ K : Nat, K = 925 := ⟨_, rfl⟩
  obtain ⟨z, hz, hv, e⟩ := widen_word false hK2 (r := q) (by rw [I32] at hq; exact hq)
  rw [e]
  congr 1
  have hf64 : Few .f64 n := by
    unfold Few at hn ⊢
    rw [fmt32, B32] at hn
    rw [fmt64, B64]
    omega
  refine iv_plain (k := .f64) (K := K + K2) (by rw [fmt64, P64]; rw [P32] at hK; omega) hf64 h0 ?_
  rw [fmt64, hv, hm, Nat.pow_add, Nat.mul_assoc]
theorem plain_narrow {n : Int} (hn : Few .f32 n) (h0 : 0 ≤ n) : floatToFloatBits .f64 (floatOfInt .f64 n) .f32 = some (floatOfInt .f32 n) := by
  obtain ⟨K, hK, _⟩ := least_place .f32
  obtain ⟨q, hq, hm, g, _⟩ := near_int0 .f32 n hn (decide (n < 0)) (.inr rfl) hK (m := n.natAbs) (d := K) rfl
  have f1 := iv_plain hK hn h0 hm
  have hw := plain_widen hn h0
  rw [← f1] at hw ⊢
  rw [fmt32] at *
  obtain ⟨K2, hK2⟩ : ∃ K : Nat, K = 925 := ⟨_, rfl⟩
  obtain ⟨z, hz, hv, e⟩ := widen_word false hK2 (r := q) (by rw [I32] at hq; exact hq)
  rw [e] at hw
  rw [← Option.some.inj hw]
  obtain ⟨m, d, e1, e2, _, _⟩ := read_num double false (r := z) (by rw [I64]; exact hz)
  have hpl : double.leastPlace + (d : Int) = single.leastPlace + (d : Int) - (K2 : Int) := by rw [P64, P32, hK2]; omega
  have e3 := nearest_exact single false (m := m) (d := d) (b := K2) (r := q) (e2.trans hv) hq
  unfold floatToFloatBits
  rw [if_neg (by decide)]
  have hd2 : FloatKind.f64.decode (double.word false z) = .number false m (double.leastPlace + d) := e1
  rw [hd2, hpl]
  simp only [FloatKind.encode, fmt32, Format.write, e3]
  rw [if_neg]
  obtain ⟨m', d', e', _⟩ := read_num single false hq
  simp only [FloatKind.decode, fmt32, e', Datum.isInfinity]
  simp
end Fl
end Go.Proofs.YtempeenjpaldaaaGreatDoor

namespace Go.Proofs.YtempeenjpaldaaaGreatDoor
open Go.RowKit Fl Ieee

theorem SameNumber_any (a b : Nat) (ha : a < 4294967296) (hb : b < 4294967296) (w : World) : Calls Tryz.prog 66 #[.float .f32 a, .float .f32 b] w fun e w' => e = .returned (.bool (sameB a b)) ∧ ∃ n, w' = w.drewN n := by
  by_cases na : isN .f32 a = true
  · have oa := order_nan_l (y := a) na
    by_cases nb : isN .f32 b = true
    · have ob := order_nan_l (y := b) nb
      have hs : sameB a b = true := by unfold sameB; rw [bitsN_nan na, bitsN_nan nb]; rfl
      rw [hs]; clear na nb hs
      go_enter Tryz.func66, Tryz.ntmps66
      go_wp2
      go_ret
      exact ⟨rfl, 0, rfl⟩
    · have nb' : isN .f32 b = false := by simpa using nb
      have ob := order_self nb'
      have hs : sameB a b = false := by unfold sameB; rw [bitsN_nan na]; exact beq_eq_false_iff_ne.2 (fun e => bitsN_ne nb' e.symm)
      rw [hs]; clear na nb nb' hs
      go_enter Tryz.func66, Tryz.ntmps66
      go_wp2
      go_ret
      exact ⟨rfl, 0, rfl⟩
  · have na' : isN .f32 a = false := by simpa using na
    have oa := order_self na'
    by_cases nb : isN .f32 b = true
    · have ob := order_nan_l (y := b) nb
      have hs : sameB a b = false := by unfold sameB; rw [bitsN_nan nb]; exact beq_eq_false_iff_ne.2 (bitsN_ne na')
      rw [hs]; clear na na' nb hs
      go_enter Tryz.func66, Tryz.ntmps66
      go_wp2
      go_ret
      exact ⟨rfl, 0, rfl⟩
    · have nb' : isN .f32 b = false := by simpa using nb
      have ob := order_self nb'
      have hs : sameB a b = ((FloatKind.f32.format.order a b == some .eq) && (decide (2147483648 ≤ a) == decide (2147483648 ≤ b))) := by
        unfold sameB; rw [bitsN_of na', bitsN_of nb', Bool.eq_iff_iff]
        simp only [beq_iff_eq, Bool.and_eq_true]
        constructor
        · intro h; have : a = b := by omega
          subst this; exact ⟨oa, rfl⟩
        · intro ⟨h1, h2⟩; rw [eq_of_order ha hb h1 h2]
      rw [hs]
      have sa := fun w => (sign_wide ha na' w).1
      have sb := fun w => (sign_wide hb nb' w).1
      clear na na' nb nb' hs
      by_cases hz : (FloatKind.f32.format.order a b == some .eq) = true
      · rw [hz]
        have SA := Lib.hid sa
        have SB := Lib.hid sb
        clear sa sb
        go_enter Tryz.func66, Tryz.ntmps66
        go_wp2_with (fail)
        refine (Signbit_any _ (cres_lt (s := .f32) ha _) _).mono ?_
        rintro e w' ⟨rfl, rfl⟩
        go_wp2_with (fail)
        refine (Signbit_any _ (cres_lt (s := .f32) hb _) _).mono ?_
        rintro e w' ⟨rfl, rfl⟩
        go_wp2
        go_ret
        exact ⟨ret_bool (by rw [SA.out, SB.out]; simp), _, rfl⟩
      · simp only [Bool.not_eq_true] at hz
        rw [hz]
        clear sa sb
        go_enter Tryz.func66, Tryz.ntmps66
        go_wp2
        go_ret
        exact ⟨rfl, 0, rfl⟩
end Go.Proofs.YtempeenjpaldaaaGreatDoor

namespace Go.Proofs.YtempeenjpaldaaaGreatDoor.ProdA
open Go.RowKit Fl Ieee NumsA
theorem cres_of {s k : FloatKind} {b r : Nat} (h : floatToFloatBits s b k = some r) : (∀ w, cres s b k w = r) ∧ ccnt s b k = 0 := ⟨fun w => cres_some w h, by unfold ccnt; rw [h]; rfl⟩
theorem fres_of' {o : BinOp} {k : FloatKind} {x y r : Nat} (h : floatBits o k x y = some r) : (∀ w, fres o k x y w = r) ∧ fcnt o k x y = 0 := ⟨fun w => fres_some w h, fcnt_some h⟩
/-- a number of at most n -/
theorem few64 {n : Int} (h : n.natAbs ≤ 1000000000) : Few .f64 n := by unfold Few; rw [fmt64, B64]; omega
theorem few32 {n : Int} (h : n.natAbs ≤ 16000000) : Few .f32 n := by unfold Few; rw [fmt32, B32]; omega
theorem mul_le' {a c : Int} {m n : Nat} (ha : a.natAbs ≤ m) (hc : c.natAbs ≤ n) : (a * c).natAbs ≤ m * n := by rw [Int.natAbs_mul]; exact Nat.mul_le_mul ha hc
set_option maxHeartbeats 4000000 in
set_option maxRecDepth 100000 in
theorem MulComplex_int (a1 a2 b1 b2 : Nat) (x1 x2 y1 y2 : Int) (ha1 : Iv .f32 a1 x1) (ha2 : Iv .f32 a2 x2) (hb1 : Iv .f32 b1 y1) (hb2 : Iv .f32 b2 y2) (l1 : x1.natAbs ≤ 200) (l2 : x2.natAbs ≤ 200) (m1 : y1.natAbs ≤ 200) (m2 : y2.natAbs ≤ 200) :
    ∃ p1 p2, Iv .f32 p1 (x1 * y1 - x2 * y2) ∧ Iv .f32 p2 (x1 * y2 + x2 * y1) ∧ ∀ w, Calls Tryz.prog 22 #[.complex .f32 a1 a2, .complex .f32 b1 b2] w fun e w' => e = .returned (.complex .f32 p1 p2) ∧ w = w' := by
  have k1 := mul_le' l1 m1
  have k2 := mul_le' l2 m2
  have k3 := mul_le' l1 m2
  have k4 := mul_le' l2 m1
  obtain ⟨A1, e1, i1⟩ := iv_widen ha1
  obtain ⟨A2, e2, i2⟩ := iv_widen ha2
  obtain ⟨B1, e3, i3⟩ := iv_widen hb1
  obtain ⟨B2, e4, i4⟩ := iv_widen hb2
  obtain ⟨M1, e5, i5⟩ := iv_mul i1 i3 (few64 (by omega))
  obtain ⟨M2, e6, i6⟩ := iv_mul i2 i4 (few64 (by omega))
  obtain ⟨M3, e7, i7⟩ := iv_mul i1 i4 (few64 (by omega))
  obtain ⟨M4, e8, i8⟩ := iv_mul i2 i3 (few64 (by omega))
  obtain ⟨U, e9, i9⟩ := iv_sub i5 i6 (few64 (by omega))
  obtain ⟨V, e10, i10⟩ := iv_add i7 i8 (few64 (by omega))
  obtain ⟨p1, e11, i11⟩ := iv_narrow i9 (few32 (by omega))
  obtain ⟨p2, e12, i12⟩ := iv_narrow i10 (few32 (by omega))
  refine ⟨p1, p2, i11, i12, fun w => ?_⟩
  obtain ⟨c1, d1⟩ := cres_of e1
  obtain ⟨c2, d2⟩ := cres_of e2
  obtain ⟨c3, d3⟩ := cres_of e3
  obtain ⟨c4, d4⟩ := cres_of e4
  obtain ⟨c5, d5⟩ := fres_of' e5
  obtain ⟨c6, d6⟩ := fres_of' e6
  obtain ⟨c7, d7⟩ := fres_of' e7
  obtain ⟨c8, d8⟩ := fres_of' e8
  obtain ⟨c9, d9⟩ := fres_of' e9
  obtain ⟨c10, d10⟩ := fres_of' e10
  obtain ⟨c11, d11⟩ := cres_of e11
  obtain ⟨c12, d12⟩ := cres_of e12
  clear e1 e2 e3 e4 e5 e6 e7 e8 e9 e10 e11 e12 i1 i2 i3 i4 i5 i6 i7 i8 i9 i10 i11 i12 k1 k2 k3 k4 l1 l2 m1 m2 ha1 ha2 hb1 hb2
  go_enter Tryz.func22, Tryz.ntmps22
  go_wp2
  go_ret
  exact ⟨rfl, rfl⟩
theorem sq_nonneg (a : Int) : 0 ≤ a * a := by
  rcases Int.le_total 0 a with h | h
  · exact Int.mul_nonneg h h
  · exact Int.mul_nonneg_of_nonpos_of_nonpos h h
/-- the power in 64 bits -/
theorem power_facts {a1 a2 : Nat} {x1 x2 : Int} (ha1 : Iv .f32 a1 x1) (ha2 : Iv .f32 a2 x2) (l1 : x1.natAbs ≤ 200) (l2 : x2.natAbs ≤ 200) :
    ∃ A1 A2, (∀ w, cres .f32 a1 .f64 w = A1) ∧ ccnt .f32 a1 .f64 = 0 ∧ (∀ w, cres .f32 a2 .f64 w = A2) ∧ ccnt .f32 a2 .f64 = 0 ∧
      (∀ w, fres .mul .f64 A1 A1 w = floatOfInt .f64 (x1 * x1)) ∧ fcnt .mul .f64 A1 A1 = 0 ∧ (∀ w, fres .mul .f64 A2 A2 w = floatOfInt .f64 (x2 * x2)) ∧ fcnt .mul .f64 A2 A2 = 0 ∧
      (∀ w, fres .add .f64 (floatOfInt .f64 (x1 * x1)) (floatOfInt .f64 (x2 * x2)) w = floatOfInt .f64 (x1 * x1 + x2 * x2)) ∧ fcnt .add .f64 (floatOfInt .f64 (x1 * x1)) (floatOfInt .f64 (x2 * x2)) = 0 := by
  have k1 := mul_le' l1 l1
  have k2 := mul_le' l2 l2
  obtain ⟨A1, e1, i1⟩ := iv_widen ha1
  obtain ⟨A2, e2, i2⟩ := iv_widen ha2
  have e3 := iv_square i1 (few64 (by omega))
  have e4 := iv_square i2 (few64 (by omega))
  have e5 := plain_add (k := .f64) (few64 (n := x1 * x1) (by omega)) (few64 (n := x2 * x2) (by omega)) (sq_nonneg x1) (sq_nonneg x2) (few64 (by omega))
  exact ⟨A1, A2, (cres_of e1).1, (cres_of e1).2, (cres_of e2).1, (cres_of e2).2, (fres_of' e3).1, (fres_of' e3).2, (fres_of' e4).1, (fres_of' e4).2, (fres_of' e5).1, (fres_of' e5).2⟩
set_option maxHeartbeats 4000000 in
set_option maxRecDepth 100000 in
theorem PowerOf_int (a1 a2 : Nat) (x1 x2 : Int) (ha1 : Iv .f32 a1 x1) (ha2 : Iv .f32 a2 x2) (l1 : x1.natAbs ≤ 200) (l2 : x2.natAbs ≤ 200) (w : World) :
    Calls Tryz.prog 23 #[.complex .f32 a1 a2] w fun e w' => e = .returned (.float .f32 (floatOfInt .f32 (x1 * x1 + x2 * x2))) ∧ w = w' := by
  have k1 := mul_le' l1 l1
  have k2 := mul_le' l2 l2
  obtain ⟨A1, A2, c1, d1, c2, d2, c3, d3, c4, d4, c5, d5⟩ := power_facts ha1 ha2 l1 l2
  have n1 := sq_nonneg x1
  have n2 := sq_nonneg x2
  obtain ⟨c6, d6⟩ := cres_of (plain_narrow (n := x1 * x1 + x2 * x2) (few32 (by omega)) (by omega))
  clear k1 k2 l1 l2 n1 n2 ha1 ha2
  generalize floatOfInt .f64 (x1 * x1) = S1 at *
  generalize floatOfInt .f64 (x2 * x2) = S2 at *
  generalize floatOfInt .f64 (x1 * x1 + x2 * x2) = S3 at *
  generalize floatOfInt .f32 (x1 * x1 + x2 * x2) = S4 at *
  go_enter Tryz.func23, Tryz.ntmps23
  go_wp2
  go_ret
  exact ⟨rfl, rfl⟩
theorem ConjugateOf_any (a1 a2 : Nat) (w : World) : Calls Tryz.prog 24 #[.complex .f32 a1 a2] w fun e w' => e = .returned (.complex .f32 a1 (Op.negFloat .f32 a2)) ∧ w = w' := by
  go_enter Tryz.func24, Tryz.ntmps24
  go_wp2
  go_ret
  exact ⟨rfl, rfl⟩
/-- the root of a power -/
def longF (P : Int) : Nat := cop .f64 (sop (floatOfInt .f64 P)) .f32
theorem int_bd {P : Int} {E : Nat} (hE : E = 1041) (h : P.natAbs ≤ 80000) : Bd E (floatOfInt .f64 P) := by
  obtain ⟨K, hK, _⟩ := least_place .f64
  obtain ⟨q, hq, hm, g, _⟩ := near_int0 .f64 P (few64 (by omega)) (decide (P < 0)) (.inr rfl) hK (m := P.natAbs) (d := K) rfl
  have he : floatOfInt .f64 P = double.word (decide (P < 0)) q := by
    rw [fmt64] at g
    rw [← g]
    unfold floatOfInt FloatKind.nearest FloatKind.encode
    simp only [Format.write, fmt64]
    congr 1
    rw [fmt64] at hK
    omega
  rw [he]
  refine ⟨_, q, rfl, by rw [fmt64] at hq; exact hq, ?_⟩
  rw [fmt64] at hm
  rw [hm]
  have hk : K = 1074 := by rw [fmt64, P64] at hK; omega
  have h1 : P.natAbs ≤ 2 ^ 17 := Nat.le_trans h (by decide)
  refine Nat.le_trans (Nat.mul_le_mul_right _ h1) ?_
  rw [← Nat.pow_add]
  exact Nat.pow_le_pow_right (by omega) (by omega)
theorem long_nar {P : Int} (h : P.natAbs ≤ 80000) : Nar (sop (floatOfInt .f64 P)) := by
  rcases sqrt_bd (int_bd rfl h) (c := 1032) (by omega) (by omega) (by omega) (by omega) with g | g
  · exact .inl g
  · exact nar_of_bd g (by omega)
theorem longF_lt {P : Int} (h : P.natAbs ≤ 80000) : longF P < 4294967296 := by
  unfold longF
  rcases sqrt_bd (int_bd rfl h) (c := 1032) (by omega) (by omega) (by omega) (by omega) with g | g
  · rw [cop_nan (by decide) g]; decide
  · obtain ⟨s', r', hr', e'⟩ := narrow_bd g (by omega)
    unfold cop
    rw [e', Option.getD_some]
    rw [I32] at hr'
    unfold Format.word; rw [S32]
    cases s' <;> simp <;> omega
set_option maxHeartbeats 4000000 in
set_option maxRecDepth 100000 in
theorem LongOf_int (a1 a2 : Nat) (x1 x2 : Int) (ha1 : Iv .f32 a1 x1) (ha2 : Iv .f32 a2 x2) (l1 : x1.natAbs ≤ 200) (l2 : x2.natAbs ≤ 200) (w : World) :
    Calls Tryz.prog 25 #[.complex .f32 a1 a2] w fun e w' => ∃ r, e = .returned (.float .f32 r) ∧ Sim .f32 r (longF (x1 * x1 + x2 * x2)) ∧ ∃ n, w' = w.drewN n := by
  have k1 := mul_le' l1 l1
  have k2 := mul_le' l2 l2
  have HN := Lib.hid (long_nar (P := x1 * x1 + x2 * x2) (by omega))
  obtain ⟨A1, A2, c1, d1, c2, d2, c3, d3, c4, d4, c5, d5⟩ := power_facts ha1 ha2 l1 l2
  have HF := Lib.hid (show longF (x1 * x1 + x2 * x2) = cop .f64 (sop (floatOfInt .f64 (x1 * x1 + x2 * x2))) .f32 from rfl)
  clear k1 k2 l1 l2 ha1 ha2
  generalize longF (x1 * x1 + x2 * x2) = LF at *
  generalize floatOfInt .f64 (x1 * x1) = S1 at *
  generalize floatOfInt .f64 (x2 * x2) = S2 at *
  generalize floatOfInt .f64 (x1 * x1 + x2 * x2) = S3 at *
  go_enter Tryz.func25, Tryz.ntmps25
  go_wp2_with (first | (go_at_call 60; go_in) | (go_at_call 58; go_in) | (go_at_call 56; refine (Sqrt_any _ _).mono ?_; rintro e w' ⟨rfl, rfl⟩))
  go_ret
  exact ⟨_, rfl, by rw [HF.out]; exact nar_sim _ (sres_sim _ _) HN.out, _, rfl⟩
theorem l01Narrow_any (x : Nat) (w : World) : Calls Tryz.prog 81 #[.float .f64 x] w fun e w' => e = .returned (.float .f32 (cres .f64 x .f32 w)) ∧ ∃ n, w' = w.drewN n := by
  go_enter Tryz.func81, Tryz.ntmps81
  go_wp2
  go_ret
  exact ⟨rfl, _, rfl⟩
theorem l01Sqrt_int (P : Int) (h0 : 0 ≤ P) (h : P.natAbs ≤ 80000) (w : World) : Calls Tryz.prog 61 #[.float .f32 (floatOfInt .f32 P)] w fun e w' => ∃ r, e = .returned (.float .f32 r) ∧ Sim .f32 r (longF P) ∧ ∃ n, w' = w.drewN n := by
  obtain ⟨c1, d1⟩ := cres_of (plain_widen (n := P) (few32 (by omega)) h0)
  have HN := Lib.hid (long_nar h)
  have HF := Lib.hid (show longF P = cop .f64 (sop (floatOfInt .f64 P)) .f32 from rfl)
  clear h h0
  generalize longF P = LF at *
  generalize floatOfInt .f64 P = S3 at *
  generalize floatOfInt .f32 P = S4 at *
  go_enter Tryz.func61, Tryz.ntmps61
  go_wp2_with (first | (go_at_call 56; refine (Sqrt_any _ _).mono ?_; rintro e w' ⟨rfl, rfl⟩) | (go_at_call 81; refine (l01Narrow_any _ _).mono ?_; rintro e w' ⟨rfl, n, rfl⟩))
  go_ret
  exact ⟨_, rfl, by rw [HF.out]; exact nar_sim _ (sres_sim _ _) HN.out, _, rfl⟩
theorem RootNumber_int (P : Int) (h0 : 0 ≤ P) (h : P.natAbs ≤ 80000) (w : World) : Calls Tryz.prog 26 #[.float .f32 (floatOfInt .f32 P)] w fun e w' => ∃ r, e = .returned (.float .f32 r) ∧ Sim .f32 r (longF P) ∧ ∃ n, w' = w.drewN n := by
  have HS := Lib.hid (l01Sqrt_int P h0 h)
  clear h h0
  generalize longF P = LF at *
  generalize floatOfInt .f32 P = S4 at *
  go_enter Tryz.func26, Tryz.ntmps26
  go_wp2_with (go_at_call 61; refine (HS.out _).mono ?_; rintro e w' ⟨r, rfl, hs, n, rfl⟩)
  go_ret
  exact ⟨_, rfl, hs, _, rfl⟩
set_option maxHeartbeats 8000000 in
set_option maxRecDepth 100000 in
theorem QuotientOf_int (p1 p2 b1 b2 : Nat) (x1 x2 y1 y2 : Int) (hp1 : Iv .f32 p1 (x1 * y1 - x2 * y2)) (hp2 : Iv .f32 p2 (x1 * y2 + x2 * y1)) (hb1 : Iv .f32 b1 y1) (hb2 : Iv .f32 b2 y2) (l1 : x1.natAbs ≤ 200) (l2 : x2.natAbs ≤ 200) (m1 : y1.natAbs ≤ 200) (m2 : y2.natAbs ≤ 200) (h0 : ¬ (y1 = 0 ∧ y2 = 0)) :
    ∃ q1 q2, Iv .f32 q1 x1 ∧ Iv .f32 q2 x2 ∧ ∀ w, Calls Tryz.prog 27 #[.complex .f32 p1 p2, .complex .f32 b1 b2] w fun e w' => e = .returned (.complex .f32 q1 q2) ∧ w = w' := by
  have k1 := mul_le' l1 m1
  have k2 := mul_le' l2 m2
  have k3 := mul_le' l1 m2
  have k4 := mul_le' l2 m1
  have hu : (x1 * y1 - x2 * y2).natAbs ≤ 80000 := by omega
  have hv : (x1 * y2 + x2 * y1).natAbs ≤ 80000 := by omega
  have s1 := mul_le' m1 m1
  have s2 := mul_le' m2 m2
  have n1 := sq_nonneg y1
  have n2 := sq_nonneg y2
  have hP : y1 * y1 + y2 * y2 ≠ 0 := by
    intro h
    have e1 : y1 * y1 = 0 := by omega
    have e2 : y2 * y2 = 0 := by omega
    exact h0 ⟨by rcases Int.mul_eq_zero.1 e1 with h | h <;> exact h, by rcases Int.mul_eq_zero.1 e2 with h | h <;> exact h⟩
  obtain ⟨B1', B2', b1c, b1d, b2c, b2d, c20, d20, c21, d21, c22, d22⟩ := power_facts hb1 hb2 m1 m2
  obtain ⟨A1, e1, i1⟩ := iv_widen hp1
  obtain ⟨A2, e2, i2⟩ := iv_widen hp2
  obtain ⟨B1, e3, i3⟩ := iv_widen hb1
  obtain ⟨B2, e4, i4⟩ := iv_widen hb2
  obtain rfl : B1' = B1 := (b1c default).symm.trans ((cres_of e3).1 default)
  obtain rfl : B2' = B2 := (b2c default).symm.trans ((cres_of e4).1 default)
  have i4n := iv_neg64 i4
  have m2n : (-y2).natAbs ≤ 200 := by omega
  have t1 := mul_le' hu m1
  have t2 := mul_le' hv m2n
  have t3 := mul_le' hu m2n
  have t4 := mul_le' hv m1
  obtain ⟨M1, e5, i5⟩ := iv_mul i1 i3 (few64 (by omega))
  obtain ⟨M2, e6, i6⟩ := iv_mul i2 i4n (few64 (by omega))
  obtain ⟨M3, e7, i7⟩ := iv_mul i1 i4n (few64 (by omega))
  obtain ⟨M4, e8, i8⟩ := iv_mul i2 i3 (few64 (by omega))
  obtain ⟨U, e9, i9⟩ := iv_sub i5 i6 (few64 (by omega))
  obtain ⟨V, e10, i10⟩ := iv_add i7 i8 (few64 (by omega))
  have hU : (x1 * y1 - x2 * y2) * y1 - (x1 * y2 + x2 * y1) * -y2 = x1 * (y1 * y1 + y2 * y2) := by
    simp only [Int.sub_mul, Int.add_mul, Int.mul_add, Int.mul_neg, Int.mul_assoc, Int.mul_comm y2 y1]
    omega
  have hV : (x1 * y1 - x2 * y2) * -y2 + (x1 * y2 + x2 * y1) * y1 = x2 * (y1 * y1 + y2 * y2) := by
    simp only [Int.sub_mul, Int.add_mul, Int.mul_add, Int.mul_neg, Int.mul_assoc, Int.mul_comm y2 y1]
    omega
  rw [hU] at i9
  rw [hV] at i10
  have iP := (iv_ofInt .f64 (y1 * y1 + y2 * y2) (few64 (by omega))).1
  obtain ⟨Q1, e11, i11⟩ := iv_quo i9 iP hP (few64 (by omega))
  obtain ⟨Q2, e12, i12⟩ := iv_quo i10 iP hP (few64 (by omega))
  obtain ⟨q1, e13, i13⟩ := iv_narrow i11 (few32 (by omega))
  obtain ⟨q2, e14, i14⟩ := iv_narrow i12 (few32 (by omega))
  refine ⟨q1, q2, i13, i14, fun w => ?_⟩
  obtain ⟨c1, d1⟩ := cres_of e1
  obtain ⟨c2, d2⟩ := cres_of e2
  obtain ⟨c5, d5⟩ := fres_of' e5
  obtain ⟨c6, d6⟩ := fres_of' e6
  obtain ⟨c7, d7⟩ := fres_of' e7
  obtain ⟨c8, d8⟩ := fres_of' e8
  obtain ⟨c9, d9⟩ := fres_of' e9
  obtain ⟨c10, d10⟩ := fres_of' e10
  obtain ⟨c11, d11⟩ := fres_of' e11
  obtain ⟨c12, d12⟩ := fres_of' e12
  obtain ⟨c13, d13⟩ := cres_of e13
  obtain ⟨c14, d14⟩ := cres_of e14
  clear e1 e2 e3 e4 e5 e6 e7 e8 e9 e10 e11 e12 e13 e14 i1 i2 i3 i4 i4n i5 i6 i7 i8 i9 i10 i11 i12 i13 i14 k1 k2 k3 k4 l1 l2 m1 m2 m2n hp1 hp2 hb1 hb2 hu hv s1 s2 n1 n2 hP t1 t2 t3 t4 hU hV iP h0
  generalize floatOfInt .f64 (y1 * y1) = S1 at *
  generalize floatOfInt .f64 (y2 * y2) = S2 at *
  generalize floatOfInt .f64 (y1 * y1 + y2 * y2) = S3 at *
  go_enter Tryz.func27, Tryz.ntmps27
  go_wp2
  go_ret
  exact ⟨rfl, rfl⟩
set_option maxHeartbeats 4000000 in
theorem ScaleComplex_two (a1 a2 : Nat) (x1 x2 : Int) (ha1 : Iv .f32 a1 x1) (ha2 : Iv .f32 a2 x2) (l1 : x1.natAbs ≤ 200) (l2 : x2.natAbs ≤ 200) :
    ∃ s1 s2, Iv .f32 s1 (x1 * 2) ∧ Iv .f32 s2 (x2 * 2) ∧ ∀ w, Calls Tryz.prog 28 #[.complex .f32 a1 a2, .float .f32 1073741824] w fun e w' => e = .returned (.complex .f32 s1 s2) ∧ w = w' := by
  have i2 : Iv .f32 1073741824 2 := by
    have h := (iv_ofInt .f32 2 (few32 (by decide))).1
    rwa [show floatOfInt .f32 2 = 1073741824 by decide +kernel] at h
  obtain ⟨s1, e1, i3⟩ := iv_mul ha1 i2 (few32 (by omega))
  obtain ⟨s2, e2, i4⟩ := iv_mul ha2 i2 (few32 (by omega))
  refine ⟨s1, s2, i3, i4, fun w => ?_⟩
  obtain ⟨c1, d1⟩ := fres_of' e1
  obtain ⟨c2, d2⟩ := fres_of' e2
  clear e1 e2 i2 i3 i4 ha1 ha2 l1 l2
  go_enter Tryz.func28, Tryz.ntmps28
  go_wp2
  go_ret
  exact ⟨rfl, rfl⟩
theorem double_int (a1 a2 : Nat) (x1 x2 : Int) (ha1 : Iv .f32 a1 x1) (ha2 : Iv .f32 a2 x2) (l1 : x1.natAbs ≤ 200) (l2 : x2.natAbs ≤ 200) :
    ∃ s1 s2, Iv .f32 s1 (x1 * 2) ∧ Iv .f32 s2 (x2 * 2) ∧ ∀ (P : Program) (t : TypeId) (w : World), (binOp .add t (.complex .f32 a1 a2) (.complex .f32 a1 a2)).run P w = .ok (.complex .f32 s1 s2) w := by
  obtain ⟨s1, e1, i1⟩ := iv_add ha1 ha1 (few32 (by omega))
  obtain ⟨s2, e2, i2⟩ := iv_add ha2 ha2 (few32 (by omega))
  rw [show x1 + x1 = x1 * 2 by omega] at i1
  rw [show x2 + x2 = x2 * 2 by omega] at i2
  refine ⟨s1, s2, i1, i2, fun P t w => ?_⟩
  exact run_complex_sum w .add (.inl rfl) t .f32 a1 a2 a1 a2 s1 s2 (by unfold cSumBits; rw [e1, e2]; rfl)
/-! ### comparisons -/
theorem SameComplex_any (a1 a2 b1 b2 : Nat) (ha1 : a1 < 4294967296) (ha2 : a2 < 4294967296) (hb1 : b1 < 4294967296) (hb2 : b2 < 4294967296) (s1 : sameB a1 b1 = true) (s2 : sameB a2 b2 = true) (w : World) :
    Calls Tryz.prog 34 #[.complex .f32 a1 a2, .complex .f32 b1 b2] w fun e w' => e = .returned (.bool true) ∧ ∃ n, w' = w.drewN n := by
  have H1 := Lib.hid (show ∀ w, Calls Tryz.prog 66 #[.float .f32 a1, .float .f32 b1] w fun e w' => e = .returned (.bool true) ∧ ∃ n, w' = w.drewN n from fun w => by have h_ := YtempeenjpaldaaaGreatDoor.SameNumber_any a1 b1 ha1 hb1 w; rw [s1] at h_; exact h_)
  have H2 := Lib.hid (show ∀ w, Calls Tryz.prog 66 #[.float .f32 a2, .float .f32 b2] w fun e w' => e = .returned (.bool true) ∧ ∃ n, w' = w.drewN n from fun w => by have h_ := YtempeenjpaldaaaGreatDoor.SameNumber_any a2 b2 ha2 hb2 w; rw [s2] at h_; exact h_)
  clear ha1 ha2 hb1 hb2 s1 s2
  go_enter Tryz.func34, Tryz.ntmps34
  go_wp2_with fail
  refine (H1.out _).mono ?_
  rintro e w' ⟨rfl, n, rfl⟩
  go_wp2_with fail
  refine (H2.out _).mono ?_
  rintro e w' ⟨rfl, m, rfl⟩
  go_wp2
  go_ret
  exact ⟨rfl, _, rfl⟩
theorem l01CSame_any (a1 a2 b1 b2 : Nat) (ha1 : a1 < 4294967296) (ha2 : a2 < 4294967296) (hb1 : b1 < 4294967296) (hb2 : b2 < 4294967296) (s1 : sameB a1 b1 = true) (s2 : sameB a2 b2 = true) (w : World) :
    Calls Tryz.prog 82 #[.complex .f32 a1 a2, .complex .f32 b1 b2] w fun e w' => e = .returned (.bool true) ∧ w = w' := by
  have H1 := Lib.hid (show ∀ w, Calls Tryz.prog 52 #[.float .f32 a1, .float .f32 b1] w fun e w' => e = .returned (.bool true) ∧ w = w' from fun w => by have h_ := l01Same_any a1 b1 ha1 hb1 w; rw [s1] at h_; exact h_)
  have H2 := Lib.hid (show ∀ w, Calls Tryz.prog 52 #[.float .f32 a2, .float .f32 b2] w fun e w' => e = .returned (.bool true) ∧ w = w' from fun w => by have h_ := l01Same_any a2 b2 ha2 hb2 w; rw [s2] at h_; exact h_)
  clear ha1 ha2 hb1 hb2 s1 s2
  go_enter Tryz.func82, Tryz.ntmps82
  go_wp2_with fail
  refine (H1.out _).mono ?_
  rintro e w' ⟨rfl, rfl⟩
  go_wp2_with fail
  refine (H2.out _).mono ?_
  rintro e w' ⟨rfl, rfl⟩
  go_wp2
  go_ret
  exact ⟨rfl, rfl⟩
theorem specSameComplex_any (a1 a2 b1 b2 : Nat) (ha1 : a1 < 4294967296) (ha2 : a2 < 4294967296) (hb1 : b1 < 4294967296) (hb2 : b2 < 4294967296) (s1 : sameB a1 b1 = true) (s2 : sameB a2 b2 = true) (w : World) :
    Calls Tryz.prog 65 #[.complex .f32 a1 a2, .complex .f32 b1 b2] w fun e w' => e = .returned (.bool true) ∧ w = w' := by
  have H1 := Lib.hid (l01CSame_any a1 a2 b1 b2 ha1 ha2 hb1 hb2 s1 s2)
  clear ha1 ha2 hb1 hb2 s1 s2
  go_enter Tryz.func65, Tryz.ntmps65
  go_wp2_with fail
  refine (H1.out _).mono ?_
  rintro e w' ⟨rfl, rfl⟩
  go_wp2
  go_ret
  exact ⟨rfl, rfl⟩
theorem NarrowComplex_any (y1 y2 : Nat) (w : World) : Calls Tryz.prog 35 #[.complex .f64 y1 y2] w fun e w' => ∃ w2 w3, e = .returned (.complex .f32 (cres .f64 y1 .f32 w2) (cres .f64 y2 .f32 w3)) ∧ ∃ n, w' = w.drewN n := by
  go_enter Tryz.func35, Tryz.ntmps35
  go_wp2
  go_ret
  exact ⟨_, _, rfl, _, rfl⟩
theorem IsFiniteComplex_any (a1 a2 : Nat) (w : World) : Calls Tryz.prog 36 #[.complex .f32 a1 a2] w fun e w' => e = .returned (.bool (finB a1 && finB a2)) ∧ ∃ n, w' = w.drewN n := by
  cases h : finB a1 with
  | true =>
    have H1 := Lib.hid (show ∀ w, Calls Tryz.prog 54 #[.float .f32 a1] w fun e w' => e = .returned (.bool true) ∧ ∃ n, w' = w.drewN n from fun w => by have h_ := IsFinite_any a1 w; rw [h] at h_; exact h_)
    clear h
    go_enter Tryz.func36, Tryz.ntmps36
    go_wp2_with fail
    refine (H1.out _).mono ?_
    rintro e w' ⟨rfl, n, rfl⟩
    go_wp2_with fail
    refine (IsFinite_any a2 _).mono ?_
    rintro e w' ⟨rfl, m, rfl⟩
    go_wp2
    go_ret
    exact ⟨by simp, _, rfl⟩
  | false =>
    have H1 := Lib.hid (show ∀ w, Calls Tryz.prog 54 #[.float .f32 a1] w fun e w' => e = .returned (.bool false) ∧ ∃ n, w' = w.drewN n from fun w => by have h_ := IsFinite_any a1 w; rw [h] at h_; exact h_)
    clear h
    go_enter Tryz.func36, Tryz.ntmps36
    go_wp2_with fail
    refine (H1.out _).mono ?_
    rintro e w' ⟨rfl, n, rfl⟩
    go_wp2
    go_ret
    exact ⟨by simp, _, rfl⟩
theorem specIsFinite_any (x : Nat) (w : World) : Calls Tryz.prog 37 #[.float .f32 x] w fun e w' => e = .returned (.bool (finB x)) ∧ ∃ n, w' = w.drewN n := by
  go_enter Tryz.func37, Tryz.ntmps37
  go_wp2_with fail
  refine (l01Finite_any x _).mono ?_
  rintro e w' ⟨rfl, n, rfl⟩
  go_wp2
  go_ret
  exact ⟨rfl, _, rfl⟩
end Go.Proofs.YtempeenjpaldaaaGreatDoor.ProdA

namespace Go.Proofs.YtempeenjpaldaaaGreatDoor.SZ
open Go.RowKit Go.Proofs.YtempeenjpaldaaaGreatDoorW.PrintWords Go.Proofs.YtempeenjpaldaaaGreatDoorW.PrintLast Go.Proofs.YtempeenjpaldaaaGreatDoorW.PrintMore Fl SNum
def C64 (r : Int) : Prop := 0 ≤ r ∧ r < 18446744073709551616
theorem cpx_ok {a b : Int} (ha : B32 a) (hb : B32 b) : SCpx.cpx.f a b = some (a * 4294967296 + b) ∧ C64 (a * 4294967296 + b) := by
  obtain ⟨a0, a1⟩ := ha
  obtain ⟨b0, b1⟩ := hb
  exact ⟨if_pos ⟨a0, b0, b1⟩, by omega, by omega⟩
theorem fine_all : (List.range 65).all (fun m => (quoF.f ((floatOfInt .f32 ((m : Int) - 32) : Nat) : Int) 1098907648).isSome) = true := by decide +kernel
theorem fine_ok {m : Nat} (hm : m < 65) : ∃ r, quoF.f ((floatOfInt .f32 ((m : Int) - 32) : Nat) : Int) 1098907648 = some r ∧ B32 r := by
  obtain ⟨r, hr⟩ := Option.isSome_iff_exists.1 ((List.all_eq_true.1 fine_all) m (List.mem_range.2 hm))
  exact ⟨r, hr, quo_b32 hr⟩
theorem fineDraw_ok {l : List Int} (hl : By l) (a s : Int) (h0 : 0 ≤ a) (h1 : a < 576460752303423488) : ∃ v a' s', spec_l01DrawFine.f l a s = some (v, a', s') ∧ C64 v ∧ 0 ≤ a' ∧ a' ≤ a + 4 := by
  unfold spec_l01DrawFine.f
  obtain ⟨v, a1, s1, e1, v0, v1, g0, g1⟩ := pick_ok hl a s 65 h0 (by omega) (by omega)
  rw [e1, Option.bind_some]
  simp only
  obtain ⟨m, rfl⟩ := Int.eq_ofNat_of_zero_le v0
  rw [w64 _ (by omega) (by omega)]
  obtain ⟨r, hr, hb⟩ := fine_ok (m := m) (by omega)
  unfold cvtF.f
  rw [Option.bind_some, hr, Option.bind_some]
  obtain ⟨u, a2, s2, e2, u0, u1, g2, g3⟩ := pick_ok hl a1 s1 65 g0 (by omega) (by omega)
  rw [e2, Option.bind_some]
  simp only
  obtain ⟨n, rfl⟩ := Int.eq_ofNat_of_zero_le u0
  rw [w64 _ (by omega) (by omega)]
  obtain ⟨q, hq, hc⟩ := fine_ok (m := n) (by omega)
  obtain ⟨hx, hy⟩ := cpx_ok hb hc
  rw [Option.bind_some, hq, Option.bind_some, hx, Option.bind_some]
  exact ⟨_, a2, s2, rfl, hy, g2, by omega⟩
theorem complexDraw_ok {l : List Int} (hl : By l) (a s : Int) (h0 : 0 ≤ a) (h1 : a < 288230376151711744) : ∃ v a' s', spec_l01DrawComplex.f l a s = some (v, a', s') ∧ C64 v ∧ 0 ≤ a' ∧ a' ≤ a + 20 := by
  unfold spec_l01DrawComplex.f
  obtain ⟨v, a1, s1, e1, hv, g0, g1⟩ := draw_ok hl a s h0 (by omega)
  rw [e1, Option.bind_some]
  simp only
  obtain ⟨u, a2, s2, e2, hu, g2, g3⟩ := draw_ok hl a1 s1 g0 (by omega)
  rw [e2, Option.bind_some]
  simp only
  obtain ⟨hx, hy⟩ := cpx_ok hv hu
  rw [hx, Option.bind_some]
  exact ⟨_, a2, s2, rfl, hy, g2, by omega⟩
theorem complexes_ok {l : List Int} (hl : By l) (b : Bool) : ∀ (m k : Nat) (X : List Int) (a s : Int), m + 1 ≤ k → X.length + m ≤ 1000 → 0 ≤ a → a + 20 * m < 144115188075855872 → (∀ x ∈ X, C64 x) →
    ∃ r a' s', spec_l01DrawComplexes.l0 k m X b l a s = some (r, a', s') ∧ r.length = X.length + m ∧ ∀ x ∈ r, C64 x
  | _, 0, _, _, _, hk, _, _, _, _ => by omega
  | 0, k + 1, X, a, s, _, _, _, _, hX => by
    unfold spec_l01DrawComplexes.l0
    rw [if_neg (by omega)]
    exact ⟨_, _, _, rfl, rfl, hX⟩
  | m + 1, k + 1, X, a, s, hk, hl2, h0, h1, hX => by
    unfold spec_l01DrawComplexes.l0
    rw [if_pos (by omega)]
    have go : ∀ (v a1 s1 : Int), C64 v → 0 ≤ a1 → a1 ≤ a + 20 → ∃ r a' s', (if X.length < 17592186044416 then (spec_l01DrawComplexes.l0 k (wrap64 (((m + 1 : Nat) : Int) - 1)) (X ++ [v]) b l a1 s1) else none) = some (r, a', s') ∧ r.length = X.length + (m + 1) ∧ ∀ x ∈ r, C64 x := by
      intro v a1 s1 hv g0 g1
      rw [if_pos (by omega), w64 _ (by omega) (by omega), show ((m + 1 : Nat) : Int) - 1 = (m : Int) by omega]
      obtain ⟨r, a', s', e, hr, hx⟩ := complexes_ok hl b m k (X ++ [v]) a1 s1 (by omega) (by rw [List.length_append, List.length_singleton]; omega) g0 (by omega) (fun x hx => by
        rcases List.mem_append.1 hx with h | h
        · exact hX x h
        · rw [List.mem_singleton.1 h]; exact hv)
      exact ⟨r, a', s', e, by rw [hr, List.length_append, List.length_singleton]; omega, hx⟩
    cases b with
    | true =>
      obtain ⟨v, a2, s2, e2, hp, g2, g3⟩ := complexDraw_ok hl a s h0 (by omega)
      rw [if_pos rfl, e2, Option.bind_some]
      exact go v a2 s2 hp g2 g3
    | false =>
      obtain ⟨v, a2, s2, e2, hp, g2, g3⟩ := fineDraw_ok hl a s h0 (by omega)
      rw [if_neg (by decide), e2, Option.bind_some]
      exact go v a2 s2 hp g2 (by omega)
theorem B10Any_ok {l : List Int} (hl : By l) (m k : Nat) (hm : m ≤ 100) (hk : m + 1 ≤ k) : ∃ r, spec_B10Any.f k l m = some r ∧ r.length = m ∧ ∀ x ∈ r, C64 x := by
  unfold spec_B10Any.f spec_l00From.f spec_l01DrawComplexes.f
  rw [Option.bind_some]
  simp only
  obtain ⟨b, a1, s1, e1, g0, g1⟩ := one_ok hl 0 0 5 (by omega) (by omega) (by omega)
  rw [e1, Option.bind_some]
  simp only
  obtain ⟨r, a', s', e, hr, hx⟩ := complexes_ok hl b m k [] a1 s1 hk (by simp; omega) g0 (by omega) (fun x hx => by cases hx)
  rw [e, Option.bind_some]
  exact ⟨r, rfl, by simpa using hr, hx⟩
theorem B10Complex_ok {l : List Int} (hl : By l) : ∃ r, spec_B10Complex.f l = some r ∧ C64 r := by
  unfold spec_B10Complex.f spec_l00From.f
  rw [Option.bind_some]
  simp only
  obtain ⟨b, a1, s1, e1, g0, g1⟩ := one_ok hl 0 0 4 (by omega) (by omega) (by omega)
  rw [e1, Option.bind_some]
  simp only
  cases b with
  | true =>
    obtain ⟨v, a2, s2, e2, hp, g2, g3⟩ := complexDraw_ok hl a1 s1 g0 (by omega)
    rw [if_pos rfl, e2, Option.bind_some]
    exact ⟨_, rfl, hp⟩
  | false =>
    obtain ⟨v, a2, s2, e2, hp, g2, g3⟩ := fineDraw_ok hl a1 s1 g0 (by omega)
    rw [if_neg (by decide), e2, Option.bind_some]
    exact ⟨_, rfl, hp⟩
theorem whole_all : (List.range 401).all (fun m => decide (floatOfInt .f32 ((m : Int) - 200) < 4294967296) && (floatToIntVal .f32 (floatOfInt .f32 ((m : Int) - 200)) .i64 == some ((m : Int) - 200))) = true := by decide +kernel
theorem whole_ok {x : Int} (h0 : -200 ≤ x) (h1 : x ≤ 200) : floatOfInt .f32 x < 4294967296 ∧ floatToIntVal .f32 (floatOfInt .f32 x) .i64 = some x := by
  have h := (List.all_eq_true.1 whole_all) (x + 200).toNat (List.mem_range.2 (by omega))
  rw [show (((x + 200).toNat : Nat) : Int) - 200 = x by omega, Bool.and_eq_true] at h
  exact ⟨of_decide_eq_true h.1, eq_of_beq h.2⟩
theorem B10Whole_ok {l : List Int} (hl : By l) : ∃ x1 x2 : Int, spec_B10Whole.f 10 l 1 200 = some [((floatOfInt .f32 x1 : Nat) : Int) * 4294967296 + ((floatOfInt .f32 x2 : Nat) : Int)] ∧ -200 ≤ x1 ∧ x1 ≤ 200 ∧ -200 ≤ x2 ∧ x2 ≤ 200 := by
  unfold spec_B10Whole.f spec_l00From.f
  rw [Option.bind_some]
  simp only
  unfold spec_B10Whole.l0
  have e401 : wrap64 (wrap64 (2 * 200) + 1) = 401 := by rw [w64 (2 * 200) (by omega) (by omega), w64 _ (by omega) (by omega)]; rfl
  rw [if_pos (by decide), e401]
  obtain ⟨v, a1, s1, e1, v0, v1, g0, g1⟩ := pick_ok hl 0 0 401 (by omega) (by omega) (by omega)
  rw [e1, Option.bind_some]
  simp only
  unfold cvtF.f
  rw [Option.bind_some]
  obtain ⟨u, a2, s2, e2, u0, u1, g2, g3⟩ := pick_ok hl a1 s1 401 g0 (by omega) (by omega)
  rw [e2, Option.bind_some]
  simp only
  rw [Option.bind_some, w64 (v - 200) (by omega) (by omega), w64 (u - 200) (by omega) (by omega)]
  obtain ⟨w1, _⟩ := whole_ok (x := v - 200) (by omega) (by omega)
  obtain ⟨w2, _⟩ := whole_ok (x := u - 200) (by omega) (by omega)
  obtain ⟨hx, _⟩ := cpx_ok (a := ((floatOfInt .f32 (v - 200) : Nat) : Int)) (b := ((floatOfInt .f32 (u - 200) : Nat) : Int)) ⟨by omega, by omega⟩ ⟨by omega, by omega⟩
  rw [hx, Option.bind_some, if_pos (by decide), show wrap64 (1 - 1) = 0 from w64 _ (by omega) (by omega)]
  unfold spec_B10Whole.l0
  rw [if_neg (by decide)]
  exact ⟨v - 200, u - 200, rfl, by omega, by omega, by omega, by omega⟩
end Go.Proofs.YtempeenjpaldaaaGreatDoor.SZ

namespace Go.Proofs.YtempeenjpaldaaaGreatDoor.SCpx
open Go.RowKit Go.Proofs.YtempeenjpaldaaaGreatDoorW.PrintWords Go.Proofs.YtempeenjpaldaaaGreatDoorW.PrintLast Go.Proofs.YtempeenjpaldaaaGreatDoorW.PrintMore Fl Hx SNum
/-- the bits of both parts -/
def gC (n : Int) : Int := two (bitsN (n.toNat / 4294967296)) (bitsN (n.toNat % 4294967296))
theorem readN_hex {p : ByteArray} {u : Nat} (hu : u < 4294967296) (hp : p.data.toList = hex8 u) : readN p = u := by
  unfold readN
  rw [hp, parseL_H _ _ _ (parse_hex8 hu)]
  rfl
theorem good_tC {n : Int} (hn : n.toNat < 18446744073709551616) : goodC (mkB (tC n)) = some (gC n) := by
  have h1 : n.toNat / 4294967296 < 4294967296 := by omega
  have h2 : n.toNat % 4294967296 < 4294967296 := by omega
  have r1 := bitsN_range h1
  have r2 := bitsN_range h2
  have hd : (mkB (tC n)).data.toList = tC n := rfl
  have hs : (mkB (tC n)).size = 16 := by rw [mkB_size, tC_len n hn]
  have hlh := lo_hi (mkB (tC n)) hs
  rw [hd] at hlh
  have happ : hex8 (bitsN (n.toNat / 4294967296)).toNat ++ hex8 (bitsN (n.toNat % 4294967296)).toNat = (lo (mkB (tC n))).data.toList ++ (hi (mkB (tC n))).data.toList := hlh
  obtain ⟨g1, g2⟩ := List.append_inj happ (by rw [hex8_len (by omega), data_length, lo_size hs])
  have hread : readC (mkB (tC n)) = gC n := by
    unfold readC gC
    rw [readN_hex (by omega) g1.symm, readN_hex (by omega) g2.symm]
    unfold two
    omega
  rw [← hread]
  refine (tC_iff hs).1 ?_
  rw [hread, hd]
  have hg1 : (gC n).toNat / 4294967296 = (bitsN (n.toNat / 4294967296)).toNat := by unfold gC two; omega
  have hg2 : (gC n).toNat % 4294967296 = (bitsN (n.toNat % 4294967296)).toNat := by unfold gC two; omega
  unfold tC
  rw [hg1, hg2, bits_bits, bits_bits]
theorem vals_tC : ∀ (l : List Int), (∀ n ∈ l, n.toNat < 18446744073709551616) → valsC (l.map fun n => mkB (tC n)) = some (l.map gC)
  | [], _ => rfl
  | n :: l, h => by
    rw [List.map_cons, valsC, good_tC (h n List.mem_cons_self), Option.bind_some, vals_tC l (fun m hm => h m (List.mem_cons_of_mem _ hm))]; rfl
theorem tC_ne {n : Int} (hn : n.toNat < 18446744073709551616) : ∀ c ∈ tC n, c ≠ 44 := by
  have h1 : n.toNat / 4294967296 < 4294967296 := by omega
  have h2 : n.toNat % 4294967296 < 4294967296 := by omega
  have r1 := bitsN_range h1
  have r2 := bitsN_range h2
  intro c hc
  unfold tC at hc
  rcases List.mem_append.1 hc with h | h
  · rw [hex8_is (by omega)] at h
    exact H_ne 8 _ c h
  · rw [hex8_is (by omega)] at h
    exact H_ne 8 _ c h
theorem roundC (xs : List Int) (hin : ∀ n ∈ xs, n.toNat < 18446744073709551616) (hl : xs.length ≤ 256) : ∃ t, impl_ComplexText.f 100000 xs = some (t, true) ∧ impl_ReadComplex.f 100000 t = some (xs.map gC, true) := by
  rcases xs with _ | ⟨x, l⟩
  · refine ⟨⟨#[110, 111, 110, 101]⟩, ?_, ?_⟩
    · unfold impl_ComplexText.f
      rw [if_neg (by simp)]
      unfold impl_ComplexText.l0
      rw [if_neg (by simp)]
      rfl
    · have hs : (⟨#[110, 111, 110, 101]⟩ : ByteArray).size = 4 := rfl
      rw [impl_readsC _ (by rw [hs]; omega) _ (by rw [hs]; omega)]
      unfold readCB
      rw [if_pos (by decide +kernel)]
      rfl
  · obtain ⟨t, ht, hu⟩ := text_listC x l hin hl 100000 (by omega)
    refine ⟨t, ht, ?_⟩
    have hxl := tC_len x (hin x List.mem_cons_self)
    have htl := lens_le (l.map tC) (fun y hy => by obtain ⟨n, hn, rfl⟩ := List.mem_map.1 hy; exact tC_len n (hin n (List.mem_cons_of_mem _ hn)))
    have hlen : t.data.toList.length = 16 + 17 * l.length := by
      rw [hu, List.map_cons, Lib.join_cons, List.length_append, hxl, htl, List.length_map]
    have hsz : t.size ≤ 5000 := by
      rw [← data_length, hlen]
      rw [List.length_cons] at hl
      omega
    rw [impl_readsC t (by omega) 100000 (by omega)]
    have hP : piecesB t = (x :: l).map fun n => mkB (tC n) := by
      unfold piecesB
      rw [hu, List.map_cons, cut_join _ _ (fun y hy => by
        rw [← List.map_cons] at hy
        obtain ⟨n, hn, rfl⟩ := List.mem_map.1 hy
        exact tC_ne (hin n hn)), ← List.map_cons, List.map_map]
      rfl
    unfold readCB
    rw [if_neg (fun e => by
      have h1 := congrArg List.length e
      rw [Lib.toList_data, hlen] at h1
      have h2 : ([110, 111, 110, 101] : List UInt8).length = 4 := rfl
      rw [h2] at h1
      omega), hP, if_neg (by rw [List.length_map]; omega), vals_tC _ hin]
    rfl
end Go.Proofs.YtempeenjpaldaaaGreatDoor.SCpx

namespace Go.Proofs.YtempeenjpaldaaaGreatDoor.ProdW
open Go.RowKit Go.Proofs.YtempeenjpaldaaaGreatDoorW.PrintWords Go.Proofs.YtempeenjpaldaaaGreatDoorW.PrintLast Go.Proofs.YtempeenjpaldaaaGreatDoorW.PrintMore Fl Ieee SNum SCpx
set_option linter.unusedVariables false
set_option linter.unusedSimpArgs false
set_option maxHeartbeats 8000000 in
set_option maxRecDepth 100000 in
theorem walk_long (A0 : Option Addr) (c0 : Nat) (l0 : List Int) (A1 : Option Addr) (c1 : Nat) (l1 : List Int) (W : World) (h0 : Kd.C (Kd.int .u8) W A0 l0.length l0) (hc0 : l0.length ≤ c0) (h1 : Kd.C (Kd.int .u8) W A1 l1.length l1) (hc1 : l1.length ≤ c1)
    (hl : SZ.laws_b10Long.f l0 l1 = some true) :
    Calls Tryz.prog 4 #[.slice A0 l0.length c0, .slice A1 l1.length c1] W fun e w' => e = .returned (.bool true) ∧ Below W.heap.size W w' := by
  have HB := Aside0.mk (Below.refl W.heap.size W)
  go_enter Tryz.func4, Tryz.ntmps4
  go_wp2_with fail
  refine (SZ.laws_b10Long.calls A0 c0 l0 A1 c1 l1 true _ h0 hc0 h1 hc1 hl).mono ?_
  rintro e w1 ⟨rfl, ⟨nd_, hd⟩⟩
  have HB1 := Aside0.mk (drawn_grown HB.out ⟨nd_, hd⟩)
  clear hd
  go_wp2
  go_ret
  exact ⟨rfl, (by repeat (first | (with_reducible first | exact HB1.out | apply below_alloc | apply pw_below_drewN | apply below_drew1) | exact HB1.out))⟩
/-- one and the same parts, whatever NaN -/
def SameC (u v : Int) : Prop := ∃ p1 p2 q1 q2 : Nat, CV u = .complex .f32 p1 p2 ∧ CV v = .complex .f32 q1 q2 ∧ p1 < 4294967296 ∧ p2 < 4294967296 ∧ q1 < 4294967296 ∧ q2 < 4294967296 ∧ sameB p1 q1 = true ∧ sameB p2 q2 = true
set_option maxHeartbeats 8000000 in
set_option maxRecDepth 100000 in
theorem b10Same_any (A B : Option Addr) (c d n : Nat) (xs ys : List Int) (w : World) (hA : CKI.C w A n xs) (hB : CKI.C w B n ys) (hn : n ≤ 256) (hs : ∀ j : Nat, j < n → SameC (rd xs (j : Int)) (rd ys (j : Int))) :
    Calls Tryz.prog 33 #[.slice A n c, .slice B n d] w fun e w' => e = .returned (.bool true) ∧ ∃ k, w' = w.drewN k := by
  have HA := Aside0.mk hA
  have HB := Aside0.mk hB
  have HS := Lib.hid hs
  clear hA hB hs
  go_enter Tryz.func33, Tryz.ntmps33
  go_wp2
  go_loopw [13] (fun vc w' => ∃ j : Nat, vc = .int .i64 j ∧ Aside0 (j ≤ n) ∧ Aside0 (∃ k, w' = w.drewN k)) (fun vc _ => n - (intOf vc).toNat)
  case atStart => exact ⟨0, rfl, ⟨by omega⟩, ⟨0, rfl⟩⟩
  case round =>
    obtain ⟨j, rfl, HJ, HK⟩ := hrel
    by_cases hlt : j < n
    · obtain ⟨p1, p2, q1, q2, ep, eq, hp1, hp2, hq1, hq2, s1, s2⟩ := HS.out j hlt
      obtain ⟨ad, ea, hxx⟩ := at_cki HA.out j (by omega) (by omega)
      obtain ⟨bd, eb, hyy⟩ := at_cki HB.out j (by omega) (by omega)
      subst ea eb
      rw [ep, Int.toNat_natCast] at hxx
      rw [eq, Int.toNat_natCast] at hyy
      replace hxx : wr.cell? (ad.add j) = some (.complex .f32 p1 p2) := by obtain ⟨k, e⟩ := HK.out; rw [e]; exact hxx
      replace hyy : wr.cell? (bd.add j) = some (.complex .f32 q1 q2) := by obtain ⟨k, e⟩ := HK.out; rw [e]; exact hyy
      have HPQ := Lib.hid (show ∀ w, Calls Tryz.prog 65 #[.complex .f32 p1 p2, .complex .f32 q1 q2] w fun e w' => e = .returned (.bool true) ∧ ∃ n, w' = w.drewN n from fun w => (ProdA.specSameComplex_any p1 p2 q1 q2 hp1 hp2 hq1 hq2 s1 s2 w).mono fun _ _ ⟨a_, b_⟩ => ⟨a_, 0, by rw [← b_, World.drewN_zero]⟩)
      clear ep eq hp1 hp2 hq1 hq2 s1 s2
      go_wp2_with fail
      go_quiet ((go_at_call 65; exact Calls.quiet_of (HPQ.out _)))
      go_wp2
      go_roundw
      case rel => exact ⟨j + 1, by go_num, ⟨by omega⟩, ⟨by obtain ⟨k, e⟩ := HK.out; exact ⟨_, by rw [e, World.drewN_drewN]⟩⟩⟩
      case measure => simp [intOf]; omega
    · obtain rfl : j = n := by have := HJ.out; omega
      go_wp2
      go_ret
      exact ⟨rfl, HK.out⟩
set_option maxHeartbeats 32000000 in
set_option maxRecDepth 100000 in
theorem walk_core (A0 : Option Addr) (c0 : Nat) (l0 : List Int) (A1 : Option Addr) (c1 : Nat) (l1 : List Int) (W : World) (h0 : Kd.C (Kd.int .u8) W A0 l0.length l0) (hc0 : l0.length ≤ c0) (h1 : Kd.C (Kd.int .u8) W A1 l1.length l1) (hc1 : l1.length ≤ c1)
    (hl : SZ.laws_b10Long.f l0 l1 = some false) (HT : TR W)
    (t1 t2 : Int) (eT1 : SZ.spec_B10Whole.f 10 l0 1 200 = some [t1]) (eT2 : SZ.spec_B10Whole.f 10 l1 1 200 = some [t2]) (a1 a2 b1 b2 : Nat) (hcv1 : CV t1 = .complex .f32 a1 a2) (hcv2 : CV t2 = .complex .f32 b1 b2)
    (x1 x2 y1 y2 z1 z2 z3 z4 z5 z6 X Y P : Int) (i1 : ∀ w, ires .f32 a1 .i64 w = x1) (i2 : ∀ w, ires .f32 a2 .i64 w = x2) (i3 : ∀ w, ires .f32 b1 .i64 w = y1) (i4 : ∀ w, ires .f32 b2 .i64 w = y2)
    (k1 : icnt .f32 a1 .i64 = 0) (k2 : icnt .f32 a2 .i64 = 0) (k3 : icnt .f32 b1 .i64 = 0) (k4 : icnt .f32 b2 .i64 = 0)
    (g1 : wrap64 (x1 * y1) = z1) (g2 : wrap64 (x2 * y2) = z2) (g3 : wrap64 (x1 * y2) = z3) (g4 : wrap64 (x2 * y1) = z4) (g5 : wrap64 (x1 * x1) = z5) (g6 : wrap64 (x2 * x2) = z6)
    (g7 : wrap64 (z1 - z2) = X) (g8 : wrap64 (z3 + z4) = Y) (g9 : wrap64 (z5 + z6) = P)
    (p1 p2 q1 q2 n2 m1 m2 r1 r2 s1 s2 d1 d2 fX fY fP LF z m w1 w2 nw : Nat) (f1 f2 nz : Bool)
    (j1 : floatOfInt .f32 X = fX) (j2 : floatOfInt .f32 Y = fY) (j3 : floatOfInt .f32 P = fP)
    (o1 : FloatKind.f32.format.order p1 fX = some .eq) (o2 : FloatKind.f32.format.order p2 fY = some .eq) (o3 : FloatKind.f32.format.order q1 p1 = some .eq) (o4 : FloatKind.f32.format.order q2 p2 = some .eq)
    (o5 : FloatKind.f32.format.order fP fP = some .eq) (o6 : FloatKind.f32.format.order m1 fP = some .eq) (o7 : FloatKind.f32.format.order m2 0 = some .eq)
    (o8 : nz = true → FloatKind.f32.format.order r1 a1 = some .eq) (o9 : nz = true → FloatKind.f32.format.order r2 a2 = some .eq) (o10 : FloatKind.f32.format.order s1 d1 = some .eq) (o11 : FloatKind.f32.format.order s2 d2 = some .eq)
    (hnz : (!((FloatKind.f32.format.order b1 0 == some .eq) && (FloatKind.f32.format.order b2 0 == some .eq))) = nz)
    (hadd : ∀ (Q : Program) (t : TypeId) (w : World), (binOp .add t (.complex .f32 a1 a2) (.complex .f32 a1 a2)).run Q w = .ok (.complex .f32 d1 d2) w)
    (hLF : LF < 4294967296)
    (HMul1 : RowKit.Hid (∀ w, Calls Tryz.prog 22 #[.complex .f32 a1 a2, .complex .f32 b1 b2] w fun e w' => e = .returned (.complex .f32 p1 p2) ∧ w = w'))
    (HMul2 : RowKit.Hid (∀ w, Calls Tryz.prog 22 #[.complex .f32 b1 b2, .complex .f32 a1 a2] w fun e w' => e = .returned (.complex .f32 q1 q2) ∧ w = w'))
    (HPow : RowKit.Hid (∀ w, Calls Tryz.prog 23 #[.complex .f32 a1 a2] w fun e w' => e = .returned (.float .f32 fP) ∧ w = w'))
    (HConj : RowKit.Hid (∀ w, Calls Tryz.prog 24 #[.complex .f32 a1 a2] w fun e w' => e = .returned (.complex .f32 a1 n2) ∧ w = w'))
    (HMul3 : RowKit.Hid (∀ w, Calls Tryz.prog 22 #[.complex .f32 a1 a2, .complex .f32 a1 n2] w fun e w' => e = .returned (.complex .f32 m1 m2) ∧ w = w'))
    (HLong : RowKit.Hid (∀ w, Calls Tryz.prog 25 #[.complex .f32 a1 a2] w fun e w' => ∃ r, e = .returned (.float .f32 r) ∧ Sim .f32 r LF ∧ ∃ n, w' = w.drewN n))
    (HRoot : RowKit.Hid (∀ w, Calls Tryz.prog 26 #[.float .f32 fP] w fun e w' => ∃ r, e = .returned (.float .f32 r) ∧ Sim .f32 r LF ∧ ∃ n, w' = w.drewN n))
    (HScale : RowKit.Hid (∀ w, Calls Tryz.prog 28 #[.complex .f32 a1 a2, .float .f32 1073741824] w fun e w' => e = .returned (.complex .f32 s1 s2) ∧ w = w'))
    (HBits : RowKit.Hid (∀ w, Calls Tryz.prog 8 #[.float .f32 z] w fun e w' => e = .returned (.int .i64 (m : Int)) ∧ w = w'))
    (HFrom : RowKit.Hid (∀ w, Calls Tryz.prog 7 #[.int .i64 (m : Int)] w fun e w' => e = .returned (.tuple #[.float .f32 m, .bool true]) ∧ w = w'))
    (HS1 : RowKit.Hid (∀ w, Calls Tryz.prog 15 #[.float .f32 m, .float .f32 z] w fun e w' => e = .returned (.bool true) ∧ w = w'))
    (HCW1 : RowKit.Hid (∀ w, Calls Tryz.prog 24 #[.complex .f32 w1 w2] w fun e w' => e = .returned (.complex .f32 w1 nw) ∧ w = w'))
    (HCW2 : RowKit.Hid (∀ w, Calls Tryz.prog 24 #[.complex .f32 w1 nw] w fun e w' => e = .returned (.complex .f32 w1 w2) ∧ w = w'))
    (HSW : RowKit.Hid (∀ w, Calls Tryz.prog 34 #[.complex .f32 w1 w2, .complex .f32 w1 w2] w fun e w' => e = .returned (.bool true) ∧ ∃ n, w' = w.drewN n))
    (HFC : RowKit.Hid (∀ w, Calls Tryz.prog 36 #[.complex .f32 w1 w2] w fun e w' => e = .returned (.bool (f1 && f2)) ∧ ∃ n, w' = w.drewN n))
    (HF1 : RowKit.Hid (∀ w, Calls Tryz.prog 37 #[.float .f32 w1] w fun e w' => e = .returned (.bool f1) ∧ ∃ n, w' = w.drewN n))
    (HF2 : RowKit.Hid (∀ w, Calls Tryz.prog 37 #[.float .f32 w2] w fun e w' => e = .returned (.bool f2) ∧ ∃ n, w' = w.drewN n))
    (HQuo : RowKit.Hid (nz = true → ∀ w, Calls Tryz.prog 27 #[.complex .f32 p1 p2, .complex .f32 b1 b2] w fun e w' => e = .returned (.complex .f32 r1 r2) ∧ w = w'))
    (HSN : RowKit.Hid (∀ v1 v2 w, Sim .f32 v1 w1 → Sim .f32 v2 w2 → v1 < 4294967296 → v2 < 4294967296 → Calls Tryz.prog 34 #[.complex .f32 v1 v2, .complex .f32 w1 w2] w fun e w' => e = .returned (.bool true) ∧ ∃ n, w' = w.drewN n))
    (n : Nat) (en : SZ.laws_b10At.f l0 0 9 = some (n : Int)) (xs : List Int) (exs : SZ.spec_B10Any.f 1000 l1 n = some xs) (hxs : xs.length ≤ 256)
    (t : ByteArray) (et : impl_ComplexText.f 100000 xs = some (t, true)) (ys : List Int) (er : impl_ReadComplex.f 100000 t = some (ys, true)) (hys : ys.length = xs.length)
    (hsame : ∀ j : Nat, j < xs.length → SameC (rd ys (j : Int)) (rd xs (j : Int)))
    (ez : SZ.spec_B10Number.f l0 = some (z : Int)) (tw : Int) (ew : SZ.spec_B10Complex.f l0 = some tw) (hcvw : CV tw = .complex .f32 w1 w2) (hw1 : w1 < 4294967296) (hw2 : w2 < 4294967296) :
    Calls Tryz.prog 4 #[.slice A0 l0.length c0, .slice A1 l1.length c1] W fun e w' => e = .returned (.bool true) ∧ Below W.heap.size W w' := by
  have HT0 := Aside0.mk HT
  have C0 := Aside0.mk h0
  have C1 := Aside0.mk h1
  have HL := Aside0.mk hl
  have ET1 := Aside0.mk eT1
  have ET2 := Aside0.mk eT2
  have HV1 := Aside0.mk hcv1
  have HV2 := Aside0.mk hcv2
  have HVW := Aside0.mk hcvw
  have En := Aside0.mk en
  have Exs := Aside0.mk exs
  have Hxs := Aside0.mk hxs
  have Et := Aside0.mk et
  have Er := Aside0.mk er
  have Hys := Aside0.mk hys
  have HSame := Lib.hid hsame
  have Ez := Aside0.mk ez
  have Ew := Aside0.mk ew
  have O8 := Lib.hid o8
  have O9 := Lib.hid o9
  have HLF := Lib.hid hLF
  have HW1 := Lib.hid hw1
  have HW2 := Lib.hid hw2
  clear HT h0 h1 hl eT1 eT2 hcv1 hcv2 hcvw en exs hxs et er hys hsame ez ew o8 o9 hLF hw1 hw2
  have HB := Aside0.mk (Below.refl W.heap.size W)
  go_enter Tryz.func4, Tryz.ntmps4
  go_wp2_with fail
  refine (SZ.laws_b10Long.calls A0 c0 l0 A1 c1 l1 false _ C0.out hc0 C1.out hc1 HL.out).mono ?_
  rintro e w_1 ⟨rfl, ⟨nd_, hd⟩⟩
  have HB1 := Aside0.mk (drawn_grown HB.out ⟨nd_, hd⟩)
  clear hd
  go_wp2_with fail
  refine (SZ.spec_B10Whole.calls 10 A0 c0 l0 1 200 [t1] _ (Kd.C_below C0.out (by repeat (first | (with_reducible first | exact HB1.out | apply below_alloc | apply pw_below_drewN | apply below_drew1) | exact HB1.out))) hc0 ET1.out).mono ?_
  rintro e w_2 ⟨v2, rfl, hr, hb⟩
  have HB2 := Aside0.mk (below_step (by repeat (first | (with_reducible first | exact HB1.out | apply below_alloc | apply pw_below_drewN | apply below_drew1) | exact HB1.out)) hb)
  obtain ⟨Aa, ca, rfl, hcapa, hCa⟩ := Kd.R_reads hr
  obtain ⟨ada, rfl, hca⟩ := at_cki hCa 0 (by omega) (by simp)
  rw [show rd [t1] 0 = t1 from rfl, HV1.out] at hca
  have hca' : w_2.cell? ada = some (.complex .f32 a1 a2) := hca
  clear hb hr hCa
  dsimp only [List.length_cons, List.length_nil] at hcapa ⊢
  go_wp2_with fail
  clear hca hca'
  refine (SZ.spec_B10Whole.calls 10 A1 c1 l1 1 200 [t2] _ (Kd.C_below C1.out (by repeat (first | (with_reducible first | exact HB2.out | apply below_alloc | apply pw_below_drewN | apply below_drew1) | exact HB2.out))) hc1 ET2.out).mono ?_
  rintro e w_3 ⟨v3, rfl, hr, hb⟩
  have HB3 := Aside0.mk (below_step (by repeat (first | (with_reducible first | exact HB2.out | apply below_alloc | apply pw_below_drewN | apply below_drew1) | exact HB2.out)) hb)
  obtain ⟨Ab, cb_, rfl, hcapb, hCb⟩ := Kd.R_reads hr
  obtain ⟨adb, rfl, hcb⟩ := at_cki hCb 0 (by omega) (by simp)
  rw [show rd [t2] 0 = t2 from rfl, HV2.out] at hcb
  have hcb' : w_3.cell? adb = some (.complex .f32 b1 b2) := hcb
  clear hb hr hCb
  dsimp only [List.length_cons, List.length_nil] at hcapb ⊢
  go_wp2_with fail
  clear hcb hcb'
  refine (HMul1.out _).mono ?_
  rintro e w_4 ⟨rfl, rfl⟩
  go_wp2_with fail
  refine (HMul2.out _).mono ?_
  rintro e w_5 ⟨rfl, rfl⟩
  go_wp2_with fail
  refine (HPow.out _).mono ?_
  rintro e w_6 ⟨rfl, rfl⟩
  go_wp2_with fail
  refine (HConj.out _).mono ?_
  rintro e w_7 ⟨rfl, rfl⟩
  go_wp2_with fail
  refine (HMul3.out _).mono ?_
  rintro e w_8 ⟨rfl, rfl⟩
  go_wp2_with fail
  refine (HLong.out _).mono ?_
  rintro e w_9 ⟨v9, rfl, hr9, hd⟩
  have HB4 := Aside0.mk (drawn_grown (by repeat (first | (with_reducible first | exact HB3.out | apply below_alloc | apply pw_below_drewN | apply below_drew1) | exact HB3.out)) hd)
  have HR9 := Aside0.mk hr9
  clear hd hr9
  go_wp2_with fail
  refine (HRoot.out _).mono ?_
  rintro e w_10 ⟨v10, rfl, hr10, hd⟩
  have HB5 := Aside0.mk (drawn_grown (by repeat (first | (with_reducible first | exact HB4.out | apply below_alloc | apply pw_below_drewN | apply below_drew1) | exact HB4.out)) hd)
  have HR10 := Aside0.mk hr10
  clear hd hr10
  go_wp2_with fail
  refine (NumsA.SameNumber_sim _ _ LF HR9.out HR10.out HLF.out _).mono ?_
  rintro e w_11 ⟨rfl, rfl⟩
  cases nz
  case' true =>
    have o8 := O8.out rfl
    have o9 := O9.out rfl
    go_wp2_with fail
    refine (HQuo.out (by first | rfl | trivial) _).mono ?_
    rintro e w_12 ⟨rfl, rfl⟩
    go_wp2_with fail
  case' false =>
    go_wp2_with fail
  all_goals
    refine (HScale.out _).mono ?_
    rintro e w_13 ⟨rfl, rfl⟩
    go_wp2_with fail
    refine (SZ.laws_b10At.calls A0 c0 l0 0 9 (n : Int) _ (Kd.C_below C0.out (by repeat (first | (with_reducible first | exact HB5.out | apply below_alloc | apply pw_below_drewN | apply below_drew1) | exact HB5.out))) hc0 En.out).mono ?_
    rintro e w_14 ⟨rfl, ⟨nd2_, hd⟩⟩
    have HB6 := Aside0.mk (drawn_grown (by repeat (first | (with_reducible first | exact HB5.out | apply below_alloc | apply pw_below_drewN | apply below_drew1) | exact HB5.out)) ⟨nd2_, hd⟩)
    clear hd
    go_wp2_with fail
    refine (SZ.spec_B10Any.calls 1000 A1 c1 l1 (n : Int) xs _ (Kd.C_below C1.out (by repeat (first | (with_reducible first | exact HB6.out | apply below_alloc | apply pw_below_drewN | apply below_drew1) | exact HB6.out))) hc1 Exs.out).mono ?_
    rintro e w8 ⟨v8, rfl, hr, hb⟩
    have HB7 := Aside0.mk (below_step (by repeat (first | (with_reducible first | exact HB6.out | apply below_alloc | apply pw_below_drewN | apply below_drew1) | exact HB6.out)) hb)
    obtain ⟨A, c, rfl, hcap, hC⟩ := Kd.R_reads hr
    have CL := Aside0.mk hC
    have TR8 := Aside0.mk (TR.on HT0.out HB7.out)
    have C08 := Aside0.mk (Kd.C_below C0.out HB7.out)
    have HBa := Aside0.mk (Below.refl w8.heap.size w8)
    clear hb hr hC
    obtain ⟨N, hN⟩ : ∃ N, N = xs.length := ⟨_, rfl⟩
    have HN := Aside0.mk hN
    have hN256 : N ≤ 256 := by rw [hN]; exact Hxs.out
    rw [← hN] at hcap ⊢
    clear hN
    go_wp2_with fail
    have HText := Aside0.mk (fun w (h : Below w8.heap.size w8 w) => by
      have := impl_ComplexText.calls 100000 A c xs t true w (Kd.C_below CL.out h) (by rw [← HN.out]; exact hcap) Et.out ⟨TR.th (TR.on TR8.out h)⟩
      rw [← HN.out] at this
      exact this)
    refine (HText.out _ (by repeat (first | (with_reducible first | exact HBa.out | apply below_alloc | apply pw_below_drewN | apply below_drew1) | exact HBa.out))).mono ?_
    rintro e w10 ⟨rfl, hb⟩
    have HB8 := Aside0.mk (below_step (by repeat (first | (with_reducible first | exact HBa.out | apply below_alloc | apply pw_below_drewN | apply below_drew1) | exact HBa.out)) hb)
    clear hb
    go_wp2_with fail
    refine (impl_ReadComplex.calls 100000 t ys true _ Er.out ⟨TR.on TR8.out (by repeat (first | (with_reducible first | exact HB8.out | apply below_alloc | apply pw_below_drewN | apply below_drew1) | exact HB8.out))⟩).mono ?_
    rintro e w11 ⟨v11, rfl, hr, hb⟩
    have HB9 := Aside0.mk (below_step (by repeat (first | (with_reducible first | exact HB8.out | apply below_alloc | apply pw_below_drewN | apply below_drew1) | exact HB8.out)) hb)
    clear hb
    obtain ⟨B, d, rfl, hcap2, hC2⟩ := Kd.R_reads hr
    have CY := Aside0.mk hC2
    have CX := Aside0.mk (Kd.C_below CL.out HB9.out)
    have C011 := Aside0.mk (Kd.C_below C08.out HB9.out)
    clear hC2 hr
    have HBb := Aside0.mk (Below.refl w11.heap.size w11)
    rw [Hys.out, ← HN.out] at hcap2 ⊢
    go_wp2_with fail
    refine (SZ.spec_B10Number.calls A0 c0 l0 (z : Int) _ (Kd.C_below C011.out (by repeat (first | (with_reducible first | exact HBb.out | apply below_alloc | apply pw_below_drewN | apply below_drew1) | exact HBb.out))) hc0 Ez.out).mono ?_
    rintro e w12 ⟨rfl, hb⟩
    have HC1 := Aside0.mk (below_step (by repeat (first | (with_reducible first | exact HBb.out | apply below_alloc | apply pw_below_drewN | apply below_drew1) | exact HBb.out)) hb)
    clear hb
    go_wp2_with fail
    refine (HBits.out _).mono ?_
    rintro e w13 ⟨rfl, rfl⟩
    go_wp2_with fail
    refine (HFrom.out _).mono ?_
    rintro e w14 ⟨rfl, rfl⟩
    go_wp2_with fail
    refine (SZ.spec_B10Complex.calls A0 c0 l0 tw _ (Kd.C_below C011.out (by repeat (first | (with_reducible first | exact HC1.out | apply below_alloc | apply pw_below_drewN | apply below_drew1) | exact HC1.out))) hc0 Ew.out).mono ?_
    rintro e w15 ⟨rfl, hb⟩
    have HC2 := Aside0.mk (below_step (by repeat (first | (with_reducible first | exact HC1.out | apply below_alloc | apply pw_below_drewN | apply below_drew1) | exact HC1.out)) hb)
    clear hb
    rw [HVW.out]
    go_wp2_with fail
    have HSm := Aside0.mk (fun w (h : Below w11.heap.size w11 w) => b10Same_any B A d c N ys xs w (by have := Kd.C_below CY.out h; rw [Hys.out, ← HN.out] at this; exact this) (by have := Kd.C_below CX.out h; rw [← HN.out] at this; exact this) hN256 (by rw [HN.out]; exact HSame.out))
    refine (HSm.out _ (by repeat (first | (with_reducible first | exact HC2.out | apply below_alloc | apply pw_below_drewN | apply below_drew1) | exact HC2.out))).mono ?_
    rintro e w16 ⟨rfl, hd⟩
    have HC3 := Aside0.mk (drawn_grown (by repeat (first | (with_reducible first | exact HC2.out | apply below_alloc | apply pw_below_drewN | apply below_drew1) | exact HC2.out)) hd)
    clear hd
    go_wp2_with fail
    refine (HS1.out _).mono ?_
    rintro e w17 ⟨rfl, rfl⟩
    go_wp2_with fail
    refine (ProdA.NarrowComplex_any _ _ _).mono ?_
    rintro e w18 ⟨u1, u2, rfl, hd⟩
    have HC4 := Aside0.mk (drawn_grown (by repeat (first | (with_reducible first | exact HC3.out | apply below_alloc | apply pw_below_drewN | apply below_drew1) | exact HC3.out)) hd)
    clear hd
    go_wp2_with fail
    refine (HSN.out _ _ _ (NumsA.narrow_back HW1.out _ _) (NumsA.narrow_back HW2.out _ _) (cres_lt (k := .f32) (s := .f64) (cres_lt (k := .f64) (s := .f32) HW1.out _) _) (cres_lt (k := .f32) (s := .f64) (cres_lt (k := .f64) (s := .f32) HW2.out _) _)).mono ?_
    rintro e w19 ⟨rfl, hd⟩
    have HC5 := Aside0.mk (drawn_grown (by repeat (first | (with_reducible first | exact HC4.out | apply below_alloc | apply pw_below_drewN | apply below_drew1) | exact HC4.out)) hd)
    clear hd
    go_wp2_with fail
    refine (HCW1.out _).mono ?_
    rintro e w20 ⟨rfl, rfl⟩
    go_wp2_with fail
    refine (HCW2.out _).mono ?_
    rintro e w21 ⟨rfl, rfl⟩
    go_wp2_with fail
    refine (HSW.out _).mono ?_
    rintro e w22 ⟨rfl, hd⟩
    have HC6 := Aside0.mk (drawn_grown (by repeat (first | (with_reducible first | exact HC5.out | apply below_alloc | apply pw_below_drewN | apply below_drew1) | exact HC5.out)) hd)
    clear hd
    go_wp2_with fail
    refine (HFC.out _).mono ?_
    rintro e w23 ⟨rfl, hd⟩
    have HC7 := Aside0.mk (drawn_grown (by repeat (first | (with_reducible first | exact HC6.out | apply below_alloc | apply pw_below_drewN | apply below_drew1) | exact HC6.out)) hd)
    clear hd
    go_wp2_with fail
    refine (HF1.out _).mono ?_
    rintro e w24 ⟨rfl, hd⟩
    have HC8 := Aside0.mk (drawn_grown (by repeat (first | (with_reducible first | exact HC7.out | apply below_alloc | apply pw_below_drewN | apply below_drew1) | exact HC7.out)) hd)
    clear hd
    cases f1
    case' true =>
      go_wp2_with fail
      refine (HF2.out _).mono ?_
      rintro e w25 ⟨rfl, hd⟩
      have HC9 := Aside0.mk (drawn_grown (by repeat (first | (with_reducible first | exact HC8.out | apply below_alloc | apply pw_below_drewN | apply below_drew1) | exact HC8.out)) hd)
      clear hd
      cases f2
    case' false =>
      have HC9 := HC8
    all_goals
      go_wp2
      go_ret
      exact ⟨rfl, below_step HB7.out (below_step HB9.out (by repeat (first | (with_reducible first | exact HC9.out | apply below_alloc | apply pw_below_drewN | apply below_drew1) | exact HC9.out)))⟩
end Go.Proofs.YtempeenjpaldaaaGreatDoor.ProdW

namespace Go.Proofs.YtempeenjpaldaaaGreatDoor.ProdW
open Go.RowKit Go.Proofs.YtempeenjpaldaaaGreatDoorW.PrintWords Go.Proofs.YtempeenjpaldaaaGreatDoorW.PrintLast Go.Proofs.YtempeenjpaldaaaGreatDoorW.PrintMore Fl Ieee SNum SCpx ProdA
theorem cv_parts {a b : Nat} (ha : a < 4294967296) (hb : b < 4294967296) : CV ((a : Int) * 4294967296 + (b : Int)) = .complex .f32 a b := by
  have h := cpx.is (SZ.cpx_ok (a := (a : Int)) (b := (b : Int)) ⟨by omega, by omega⟩ ⟨by omega, by omega⟩).1
  rw [Int.toNat_natCast, Int.toNat_natCast] at h
  exact h.symm
theorem same_self (x : Nat) : sameB x x = true := by unfold sameB; rw [beq_iff_eq]
theorem sim_same {a b : Nat} (h : Sim .f32 a b) : sameB a b = true := by
  rcases h with rfl | ⟨ha, hb⟩
  · exact same_self a
  · unfold sameB; rw [bitsN_nan ha, bitsN_nan hb]; rfl
theorem sameC_g {v : Int} (hv : SZ.C64 v) : SameC (gC v) v := by
  obtain ⟨v0, v1⟩ := hv
  have h1 : v.toNat / 4294967296 < 4294967296 := by omega
  have h2 : v.toNat % 4294967296 < 4294967296 := by omega
  have r1 := bitsN_range h1
  have r2 := bitsN_range h2
  have hg1 : (gC v).toNat / 4294967296 = (bitsN (v.toNat / 4294967296)).toNat := by unfold gC two; omega
  have hg2 : (gC v).toNat % 4294967296 = (bitsN (v.toNat % 4294967296)).toNat := by unfold gC two; omega
  refine ⟨_, _, _, _, ?_, rfl, by omega, by omega, h1, h2, NumsA.same_bits _, NumsA.same_bits _⟩
  show Value.complex .f32 ((gC v).toNat / 4294967296) ((gC v).toNat % 4294967296) = _
  rw [hg1, hg2]
set_option maxHeartbeats 4000000 in
theorem walk (A0 : Option Addr) (c0 : Nat) (l0 : List Int) (A1 : Option Addr) (c1 : Nat) (l1 : List Int) (W : World) (h0 : Kd.C (Kd.int .u8) W A0 l0.length l0) (hc0 : l0.length ≤ c0) (h1 : Kd.C (Kd.int .u8) W A1 l1.length l1) (hc1 : l1.length ≤ c1)
    (b0 : ∀ n ∈ l0, 0 ≤ n ∧ n ≤ 255) (b1 : ∀ n ∈ l1, 0 ≤ n ∧ n ≤ 255) (HT : TR W) :
    Calls Tryz.prog 4 #[.slice A0 l0.length c0, .slice A1 l1.length c1] W fun e w' => e = .returned (.bool true) ∧ Below W.heap.size W w' := by
  have hb0 : SZ.By l0 := fun x hx => by have := b0 x hx; omega
  have hb1 : SZ.By l1 := fun x hx => by have := b1 x hx; omega
  have hl : SZ.laws_b10Long.f l0 l1 = some true ∨ SZ.laws_b10Long.f l0 l1 = some false := by
    unfold SZ.laws_b10Long.f
    split
    · exact .inl rfl
    · cases decide ((l1.length : Int) > 1048576)
      · exact .inr rfl
      · exact .inl rfl
  rcases hl with hl | hl
  · exact walk_long A0 c0 l0 A1 c1 l1 W h0 hc0 h1 hc1 hl
  obtain ⟨x1, x2, eT1, lx1, ux1, lx2, ux2⟩ := SZ.B10Whole_ok hb0
  obtain ⟨y1, y2, eT2, ly1, uy1, ly2, uy2⟩ := SZ.B10Whole_ok hb1
  obtain ⟨wa1, ia1⟩ := SZ.whole_ok lx1 ux1
  obtain ⟨wa2, ia2⟩ := SZ.whole_ok lx2 ux2
  obtain ⟨wb1, ib1⟩ := SZ.whole_ok ly1 uy1
  obtain ⟨wb2, ib2⟩ := SZ.whole_ok ly2 uy2
  have va1 := (iv_ofInt .f32 x1 (few32 (by omega))).1
  have va2 := (iv_ofInt .f32 x2 (few32 (by omega))).1
  have vb1 := (iv_ofInt .f32 y1 (few32 (by omega))).1
  have vb2 := (iv_ofInt .f32 y2 (few32 (by omega))).1
  generalize floatOfInt .f32 x1 = a1 at *
  generalize floatOfInt .f32 x2 = a2 at *
  generalize floatOfInt .f32 y1 = b1' at *
  generalize floatOfInt .f32 y2 = b2' at *
  have n1 : x1.natAbs ≤ 200 := by omega
  have n2 : x2.natAbs ≤ 200 := by omega
  have n3 : y1.natAbs ≤ 200 := by omega
  have n4 : y2.natAbs ≤ 200 := by omega
  have n5 : (-x2).natAbs ≤ 200 := by omega
  have k1 := mul_le' n1 n3
  have k2 := mul_le' n2 n4
  have k3 := mul_le' n1 n4
  have k4 := mul_le' n2 n3
  have k5 := mul_le' n1 n1
  have k6 := mul_le' n2 n2
  have s5 := sq_nonneg x1
  have s6 := sq_nonneg x2
  obtain ⟨p1, p2, vp1, vp2, HMul1⟩ := MulComplex_int a1 a2 b1' b2' x1 x2 y1 y2 va1 va2 vb1 vb2 n1 n2 n3 n4
  obtain ⟨q1, q2, vq1, vq2, HMul2⟩ := MulComplex_int b1' b2' a1 a2 y1 y2 x1 x2 vb1 vb2 va1 va2 n3 n4 n1 n2
  have eX : y1 * x1 - y2 * x2 = x1 * y1 - x2 * y2 := by rw [Int.mul_comm y1 x1, Int.mul_comm y2 x2]
  have eY : y1 * x2 + y2 * x1 = x1 * y2 + x2 * y1 := by rw [Int.mul_comm y1 x2, Int.mul_comm y2 x1, Int.add_comm]
  rw [eX] at vq1
  rw [eY] at vq2
  have vX := (iv_ofInt .f32 (x1 * y1 - x2 * y2) (few32 (by omega))).1
  have vY := (iv_ofInt .f32 (x1 * y2 + x2 * y1) (few32 (by omega))).1
  have vP := (iv_ofInt .f32 (x1 * x1 + x2 * x2) (few32 (by omega))).1
  have vn2 := iv_neg32 va2
  obtain ⟨m1, m2, vm1, vm2, HMul3⟩ := MulComplex_int a1 a2 a1 (Op.negFloat .f32 a2) x1 x2 x1 (-x2) va1 va2 va1 vn2 n1 n2 n1 n5
  have eP : x1 * x1 - x2 * -x2 = x1 * x1 + x2 * x2 := by rw [Int.mul_neg]; omega
  have e0 : x1 * -x2 + x2 * x1 = 0 := by rw [Int.mul_neg, Int.mul_comm x2 x1]; omega
  rw [eP] at vm1
  rw [e0] at vm2
  have v0 : Iv .f32 0 0 := by
    have h := (iv_ofInt .f32 0 (few32 (by decide))).1
    rwa [show floatOfInt .f32 0 = 0 by decide +kernel] at h
  obtain ⟨nz, hnz⟩ : ∃ nz, (!((FloatKind.f32.format.order b1' 0 == some .eq) && (FloatKind.f32.format.order b2' 0 == some .eq))) = nz := ⟨_, rfl⟩
  obtain ⟨r1, r2, HQ, o8, o9⟩ : ∃ r1 r2, (nz = true → ∀ w, Calls Tryz.prog 27 #[.complex .f32 p1 p2, .complex .f32 b1' b2'] w fun e w' => e = .returned (.complex .f32 r1 r2) ∧ w = w') ∧
      (nz = true → FloatKind.f32.format.order r1 a1 = some .eq) ∧ (nz = true → FloatKind.f32.format.order r2 a2 = some .eq) := by
    by_cases hz : y1 = 0 ∧ y2 = 0
    · obtain ⟨rfl, rfl⟩ := hz
      have g1 := iv_eq vb1 v0
      have g2 := iv_eq vb2 v0
      have hf : nz = false := by rw [← hnz, g1, g2]; rfl
      have hno : ¬ nz = true := by rw [hf]; decide
      exact ⟨0, 0, fun h => absurd h hno, fun h => absurd h hno, fun h => absurd h hno⟩
    · obtain ⟨r1, r2, vr1, vr2, HQ⟩ := QuotientOf_int p1 p2 b1' b2' x1 x2 y1 y2 vp1 vp2 vb1 vb2 n1 n2 n3 n4 hz
      exact ⟨r1, r2, fun _ => HQ, fun _ => iv_eq vr1 va1, fun _ => iv_eq vr2 va2⟩
  obtain ⟨s1, s2, vs1, vs2, HS⟩ := ScaleComplex_two a1 a2 x1 x2 va1 va2 n1 n2
  obtain ⟨d1, d2, vd1, vd2, hadd⟩ := double_int a1 a2 x1 x2 va1 va2 n1 n2
  obtain ⟨n, en, hn⟩ := SZ.b10At_ok hb0 0 9 (by omega) (by omega) (by omega)
  obtain ⟨xs, exs, hlen, hxs⟩ := SZ.B10Any_ok hb1 n 1000 (by omega) (by omega)
  obtain ⟨t, et, er⟩ := roundC xs (fun v hv => by have := hxs v hv; unfold SZ.C64 at this; omega) (by omega)
  obtain ⟨z, ez, bz⟩ := SZ.B10Number_ok hb0
  obtain ⟨z, rfl⟩ := Int.eq_ofNat_of_zero_le bz.1
  have hz : z < 4294967296 := by have := bz.2; omega
  have hbr := bitsN_range hz
  obtain ⟨m, hm⟩ : ∃ m : Nat, bitsN z = (m : Int) := ⟨(bitsN z).toNat, by omega⟩
  have hm2 : m < 4294967296 := by omega
  have hs1 : sameB m z = true := by have := NumsA.same_bits z; rw [hm, Int.toNat_natCast] at this; exact this
  obtain ⟨tw, ew, btw⟩ := SZ.B10Complex_ok hb0
  obtain ⟨tw0, tw1⟩ := btw
  have hw1 : tw.toNat / 4294967296 < 4294967296 := by omega
  have hw2 : tw.toNat % 4294967296 < 4294967296 := by omega
  obtain ⟨w1, e1⟩ : ∃ w1, tw.toNat / 4294967296 = w1 := ⟨_, rfl⟩
  obtain ⟨w2, e2⟩ : ∃ w2, tw.toNat % 4294967296 = w2 := ⟨_, rfl⟩
  have hcvw : CV tw = .complex .f32 w1 w2 := by rw [← e1, ← e2]
  rw [e1] at hw1
  rw [e2] at hw2
  refine walk_core A0 c0 l0 A1 c1 l1 W h0 hc0 h1 hc1 hl HT _ _ eT1 eT2 a1 a2 b1' b2' (cv_parts wa1 wa2) (cv_parts wb1 wb2)
    x1 x2 y1 y2 (x1 * y1) (x2 * y2) (x1 * y2) (x2 * y1) (x1 * x1) (x2 * x2) (x1 * y1 - x2 * y2) (x1 * y2 + x2 * y1) (x1 * x1 + x2 * x2)
    (fun w => ires_some w ia1) (fun w => ires_some w ia2) (fun w => ires_some w ib1) (fun w => ires_some w ib2)
    (by unfold icnt; rw [ia1]; rfl) (by unfold icnt; rw [ia2]; rfl) (by unfold icnt; rw [ib1]; rfl) (by unfold icnt; rw [ib2]; rfl)
    (w64 _ (by omega) (by omega)) (w64 _ (by omega) (by omega)) (w64 _ (by omega) (by omega)) (w64 _ (by omega) (by omega)) (w64 _ (by omega) (by omega)) (w64 _ (by omega) (by omega))
    (w64 _ (by omega) (by omega)) (w64 _ (by omega) (by omega)) (w64 _ (by omega) (by omega))
    p1 p2 q1 q2 (Op.negFloat .f32 a2) m1 m2 r1 r2 s1 s2 d1 d2 _ _ _ (longF (x1 * x1 + x2 * x2)) z m w1 w2 (Op.negFloat .f32 w2) (finB w1) (finB w2) nz rfl rfl rfl
    (iv_eq vp1 vX) (iv_eq vp2 vY) (iv_eq vq1 vp1) (iv_eq vq2 vp2) (iv_eq vP vP) (iv_eq vm1 vP) (iv_eq vm2 v0) o8 o9 (iv_eq vs1 vd1) (iv_eq vs2 vd2) hnz hadd (longF_lt (by omega))
    (Lib.hid HMul1) (Lib.hid HMul2) (Lib.hid (fun w => PowerOf_int a1 a2 x1 x2 va1 va2 n1 n2 w)) (Lib.hid (fun w => ConjugateOf_any a1 a2 w)) (Lib.hid HMul3)
    (Lib.hid (fun w => LongOf_int a1 a2 x1 x2 va1 va2 n1 n2 w)) (Lib.hid (fun w => RootNumber_int (x1 * x1 + x2 * x2) (by omega) (by omega) w)) (Lib.hid HS)
    (Lib.hid (fun w => by rw [← hm]; exact BitsOf_any z hz w)) (Lib.hid (fun w => NumsA.FromBits_yes m hm2 w)) (Lib.hid (fun w => by have h_ := NumsA.SameNumber_any m z hm2 hz w; rw [hs1] at h_; exact h_))
    (Lib.hid (fun w => ConjugateOf_any w1 w2 w)) (Lib.hid (fun w => by have h_ := ConjugateOf_any w1 (Op.negFloat .f32 w2) w; rw [neg_neg32] at h_; exact h_)) (Lib.hid (fun w => ProdA.SameComplex_any w1 w2 w1 w2 hw1 hw2 hw1 hw2 (same_self _) (same_self _) w))
    (Lib.hid (fun w => IsFiniteComplex_any w1 w2 w)) (Lib.hid (fun w => specIsFinite_any w1 w)) (Lib.hid (fun w => specIsFinite_any w2 w)) (Lib.hid HQ)
    (Lib.hid (fun v1 v2 w g1 g2 g3 g4 => ProdA.SameComplex_any v1 v2 w1 w2 g3 g4 hw1 hw2 (sim_same g1) (sim_same g2) w))
    n en xs exs (by omega) t et _ er (List.length_map ..) (fun j hj => ?_) ez tw ew hcvw hw1 hw2
  rw [rd_get _ j (by rw [List.length_map]; exact hj), List.getElem_map, rd_get _ j hj]
  exact sameC_g (hxs _ (List.getElem_mem hj))
end Go.Proofs.YtempeenjpaldaaaGreatDoor.ProdW

