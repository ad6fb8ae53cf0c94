/- Reading a decimal text: the reference's and the library's answers are one, in plain numbers and lists. -/
import Derived.Test.YtempeenjpaldaaaDoorSDec3
import Derived.Test.YtempeenjpaldaaaDoorPList
import Derived.Lib.ParseIntBCases
namespace Go.Proofs.YtempeenjpaldaaaDoor.SDec
open Go.RowKit Go.Proofs.YtempeenjpaldaaaDoorW.PrintWords Go.Proofs.YtempeenjpaldaaaDoorW.PrintLast

theorem decDigits_low {u : Nat} (h : u < 10) : Lib.decDigits u = [UInt8.ofNat (48 + u)] := by rw [Lib.decDigits, dif_pos h]
theorem decDigits_high {u : Nat} (h : ¬ u < 10) : Lib.decDigits u = Lib.decDigits (u / 10) ++ [UInt8.ofNat (48 + u % 10)] := by rw [Lib.decDigits, dif_neg h]
theorem chr_nat {d : Nat} (h : d < 10) : (UInt8.ofNat (48 + d)).toNat = 48 + d := by rw [UInt8.toNat_ofNat']; omega
theorem decDigits_mem : ∀ (n u : Nat), u ≤ n → ∀ c ∈ Lib.decDigits u, 48 ≤ c.toNat ∧ c.toNat ≤ 57
  | n, u, hn, c, hc => by
    by_cases h : u < 10
    · rw [decDigits_low h, List.mem_singleton] at hc
      rw [hc, chr_nat h]; omega
    · rw [decDigits_high h, List.mem_append, List.mem_singleton] at hc
      rcases hc with hc | hc
      · rcases n with _ | n
        · omega
        · exact decDigits_mem n (u / 10) (by omega) c hc
      · rw [hc, chr_nat (by omega)]; omega
theorem decDigits_ne (u : Nat) : Lib.decDigits u ≠ [] := by
  by_cases h : u < 10
  · rw [decDigits_low h]; simp
  · rw [decDigits_high h]; simp
theorem decDigits_len (u : Nat) (h : u < 10 ^ 16) : (Lib.decDigits u).length ≤ 16 := by
  have := digI_length 16 u h (by omega)
  simpa [digI] using this

theorem parse_step (M acc d : Nat) (r : List UInt8) (hd : d < 10) (h : acc * 10 + d ≤ 10 ^ 17) (hM : 10 ^ 17 ≤ M) : Lib.parseUintM M acc (UInt8.ofNat (48 + d) :: r) = Lib.parseUintM M (acc * 10 + d) r := by
  simp only [Lib.parseUintM]
  rw [chr_nat hd, if_pos ⟨by omega, by omega⟩, if_neg (by omega), if_neg (by omega)]
  congr 1
  omega
theorem parse_digits (M : Nat) (hM : 10 ^ 17 ≤ M) : ∀ (n u acc : Nat) (r : List UInt8), u ≤ n → acc * 10 ^ (Lib.decDigits u).length + u ≤ 10 ^ 17 → Lib.parseUintM M acc (Lib.decDigits u ++ r) = Lib.parseUintM M (acc * 10 ^ (Lib.decDigits u).length + u) r
  | n, u, acc, r, hn, hb => by
    by_cases h : u < 10
    · rw [decDigits_low h] at hb ⊢
      simp only [List.length_cons, List.length_nil, Nat.zero_add, Nat.pow_one, List.cons_append, List.nil_append] at hb ⊢
      exact parse_step M acc u r h hb hM
    · rw [decDigits_high h] at hb ⊢
      simp only [List.length_append, List.length_cons, List.length_nil, Nat.zero_add, Nat.pow_succ] at hb ⊢
      rcases n with _ | n
      · omega
      · have e : (acc * 10 ^ (Lib.decDigits (u / 10)).length + u / 10) * 10 + u % 10 = acc * (10 ^ (Lib.decDigits (u / 10)).length * 10) + u := by
          rw [Nat.add_mul, Nat.mul_assoc]
          omega
        rw [List.append_assoc, parse_digits M hM n (u / 10) acc _ (by omega) (by omega), List.singleton_append, parse_step M _ (u % 10) r (by omega) (by omega) hM, e]
theorem parse_itoa {v : Int} (h : InV v) : Lib.parseIntB 64 (Lib.itoa v) = .ok v := by
  obtain ⟨h0, h1⟩ := h
  have hu : ∀ u : Nat, u ≤ 10 ^ 15 → Lib.parseUintB 64 (Lib.decDigits u) = .ok u := fun u hu => by
    unfold Lib.parseUintB
    rw [if_neg (decDigits_ne u)]
    have := parse_digits (2 ^ 64 - 1) (by decide) u u 0 [] (Nat.le_refl _) (by omega)
    rw [List.append_nil, Nat.zero_mul, Nat.zero_add] at this
    rw [this]
    rfl
  unfold Lib.itoa
  by_cases hn : v < 0
  · rw [if_pos hn, Lib.parseIntB_minus, hu _ (by omega)]
    simp only [Lib.signedC]
    rw [if_neg (by omega)]
    congr 1
    omega
  · rw [if_neg hn]
    obtain ⟨c, r, e⟩ : ∃ c r, Lib.decDigits v.toNat = c :: r := by
      cases h : Lib.decDigits v.toNat with
      | nil => exact absurd h (decDigits_ne _)
      | cons c r => exact ⟨c, r, rfl⟩
    have hc := decDigits_mem v.toNat v.toNat (Nat.le_refl _) c (by rw [e]; exact List.mem_cons_self)
    have hp := hu v.toNat (by omega)
    rw [e] at hp ⊢
    rw [Lib.parseIntB_plain 64 c r (by omega) (by omega), hp]
    simp only [Lib.signlessC]
    rw [if_neg (by omega)]
    congr 1
    omega

/-- the digits' number, what is no digit passed over -/
def accN (acc : Nat) : List UInt8 → Nat
  | [] => acc
  | c :: r => accN (if 48 ≤ c.toNat ∧ c.toNat ≤ 57 then 10 * acc + (c.toNat - 48) else acc) r
theorem acc_digits : ∀ (n u acc : Nat) (r : List UInt8), u ≤ n → accN acc (Lib.decDigits u ++ r) = accN (acc * 10 ^ (Lib.decDigits u).length + u) r
  | n, u, acc, r, hn => by
    by_cases h : u < 10
    · rw [decDigits_low h]
      simp only [List.length_cons, List.length_nil, Nat.zero_add, Nat.pow_one, List.cons_append, List.nil_append, accN]
      rw [chr_nat h, if_pos ⟨by omega, by omega⟩]
      congr 1
      omega
    · rw [decDigits_high h]
      rcases n with _ | n
      · omega
      · simp only [List.length_append, List.length_cons, List.length_nil, Nat.zero_add, Nat.pow_succ]
        rw [List.append_assoc, acc_digits n (u / 10) acc _ (by omega), List.singleton_append]
        simp only [accN]
        rw [chr_nat (by omega), if_pos ⟨by omega, by omega⟩]
        congr 1
        rw [Nat.mul_add, ← Nat.mul_assoc, Nat.mul_comm 10 acc, Nat.mul_right_comm, Nat.mul_assoc]
        omega
theorem acc_bound : ∀ (l : List UInt8) (acc n : Nat), acc < 10 ^ n → accN acc l < 10 ^ (n + l.length)
  | [], acc, n, h => by simpa [accN] using h
  | c :: r, acc, n, h => by
    simp only [accN, List.length_cons]
    have e : n + (r.length + 1) = n + 1 + r.length := by omega
    rw [e]
    apply acc_bound
    rw [Nat.pow_succ]
    split <;> omega

theorem bt_list (s : ByteArray) (i : Nat) (h : i < s.data.toList.length) : bt s (i : Int) = (s.data.toList[i].toNat : Int) := by
  have h' : i < s.size := by rw [← data_length]; exact h
  unfold bt
  rw [dif_pos (by rw [Int.toNat_natCast]; exact h')]
  simp [ByteArray.getElem_eq_getElem_data]
theorem list_eq {a b : ByteArray} : a.toList = b.toList ↔ a.data.toList = b.data.toList := by
  rw [Lib.toList_data, Lib.toList_data]
theorem isValue_in {v : Int} (h : InV v) : spec_l00In.f v (-1000000000000000) 1000000000000000 = some true := by
  unfold spec_l00In.f
  rw [if_pos h.1, decide_eq_true h.2]
theorem isValue_out {v : Int} (h : ¬ InV v) : spec_l00In.f v (-1000000000000000) 1000000000000000 = some false := by
  unfold spec_l00In.f
  by_cases a : v ≥ -1000000000000000
  · rw [if_pos a, decide_eq_false (fun b => h ⟨a, b⟩)]
  · rw [if_neg a]

instance (n : Int) : Decidable (InV n) := inferInstanceAs (Decidable (_ ∧ _))
/-- the end: the sign, the range, the text again -/
def finB (s : ByteArray) (n : Int) : Int × Bool := if InV n ∧ Lib.itoa n = s.data.toList then (n, true) else (0, false)
theorem j2_is (s : ByteArray) (n : Int) (k : Nat) (hk : 43 ≤ k) : spec_l01Value.j2 k s n = some (finB s n) := by
  obtain ⟨k, rfl⟩ : ∃ m, k = m + 1 := ⟨k - 1, by omega⟩
  simp only [spec_l01Value.j2]
  unfold finB
  by_cases hv : InV n
  · have h1 : spec_l00In.f n (-1000000000000000) 1000000000000000 = some true := isValue_in hv
    rw [h1]
    simp only [Option.bind_some, if_true]
    rw [dec_tB hv k (by omega)]
    simp only [Option.bind_some]
    by_cases he : Lib.itoa n = s.data.toList
    · rw [if_pos (list_eq.2 he), if_pos ⟨hv, he⟩]
    · rw [if_neg (fun h => he (list_eq.1 h)), if_neg (fun h => he h.2)]
  · have h1 : spec_l00In.f n (-1000000000000000) 1000000000000000 = some false := isValue_out hv
    rw [h1, if_neg (fun h => hv h.1)]
    rfl
/-- the number with its sign -/
def sgn (s : ByteArray) (n : Int) : Int := if bt s 0 = 45 then -n else n
theorem wrap_neg {n : Int} (h0 : 0 ≤ n) (h1 : n < 100000000000000000) : wrap64 (-n) = -n := by
  unfold wrap64
  omega
theorem acc_next {acc c : Nat} (ha : acc < 100000000000000000) (h1 : 48 ≤ c) (h2 : c ≤ 57) : wrap64 (wrap64 (10 * (acc : Int)) + ((c : Int) - 48) % 256) = ((10 * acc + (c - 48) : Nat) : Int) := by
  unfold wrap64
  omega
theorem l0_is (s : ByteArray) (h1 : 1 ≤ s.size) (h17 : s.size ≤ 17) (d : Nat) : ∀ (k i acc : Nat), i ≤ s.size → s.size - i = d → d + 44 ≤ k → acc < 10 ^ i →
    spec_l01Value.l0 k s (acc : Int) (i : Int) = some (finB s (sgn s (accN acc (s.data.toList.drop i)))) := by
  have hlen := data_length s
  have hp : ∀ i, i ≤ 17 → 10 ^ i ≤ 100000000000000000 := fun i hi => Nat.le_trans (Nat.pow_le_pow_right (by omega) hi) (by decide)
  induction d with
  | zero =>
    intro k i acc hi hd hk ha
    obtain ⟨k, rfl⟩ : ∃ m, k = m + 1 := ⟨k - 1, by omega⟩
    have hn : ¬ (i : Int) < (s.size : Int) := by omega
    have hA := Nat.lt_of_lt_of_le ha (hp i (by omega))
    simp only [spec_l01Value.l0]
    rw [if_neg hn, if_pos (by omega), List.drop_eq_nil_of_le (by omega)]
    simp only [accN]
    unfold sgn
    by_cases hb : bt s 0 = 45
    · rw [if_pos hb, if_pos hb, wrap_neg (by omega) (by clear ha hp; omega)]
      exact j2_is s _ k (by omega)
    · rw [if_neg hb, if_neg hb]
      exact j2_is s _ k (by omega)
  | succ d ih =>
    intro k i acc hi hd hk ha
    obtain ⟨k, rfl⟩ : ∃ m, k = m + 1 := ⟨k - 1, by omega⟩
    have hlt : i < s.data.toList.length := by omega
    have h2 : (i : Int) < (s.size : Int) := by omega
    have h3 : (0 : Int) ≤ (i : Int) := by omega
    have e : wrap64 ((i : Int) + 1) = ((i + 1 : Nat) : Int) := by unfold wrap64; omega
    have hpi := hp i (by omega)
    simp only [spec_l01Value.l0]
    rw [if_pos h2, if_pos h3, e, bt_list s i hlt, List.drop_eq_getElem_cons hlt]
    simp only [accN]
    have hc := s.data.toList[i].toNat_lt
    generalize s.data.toList[i] = c at *
    have hp2 : 10 ^ (i + 1) = 10 * 10 ^ i := by rw [Nat.pow_succ, Nat.mul_comm]
    by_cases a : 48 ≤ c.toNat
    · rw [if_pos (by omega)]
      by_cases b : c.toNat ≤ 57
      · have ew := acc_next (Nat.lt_of_lt_of_le ha hpi) a b
        rw [if_pos (by omega), if_pos ⟨a, b⟩, ew]
        exact ih k (i + 1) _ (by omega) (by omega) (by omega) (by omega)
      · rw [if_neg (by omega), if_neg (fun h => b h.2)]
        exact ih k (i + 1) _ (by omega) (by omega) (by omega) (by omega)
    · rw [if_neg (by omega), if_neg (fun h => a h.1)]
      exact ih k (i + 1) _ (by omega) (by omega) (by omega) (by omega)

/-- a text that is a number's: its length, its value by either way -/
theorem canon_size {s : ByteArray} {v : Int} (hv : InV v) (he : Lib.itoa v = s.data.toList) : 1 ≤ s.size ∧ s.size ≤ 17 := by
  have hl : s.size = (Lib.itoa v).length := by rw [he, data_length]
  rw [hl]
  obtain ⟨h0, h1⟩ := hv
  unfold Lib.itoa
  by_cases hn : v < 0
  · rw [if_pos hn]
    have := decDigits_len v.natAbs (by omega)
    simp; omega
  · rw [if_neg hn]
    have := decDigits_len v.toNat (by omega)
    have h2 : (Lib.decDigits v.toNat).length ≠ 0 := fun e => decDigits_ne _ (List.length_eq_zero_iff.1 e)
    omega
theorem canon_value {s : ByteArray} {v : Int} (he : Lib.itoa v = s.data.toList) : sgn s (accN 0 s.data.toList) = v := by
  have hb : ∀ c r, s.data.toList = c :: r → bt s 0 = (c.toNat : Int) := fun c r e => by
    have := bt_list s 0 (by rw [e]; simp)
    rw [show ((0 : Nat) : Int) = 0 from rfl] at this
    rw [this]
    simp [e]
  unfold Lib.itoa at he
  unfold sgn
  by_cases hn : v < 0
  · rw [if_pos hn] at he
    have h1 := hb _ _ he.symm
    rw [if_pos (by rw [h1]; rfl), ← he]
    simp only [accN]
    rw [if_neg (by decide)]
    have := acc_digits v.natAbs v.natAbs 0 [] (Nat.le_refl _)
    rw [List.append_nil, Nat.zero_mul, Nat.zero_add] at this
    rw [this]
    simp only [accN]
    omega
  · rw [if_neg hn] at he
    have hne : bt s 0 ≠ 45 := by
      cases h : Lib.decDigits v.toNat with
      | nil => exact absurd h (decDigits_ne _)
      | cons c r =>
        have := decDigits_mem v.toNat v.toNat (Nat.le_refl _) c (by rw [h]; exact List.mem_cons_self)
        rw [hb c r (by rw [← he, h])]
        omega
    rw [if_neg hne, ← he]
    have := acc_digits v.toNat v.toNat 0 [] (Nat.le_refl _)
    rw [List.append_nil, Nat.zero_mul, Nat.zero_add] at this
    rw [this]
    simp only [accN]
    omega
theorem readDecB_canon {s : ByteArray} {v : Int} (hv : InV v) (he : Lib.itoa v = s.data.toList) : readDecB s = (v, true) := by
  unfold readDecB
  rw [← he, parse_itoa hv]
  simp only
  rw [if_pos ⟨hv, trivial⟩]
theorem readDecB_other {s : ByteArray} (h : ∀ v, InV v → Lib.itoa v ≠ s.data.toList) : readDecB s = (0, false) := by
  unfold readDecB
  split
  · rw [if_neg (fun g => h _ g.1 g.2)]
  · rfl
theorem finB_canon {s : ByteArray} {n : Int} (hv : InV n) (he : Lib.itoa n = s.data.toList) : finB s n = (n, true) := if_pos ⟨hv, he⟩
theorem finB_other {s : ByteArray} (h : ∀ v, InV v → Lib.itoa v ≠ s.data.toList) (n : Int) : finB s n = (0, false) := if_neg (fun g => h _ g.1 g.2)

theorem value_is (s : ByteArray) (k : Nat) (hk : 63 ≤ k) : spec_l01Value.f k s = some (readDecB s) := by
  obtain ⟨k, rfl⟩ : ∃ m, k = m + 1 := ⟨k - 1, by omega⟩
  unfold spec_l01Value.f
  by_cases h1 : 1 ≤ s.size ∧ s.size ≤ 17
  · rw [if_neg (by omega)]
    simp only [spec_l01Value.j0]
    rw [show decide ((s.size : Int) > 17) = false from decide_eq_false (by omega)]
    simp only [Bool.false_eq_true, if_false]
    have := l0_is s h1.1 h1.2 s.size k 0 0 (by omega) (by omega) (by omega) (by decide)
    rw [List.drop_zero] at this
    rw [show (0 : Int) = ((0 : Nat) : Int) from rfl, this]
    congr 1
    by_cases hc : ∃ v, InV v ∧ Lib.itoa v = s.data.toList
    · obtain ⟨v, hv, he⟩ := hc
      rw [canon_value he, readDecB_canon hv he, finB_canon hv he]
    · have hc' : ∀ v, InV v → Lib.itoa v ≠ s.data.toList := fun v hv he => hc ⟨v, hv, he⟩
      rw [readDecB_other hc', finB_other hc']
  · have hc' : ∀ v, InV v → Lib.itoa v ≠ s.data.toList := fun v hv he => h1 (canon_size hv he)
    rw [readDecB_other hc']
    by_cases h0 : (s.size : Int) < 1
    · rw [if_pos h0]
      simp only [spec_l01Value.j0, if_true]
    · rw [if_neg h0, show decide ((s.size : Int) > 17) = true from decide_eq_true (by omega)]
      simp only [spec_l01Value.j0, if_true]
theorem ReadDecimal_pure : laws_FnExactReadDecimal.Pure := by
  intro s hs
  refine ⟨63, ?_⟩
  unfold laws_FnExactReadDecimal.f spec_ReadDecimal.f impl_ReadDecimal.f
  by_cases g : (s.size : Int) > 1048576
  · rw [if_pos g]
  · rw [if_neg g, value_is s 63 (Nat.le_refl _), if_pos hs]
    simp
end Go.Proofs.YtempeenjpaldaaaDoor.SDec
