/- Digits at base 16, read by the reference one string at a time, in plain lists. -/
import Derived.Test.YtempeenjpaldaaaGreatDoorSCpx2
import Derived.Test.YtempeenjpaldaaaGreatDoorPNum
namespace Go.Proofs.YtempeenjpaldaaaGreatDoor.SCpx
open Go.RowKit Go.Proofs.YtempeenjpaldaaaGreatDoorW.PrintWords Go.Proofs.YtempeenjpaldaaaGreatDoorW.PrintLast Go.Proofs.YtempeenjpaldaaaGreatDoorW.PrintMore Fl Hx SNum
/-- one character -/
theorem dig_run (K : Nat) (p : ByteArray) (h8 : p.size = 8) (n j : Nat) (hj : j < 8) (hn : n < 16 ^ j) (c : UInt8) (hc : p.data.toList[j]? = some c) :
    spec_l01Digits.l0 (K + 1 + 1 + 1 + 1) p n j = match dv c.toNat with | some d => spec_l01Digits.l0 K p ((n * 16 + d : Nat) : Int) ((j + 1 : Nat) : Int) | none => some (0, false) := by
  have hlen : p.data.toList.length = 8 := by rw [data_length]; exact h8
  have hbt : bt p (j : Int) = (c.toNat : Int) := by
    rw [bt_list p j (by omega)]
    obtain ⟨_, h⟩ := List.getElem?_eq_some_iff.1 hc
    rw [h]
  have hp := pow_le (k := j) (by omega)
  have hc256 := c.toNat_lt
  conv => lhs; unfold spec_l01Digits.l0
  rw [hbt, if_pos (by omega), if_pos (by omega)]
  have e1 : (if (c.toNat : Int) ≥ 48 then spec_l01Digits.j1 (K + 1 + 1 + 1) p n j (-1) (decide ((c.toNat : Int) ≤ 57)) else spec_l01Digits.j1 (K + 1 + 1 + 1) p n j (-1) false) = spec_l01Digits.j1 (K + 1 + 1 + 1) p n j (-1) (decide (48 ≤ c.toNat ∧ c.toNat ≤ 57)) := by
    split
    · rw [decide_eq_decide.2 (show (c.toNat : Int) ≤ 57 ↔ 48 ≤ c.toNat ∧ c.toNat ≤ 57 by omega)]
    · rw [decide_eq_false (show ¬ (48 ≤ c.toNat ∧ c.toNat ≤ 57) by omega)]
  rw [e1]
  unfold spec_l01Digits.j1 spec_l01Digits.j2 dv
  rw [hbt]
  by_cases hd : 48 ≤ c.toNat ∧ c.toNat ≤ 57
  · rw [decide_eq_true hd, if_pos rfl, if_pos (by omega), if_pos (by omega), if_pos (by omega), if_pos (by omega), if_neg (by omega), if_pos hd]
    unfold spec_l01Digits.j3
    rw [if_neg (by decide), if_neg (by omega), w64 (16 * (n : Int)) (by omega) (by omega), w64 _ (by omega) (by omega), w64 _ (by omega) (by omega)]
    rw [show 16 * (n : Int) + ((c.toNat : Int) - 48) % 256 = ((n * 16 + (c.toNat - 48) : Nat) : Int) by omega, show (j : Int) + 1 = ((j + 1 : Nat) : Int) by omega]
  · rw [decide_eq_false hd, if_neg (by decide), if_pos (by omega), if_pos (by omega), if_neg hd]
    by_cases hl : 97 ≤ c.toNat ∧ c.toNat ≤ 102
    · rw [if_pos (by omega), decide_eq_true (by omega), if_pos hl]
      unfold spec_l01Digits.j3
      rw [hbt, if_pos rfl, if_pos (by omega), if_pos (by omega), if_neg (by omega), w64 (16 * (n : Int)) (by omega) (by omega), w64 _ (by omega) (by omega), w64 _ (by omega) (by omega)]
      rw [show 16 * (n : Int) + (((c.toNat : Int) - 97) % 256 + 10) = ((n * 16 + (c.toNat - 87) : Nat) : Int) by omega, show (j : Int) + 1 = ((j + 1 : Nat) : Int) by omega]
    · rw [if_neg hl]
      have e2 : (if (c.toNat : Int) ≥ 97 then spec_l01Digits.j3 (K + 1) p n j (-1) (decide ((c.toNat : Int) ≤ 102)) else spec_l01Digits.j3 (K + 1) p n j (-1) false) = spec_l01Digits.j3 (K + 1) p n j (-1) false := by
        split
        · rw [decide_eq_false (by omega)]
        · rfl
      rw [e2]
      unfold spec_l01Digits.j3
      rw [if_neg (by decide), if_pos (by decide)]
theorem dig_piece (p : ByteArray) (h8 : p.size = 8) : ∀ (m j n k : Nat), j + m = 8 → n < 16 ^ j →
    spec_l01Digits.l0 (k + 4 * m + 1) p n j = match parseL n (p.data.toList.drop j) with | some v => spec_l01Digits.l0 (k + 1) p (v : Nat) 8 | none => some (0, false)
  | 0, j, n, k, h, _ => by
    obtain rfl : j = 8 := by omega
    have hlen : p.data.toList.length = 8 := by rw [data_length]; exact h8
    rw [List.drop_eq_nil_of_le (by omega)]; rfl
  | m + 1, j, n, k, h, hn => by
    have hlen : p.data.toList.length = 8 := by rw [data_length]; exact h8
    have hd : p.data.toList.drop j = p.data.toList[j]'(by omega) :: p.data.toList.drop (j + 1) := List.drop_eq_getElem_cons (by omega)
    have hc : p.data.toList[j]? = some (p.data.toList[j]'(by omega)) := List.getElem?_eq_getElem (by omega)
    rw [show k + 4 * (m + 1) + 1 = (k + 4 * m + 1) + 1 + 1 + 1 + 1 by omega, dig_run _ p h8 n j (by omega) hn _ hc, hd, parseL]
    cases hdv : dv (p.data.toList[j]'(by omega)).toNat with
    | none => rfl
    | some d =>
      have := (dv_some hdv).1
      rw [Option.bind_some]
      exact dig_piece p h8 m (j + 1) (n * 16 + d) k (by omega) (by rw [Nat.pow_succ]; omega)
/-- what l01Digits answers -/
def digO : Option Int → Int × Bool
  | some v => (v, true)
  | none => (0, false)
theorem dig_is (p : ByteArray) (h8 : p.size = 8) (k : Nat) (hk : 40 ≤ k) : spec_l01Digits.f k p = some (digO (good p)) := by
  obtain ⟨k, rfl⟩ : ∃ m, k = m + 4 * 8 + 1 := ⟨k - 33, by omega⟩
  unfold spec_l01Digits.f good
  have h := dig_piece p h8 8 0 0 k (by omega) (by decide)
  rw [List.drop_zero, show ((0 : Nat) : Int) = 0 from rfl] at h
  rw [h, if_pos h8]
  cases hp : parseL 0 p.data.toList with
  | none => rfl
  | some v =>
    have hv := (hex8_parse (by rw [data_length]; exact h8) hp).2
    simp only [Option.bind_some]
    unfold spec_l01Digits.l0
    rw [if_neg (by omega)]
    unfold spec_l01From.f spec_l01Bits.f
    rw [if_pos (by omega), Option.bind_some, Int.toNat_natCast, if_pos hv, Option.bind_some]
    by_cases h : bitsN v = (v : Int)
    · rw [if_pos h, if_pos h]; rfl
    · rw [if_neg h, if_neg h]; rfl
/-- a piece of sixteen bytes -/
def lo (p : ByteArray) : ByteArray := p.extract 0 8
def hi (p : ByteArray) : ByteArray := p.extract 8 p.size
theorem lo_size {p : ByteArray} (h : p.size = 16) : (lo p).size = 8 := by unfold lo; rw [ByteArray.size_extract]; omega
theorem hi_size {p : ByteArray} (h : p.size = 16) : (hi p).size = 8 := by unfold hi; rw [ByteArray.size_extract]; omega
theorem lo_hi (p : ByteArray) (h : p.size = 16) : p.data.toList = (lo p).data.toList ++ (hi p).data.toList := by
  unfold lo hi
  rw [Lib.extract_data, Lib.extract_data, h]
  have hl : p.data.toList.length = 16 := by rw [data_length]; exact h
  simp only [List.drop_zero, Nat.sub_zero]
  rw [show List.take (16 - 8) (List.drop 8 p.data.toList) = List.drop 8 p.data.toList from List.take_of_length_le (by rw [List.length_drop]; omega)]
  exact (List.take_append_drop 8 _).symm
/-- a complex number, told by two -/
def two (a b : Int) : Int := a * 4294967296 + b
def goodC (p : ByteArray) : Option Int := if p.size = 16 then (good (lo p)).bind fun a => (good (hi p)).map (two a) else none
def readC (p : ByteArray) : Int := two (readN (lo p) : Nat) (readN (hi p) : Nat)
theorem two_re {a b : Nat} (hb : b < 4294967296) : (two a b).toNat / 4294967296 = a := by unfold two; omega
theorem two_im {a b : Nat} (hb : b < 4294967296) : (two a b).toNat % 4294967296 = b := by unfold two; omega
theorem goodC_iff {p : ByteArray} (h : p.size = 16) : goodC p = some (readC p) ↔ (good (lo p) = some ((readN (lo p) : Nat) : Int) ∧ good (hi p) = some ((readN (hi p) : Nat) : Int)) := by
  unfold goodC readC
  rw [if_pos h]
  constructor
  · intro g
    obtain ⟨a, ha, g⟩ := Option.bind_eq_some_iff.1 g
    obtain ⟨b, hb, _⟩ := Option.map_eq_some_iff.1 g
    obtain ⟨_, ea, _⟩ := good_read ha
    obtain ⟨_, eb, _⟩ := good_read hb
    exact ⟨by rw [ha, ea], by rw [hb, eb]⟩
  · rintro ⟨g1, g2⟩
    rw [g1, g2]; rfl
theorem goodC_read {p : ByteArray} {v : Int} (g : goodC p = some v) : p.size = 16 ∧ goodC p = some (readC p) := by
  unfold goodC at g
  split at g
  · rename_i h
    refine ⟨h, (goodC_iff h).2 ?_⟩
    obtain ⟨a, ha, g⟩ := Option.bind_eq_some_iff.1 g
    obtain ⟨b, hb, _⟩ := Option.map_eq_some_iff.1 g
    obtain ⟨_, ea, _⟩ := good_read ha
    obtain ⟨_, eb, _⟩ := good_read hb
    exact ⟨by rw [ha, ea], by rw [hb, eb]⟩
  · cases g
/-- the text of a piece's numbers is the piece again if and only if it is good -/
def tC (n : Int) : List UInt8 := hex8 (bitsN (n.toNat / 4294967296)).toNat ++ hex8 (bitsN (n.toNat % 4294967296)).toNat
theorem tC_iff {p : ByteArray} (h : p.size = 16) : tC (readC p) = p.data.toList ↔ goodC p = some (readC p) := by
  have h1 := readN_lt (lo_size h)
  have h2 := readN_lt (hi_size h)
  rw [goodC_iff h, ← good_iff (lo_size h), ← good_iff (hi_size h), lo_hi p h]
  unfold tC readC
  rw [two_re h2, two_im h2]
  constructor
  · intro g
    exact List.append_inj g (by rw [data_length, lo_size h]; exact hex8_len (by have := bitsN_range h1; omega))
  · rintro ⟨g1, g2⟩
    rw [g1, g2]
theorem tC_len (n : Int) (hn : n.toNat < 18446744073709551616) : (tC n).length = 16 := by
  have h1 : n.toNat / 4294967296 < 4294967296 := by omega
  have h2 : n.toNat % 4294967296 < 4294967296 := by omega
  unfold tC
  rw [List.length_append, hex8_len (by have := bitsN_range h1; omega), hex8_len (by have := bitsN_range h2; omega)]
theorem readC_lt {p : ByteArray} (h : p.size = 16) : (readC p).toNat < 18446744073709551616 := by
  have h1 := readN_lt (lo_size h)
  have h2 := readN_lt (hi_size h)
  unfold readC two
  omega
end Go.Proofs.YtempeenjpaldaaaGreatDoor.SCpx
