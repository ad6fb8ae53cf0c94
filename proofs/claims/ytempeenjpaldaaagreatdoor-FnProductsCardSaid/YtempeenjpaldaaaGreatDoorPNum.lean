/- Reading and writing texts of numbers, in plain lists; what the law of reading comes to. -/
import Derived.Test.YtempeenjpaldaaaGreatDoorSNum2
import Derived.Test.YtempeenjpaldaaaGreatDoorPNumT
namespace Go.Proofs.YtempeenjpaldaaaGreatDoor.SNum
open Go.RowKit Go.Proofs.YtempeenjpaldaaaGreatDoorW.PrintWords Go.Proofs.YtempeenjpaldaaaGreatDoorW.PrintLast Go.Proofs.YtempeenjpaldaaaGreatDoorW.PrintMore Fl Hx
theorem next_is {i : Int} {n : Nat} (h0 : 0 ≤ i) (h : i < (n : Int)) (hn : n ≤ 140737488351232) : wrap64 (i + 1) = i + 1 := by
  unfold wrap64
  omega

theorem bt_list (s : ByteArray) (i : Nat) (h : i < s.data.toList.length) : bt s (i : Int) = (s.data.toList[i].toNat : Int) := by
  have h' : i < s.size := by rw [← data_length]; exact h
  unfold bt
  rw [dif_pos (by rw [Int.toNat_natCast]; exact h')]
  simp [ByteArray.getElem_eq_getElem_data]
theorem list_eq {a b : ByteArray} : a.toList = b.toList ↔ a.data.toList = b.data.toList := by
  rw [Lib.toList_data, Lib.toList_data]

/-- the pieces between commas, the first begun with cur -/
def cutAcc (cur : List UInt8) : List UInt8 → List (List UInt8)
  | [] => [cur]
  | c :: r => if c = 44 then cur :: cutAcc [] r else cutAcc (cur ++ [c]) r
def mkB (l : List UInt8) : ByteArray := ⟨l.toArray⟩
theorem mkB_data (s : ByteArray) : mkB s.data.toList = s := by
  cases s with
  | mk d => simp [mkB]
theorem mkB_size (l : List UInt8) : (mkB l).size = l.length := by simp [mkB, ByteArray.size]
def piecesB (s : ByteArray) : List ByteArray := (cutAcc [] s.data.toList).map mkB
theorem cutAcc_len : ∀ (l cur : List UInt8), (cutAcc cur l).length ≤ l.length + 1
  | [], _ => by simp [cutAcc]
  | c :: r, cur => by
    simp only [cutAcc, List.length_cons]
    by_cases h : c = 44
    · rw [if_pos h]
      have := cutAcc_len r []
      simp; omega
    · rw [if_neg h]
      have := cutAcc_len r (cur ++ [c])
      omega
theorem cutAcc_mem : ∀ (l cur p : List UInt8), p ∈ cutAcc cur l → p.length ≤ cur.length + l.length
  | [], cur, p, h => by
    simp only [cutAcc, List.mem_singleton] at h
    rw [h]; simp
  | c :: r, cur, p, h => by
    simp only [cutAcc] at h
    by_cases hc : c = 44
    · rw [if_pos hc, List.mem_cons] at h
      rcases h with rfl | h
      · simp
      · have := cutAcc_mem r [] p h
        simp at this ⊢; omega
    · rw [if_neg hc] at h
      have := cutAcc_mem r (cur ++ [c]) p h
      simp at this ⊢; omega
theorem pieces_len (s : ByteArray) : (piecesB s).length ≤ s.size + 1 := by
  have := cutAcc_len s.data.toList []
  rw [data_length] at this
  simpa [piecesB] using this
theorem pieces_mem (s p : ByteArray) (h : p ∈ piecesB s) : p.size ≤ s.size := by
  obtain ⟨l, hl, rfl⟩ := List.mem_map.1 h
  have := cutAcc_mem _ _ _ hl
  rw [data_length] at this
  rw [mkB_size]
  simpa using this

theorem ext_snoc (s : ByteArray) (a b : Nat) (h : b < s.size) (hab : a ≤ b) : s.data.toList.extract a (b + 1) = s.data.toList.extract a b ++ [s.data.toList[b]'(by rw [data_length]; exact h)] := by
  have hl : b < s.data.toList.length := by rw [data_length]; exact h
  simp only [List.extract_eq_take_drop]
  rw [show b + 1 - a = (b - a) + 1 by omega, List.take_succ_eq_append_getElem (by rw [List.length_drop]; omega)]
  congr 2
  rw [List.getElem_drop]
  congr 1
  omega
theorem ext_mk (s : ByteArray) (a b : Nat) : s.extract a b = mkB (s.data.toList.extract a b) := by
  rw [← mkB_data (s.extract a b)]
  congr 1
  rw [Lib.extract_data]
theorem cut_run (s : ByteArray) (hs : s.size ≤ 1048576) (d : Nat) : ∀ (k i f : Nat) (out : List ByteArray), f ≤ i → i ≤ s.size → s.size - i = d → d + 2 ≤ k → out.length ≤ i →
    spec_l01Cut.l0 k s 44 out (f : Int) (i : Int) = some (out ++ (cutAcc (s.data.toList.extract f i) (s.data.toList.drop i)).map mkB) := by
  induction d with
  | zero =>
    intro k i f out hf hi hd hk ho
    obtain ⟨k, rfl⟩ : ∃ m, k = m + 2 := ⟨k - 2, by omega⟩
    obtain rfl : i = s.size := by omega
    have e : wrap64 ((s.size : Int) + 1) = (s.size : Int) + 1 := by unfold wrap64; omega
    simp only [spec_l01Cut.l0]
    rw [if_pos (by omega), if_pos trivial, if_pos (by omega), if_pos (by omega), if_pos (by omega), e, if_neg (by omega), List.drop_eq_nil_of_le (by rw [data_length]; exact Nat.le_refl _)]
    simp only [cutAcc, List.map_cons, List.map_nil, Int.toNat_natCast]
    rw [ext_mk]
  | succ d ih =>
    intro k i f out hf hi hd hk ho
    obtain ⟨k, rfl⟩ : ∃ m, k = m + 1 := ⟨k - 1, by omega⟩
    have hlt : i < s.size := by omega
    have hl : i < s.data.toList.length := by rw [data_length]; exact hlt
    have e : wrap64 ((i : Int) + 1) = ((i + 1 : Nat) : Int) := by unfold wrap64; omega
    simp only [spec_l01Cut.l0]
    rw [if_pos (by omega), if_neg (by omega), if_pos (by omega), if_pos (by omega), bt_list s i hl, e, List.drop_eq_getElem_cons hl]
    simp only [cutAcc]
    have hc : ((s.data.toList[i].toNat : Int) = 44) ↔ s.data.toList[i] = 44 := by
      have h44 : (44 : UInt8).toNat = 44 := rfl
      rw [← UInt8.toNat_inj, h44]
      omega
    by_cases h : s.data.toList[i] = 44
    · rw [if_pos (hc.2 h), if_pos h, if_pos (by omega), if_pos (by omega), if_pos (by omega), ih k (i + 1) (i + 1) _ (Nat.le_refl _) (by omega) (by omega) (by omega) (by simp; omega)]
      rw [Int.toNat_natCast, Int.toNat_natCast, ext_mk, List.append_assoc]
      simp [List.extract_eq_take_drop]
    · rw [if_neg (fun g => h (hc.1 g)), if_neg h, ih k (i + 1) f out (by omega) (by omega) (by omega) (by omega) (by omega), ext_snoc s f i hlt hf]
theorem cut_is (s : ByteArray) (hs : s.size ≤ 1048576) (k : Nat) (hk : s.size + 2 ≤ k) : spec_l01Cut.f k s 44 = some (piecesB s) := by
  unfold spec_l01Cut.f
  have := cut_run s hs s.size k 0 0 [] (Nat.le_refl _) (Nat.zero_le _) (by omega) hk (Nat.le_refl _)
  rw [show (0 : Int) = ((0 : Nat) : Int) from rfl, this]
  simp [piecesB, List.extract_eq_take_drop]

theorem acc_miss : ∀ (l cur : List UInt8), Lib.indexByte l 44 = -1 → cutAcc cur l = [cur ++ l]
  | [], cur, _ => by simp [cutAcc]
  | c :: r, cur, h => by
    have hg := Lib.indexByte_ge r 44
    simp only [Lib.indexByte] at h
    by_cases hc : (c == 44) = true
    · rw [if_pos hc] at h; omega
    · rw [if_neg hc] at h
      have hr : Lib.indexByte r 44 = -1 := by
        by_cases hq : (Lib.indexByte r 44 == -1) = true
        · exact beq_iff_eq.1 hq
        · rw [if_neg hq] at h; omega
      simp only [cutAcc]
      rw [if_neg (fun e => hc (beq_iff_eq.2 e)), acc_miss r _ hr, List.append_assoc]
      rfl
theorem acc_hit : ∀ (l cur : List UInt8) (i : Nat), Lib.indexByte l 44 = i → cutAcc cur l = (cur ++ l.take i) :: cutAcc [] (l.drop (i + 1))
  | [], cur, i, h => by simp [Lib.indexByte] at h
  | c :: r, cur, i, h => by
    have hg := Lib.indexByte_ge r 44
    simp only [Lib.indexByte] at h
    by_cases hc : (c == 44) = true
    · rw [if_pos hc] at h
      obtain rfl : i = 0 := by omega
      simp only [cutAcc]
      rw [if_pos (beq_iff_eq.1 hc)]
      simp
    · rw [if_neg hc] at h
      by_cases hq : (Lib.indexByte r 44 == -1) = true
      · rw [if_pos hq] at h; omega
      · rw [if_neg hq] at h
        obtain ⟨j, rfl⟩ : ∃ j, i = j + 1 := by
          rcases i with _ | j
          · have := beq_iff_eq.2 (show Lib.indexByte r 44 = -1 by omega); exact absurd this hq
          · exact ⟨j, rfl⟩
        simp only [cutAcc]
        rw [if_neg (fun e => hc (beq_iff_eq.2 e)), acc_hit r _ j (by omega)]
        simp
theorem split_acc : ∀ (k : Nat) (l : List UInt8), Lib.count l [44] = k → Lib.splitK [44] 0 k l = cutAcc [] l
  | 0, l, h => by
    have hm : Lib.index l [44] = -1 := by
      have hg := Lib.index_ge l [44]
      rcases Int.lt_or_le (Lib.index l [44]) 0 with g | g
      · omega
      · obtain ⟨i, hi⟩ := Int.eq_ofNat_of_zero_le g
        have := Lib.count_hit (s := l) (sub := [44]) (by simp) hi
        omega
    rw [Lib.index_one] at hm
    rw [acc_miss l [] hm]
    rfl
  | k + 1, l, h => by
    have hg := Lib.index_ge l [44]
    rcases Int.lt_or_le (Lib.index l [44]) 0 with g | g
    · have := Lib.count_miss (s := l) (sub := [44]) (by omega)
      omega
    · obtain ⟨i, hi⟩ := Int.eq_ofNat_of_zero_le g
      have hc := Lib.count_hit (s := l) (sub := [44]) (by simp) hi
      have hm : ¬ (Lib.index l [44] == -1) = true := fun e => by have := beq_iff_eq.1 e; omega
      have hi' : Lib.indexByte l 44 = i := by rw [← Lib.index_one]; exact hi
      unfold Lib.splitK
      rw [if_neg hm, hi, acc_hit l [] i hi']
      have e : ((i : Int).toNat + [44].length : Nat) = i + 1 := by simp
      have e1 : Lib.count (l.drop (i + 1)) [44] = k := by
        have : i + ([44] : List UInt8).length = i + 1 := rfl
        rw [this] at hc
        omega
      rw [Int.toNat_natCast, Nat.add_zero, List.nil_append]
      congr 1
      exact split_acc k _ e1
theorem split_is (s : ByteArray) (hs : s.size ≤ 1048576) (k : Nat) : strings_Split.f k s (⟨#[44]⟩ : ByteArray) = some (piecesB s) := by
  unfold strings_Split.f
  rw [if_pos ⟨by omega, by decide⟩]
  congr 1
  have h1 := Lib.splitB_data (⟨#[44]⟩ : ByteArray) 0 (Lib.countB s (⟨#[44]⟩ : ByteArray)) s
  have h2 := split_acc _ s.data.toList rfl
  have h3 : (Lib.splitB (⟨#[44]⟩ : ByteArray) 0 (Lib.countB s (⟨#[44]⟩ : ByteArray)) s).map (·.data.toList) = cutAcc [] s.data.toList := h1.trans h2
  unfold piecesB
  rw [← h3, List.map_map]
  conv => lhs; rw [← List.map_id (Lib.splitB _ _ _ _)]
  apply List.map_congr_left
  intro p _
  exact (mkB_data p).symm

end Go.Proofs.YtempeenjpaldaaaGreatDoor.SNum

namespace Go.Proofs.YtempeenjpaldaaaGreatDoor.SNum
open Go.RowKit Go.Proofs.YtempeenjpaldaaaGreatDoorW.PrintWords Go.Proofs.YtempeenjpaldaaaGreatDoorW.PrintLast Go.Proofs.YtempeenjpaldaaaGreatDoorW.PrintMore Fl Hx
/-- a small digit's number -/
def dv (c : Nat) : Option Nat := if 48 ≤ c ∧ c ≤ 57 then some (c - 48) else if 97 ≤ c ∧ c ≤ 102 then some (c - 87) else none
def parseL : Nat → List UInt8 → Option Nat
  | acc, [] => some acc
  | acc, c :: cs => (dv c.toNat).bind fun d => parseL (acc * 16 + d) cs
theorem dv_all : (List.range 256).all (fun c => match dv c with | some d => decide (d < 16) && (hexd d == UInt8.ofNat c) && (hv c == some d) | none => true) = true := by decide +kernel
theorem dv_some {c : UInt8} {d : Nat} (h : dv c.toNat = some d) : d < 16 ∧ hexd d = c ∧ hv c.toNat = some d := by
  have h1 := (List.all_eq_true.1 dv_all) c.toNat (List.mem_range.2 c.toNat_lt)
  simp only [h, Bool.and_eq_true, decide_eq_true_eq, beq_iff_eq] at h1
  exact ⟨h1.1.1, by rw [h1.1.2]; simp, h1.2⟩
theorem dv_hexd_all : (List.range 16).all (fun d => dv (hexd d).toNat == some d) = true := by decide +kernel
theorem dv_hexd {d : Nat} (h : d < 16) : dv (hexd d).toNat = some d := eq_of_beq ((List.all_eq_true.1 dv_hexd_all) d (List.mem_range.2 h))
theorem parseL_H : ∀ (l : List UInt8) (acc n : Nat), parseL acc l = some n → parseH acc l = some n
  | [], _, _, h => h
  | c :: l, acc, n, h => by
    unfold parseL at h
    obtain ⟨d, hd, h⟩ := Option.bind_eq_some_iff.1 h
    unfold parseH
    rw [(dv_some hd).2.2, Option.bind_some]
    exact parseL_H l _ n h
theorem parseL_down : ∀ (l : List UInt8) (acc n : Nat), parseL acc l = some n → down n l.length = l ∧ n / 16 ^ l.length = acc
  | [], acc, n, h => by
    obtain rfl := Option.some.inj h
    exact ⟨rfl, by simp⟩
  | c :: l, acc, n, h => by
    unfold parseL at h
    obtain ⟨d, hd, h⟩ := Option.bind_eq_some_iff.1 h
    obtain ⟨h1, h2⟩ := parseL_down l _ n h
    obtain ⟨h3, h4, _⟩ := dv_some hd
    rw [List.length_cons, down, h1, h2, Nat.pow_succ, ← Nat.div_div_eq_div_mul, h2]
    refine ⟨?_, by omega⟩
    rw [show (acc * 16 + d) % 16 = d by omega, h4]
theorem parse_down : ∀ (j u acc : Nat), parseL acc (down u j) = some (acc * 16 ^ j + u % 16 ^ j)
  | 0, u, acc => by simp [down, parseL, Nat.mod_one]
  | j + 1, u, acc => by
    rw [down, parseL, dv_hexd (Nat.mod_lt _ (by decide)), Option.bind_some, parse_down j u]
    congr 1
    have h1 : u % 16 ^ (j + 1) = u % 16 ^ j + 16 ^ j * (u / 16 ^ j % 16) := Nat.mod_pow_succ
    rw [h1, Nat.pow_succ, Nat.add_mul, Nat.mul_assoc, Nat.mul_comm 16 (16 ^ j), Nat.mul_comm (u / 16 ^ j % 16) (16 ^ j)]
    omega
theorem parse_hex8 {u : Nat} (h : u < 4294967296) : parseL 0 (hex8 u) = some u := by
  rw [hex8_is h, ← down_H, parse_down, Nat.zero_mul, Nat.zero_add, Nat.mod_eq_of_lt (by simpa using h)]
theorem hex8_parse {l : List UInt8} {n : Nat} (hl : l.length = 8) (h : parseL 0 l = some n) : hex8 n = l ∧ n < 4294967296 := by
  obtain ⟨h1, h2⟩ := parseL_down l 0 n h
  rw [hl] at h1 h2
  have hn : n < 4294967296 := by
    have := Nat.div_eq_zero_iff.1 h2
    rcases this with h | h
    · simp at h
    · simpa using h
  exact ⟨by rw [hex8_is hn, ← down_H, h1], hn⟩
/-- a piece that is the text of a number, told by its bits -/
def good (p : ByteArray) : Option Int := if p.size = 8 then (parseL 0 p.data.toList).bind fun n => if bitsN n = (n : Int) then some (n : Int) else none else none
/-- the text of the number that readHex gives is the piece again if and only if it is good -/
theorem good_iff {p : ByteArray} (h8 : p.size = 8) : hex8 (bitsN (readN p)).toNat = p.data.toList ↔ good p = some ((readN p : Nat) : Int) := by
  have hl : p.data.toList.length = 8 := by rw [data_length]; exact h8
  unfold good
  rw [if_pos h8]
  constructor
  · intro h
    have hlt : readN p < 4294967296 := by
      unfold readN
      cases hp : parseH 0 p.data.toList with
      | none => simp
      | some n => exact parse8 h8 hp
    have hb := bitsN_range hlt
    have hp := parse_hex8 (u := (bitsN (readN p)).toNat) (by omega)
    rw [h] at hp
    have hr : readN p = (bitsN (readN p)).toNat := by
      conv => lhs; unfold readN
      rw [parseL_H _ _ _ hp]; rfl
    rw [hp, Option.bind_some, ← hr, if_pos (by omega)]
  · intro h
    obtain ⟨n, hn, h⟩ := Option.bind_eq_some_iff.1 h
    split at h
    · rename_i hb
      have h2 := Option.some.inj h
      have hnr : n = readN p := by omega
      subst hnr
      rw [hb, Int.toNat_natCast]
      exact (hex8_parse hl hn).1
    · cases h
theorem good_read {p : ByteArray} {v : Int} (h : good p = some v) : p.size = 8 ∧ v = (readN p : Nat) ∧ readN p < 4294967296 := by
  unfold good at h
  split at h
  · rename_i h8
    obtain ⟨n, hn, h⟩ := Option.bind_eq_some_iff.1 h
    split at h
    · have h2 := Option.some.inj h
      have hp := parseL_H _ _ _ hn
      have hr : readN p = n := by unfold readN; rw [hp]; rfl
      exact ⟨h8, by rw [hr, h2], by rw [hr]; exact parse8 h8 hp⟩
    · cases h
  · cases h
end Go.Proofs.YtempeenjpaldaaaGreatDoor.SNum

namespace Go.Proofs.YtempeenjpaldaaaGreatDoor.SNum
open Go.RowKit Go.Proofs.YtempeenjpaldaaaGreatDoorW.PrintWords Go.Proofs.YtempeenjpaldaaaGreatDoorW.PrintLast Go.Proofs.YtempeenjpaldaaaGreatDoorW.PrintMore Fl Hx
theorem rdOf_get (P : List ByteArray) (i : Nat) (h : i < P.length) : rdOf ByteArray.empty P (i : Int) = P[i] := by
  unfold rdOf; simp [List.getD, List.getElem?_eq_getElem h]
/-- one character -/
theorem char_run (K : Nat) (X : List Int) (P : List ByteArray) (i : Nat) (hi : i < P.length) (h8 : P[i].size = 8) (n j : Nat) (hj : j < 8) (hn : n < 16 ^ j) (c : UInt8) (hc : P[i].data.toList[j]? = some c) :
    spec_l01NRead.l1 (K + 1 + 1 + 1 + 1) X P i n j = match dv c.toNat with | some d => spec_l01NRead.l1 K X P i ((n * 16 + d : Nat) : Int) ((j + 1 : Nat) : Int) | none => some ([], false) := by
  have hlen : P[i].data.toList.length = 8 := by rw [data_length]; exact h8
  have hbt : bt P[i] (j : Int) = (c.toNat : Int) := by
    rw [bt_list P[i] j (by omega)]
    obtain ⟨_, h⟩ := List.getElem?_eq_some_iff.1 hc
    rw [h]
  have hp := pow_le (k := j) (by omega)
  have hc256 := c.toNat_lt
  conv => lhs; unfold spec_l01NRead.l1
  rw [rdOf_get P i hi, hbt, if_pos (by omega), if_pos (by omega), if_pos (by omega), if_pos (by omega), if_pos (by omega)]
  have e1 : (if (c.toNat : Int) ≥ 48 then spec_l01NRead.j2 (K + 1 + 1 + 1) X P i n j (c.toNat : Int) (-1) (decide ((c.toNat : Int) ≤ 57)) else spec_l01NRead.j2 (K + 1 + 1 + 1) X P i n j (c.toNat : Int) (-1) false) = spec_l01NRead.j2 (K + 1 + 1 + 1) X P i n j (c.toNat : Int) (-1) (decide (48 ≤ c.toNat ∧ c.toNat ≤ 57)) := by
    split
    · rw [decide_eq_decide.2 (show (c.toNat : Int) ≤ 57 ↔ 48 ≤ c.toNat ∧ c.toNat ≤ 57 by omega)]
    · rw [decide_eq_false (show ¬ (48 ≤ c.toNat ∧ c.toNat ≤ 57) by omega)]
  rw [e1]
  unfold spec_l01NRead.j2 spec_l01NRead.j3 dv
  by_cases hd : 48 ≤ c.toNat ∧ c.toNat ≤ 57
  · rw [decide_eq_true hd, if_pos rfl, if_neg (by omega), if_pos hd]
    unfold spec_l01NRead.j4
    rw [if_neg (by decide), if_neg (by omega), w64 (16 * (n : Int)) (by omega) (by omega), w64 _ (by omega) (by omega), w64 _ (by omega) (by omega)]
    rw [show 16 * (n : Int) + ((c.toNat : Int) - 48) % 256 = ((n * 16 + (c.toNat - 48) : Nat) : Int) by omega, show (j : Int) + 1 = ((j + 1 : Nat) : Int) by omega]
  · rw [decide_eq_false hd, if_neg (by decide), if_neg hd]
    by_cases hl : 97 ≤ c.toNat ∧ c.toNat ≤ 102
    · rw [if_pos (by omega), decide_eq_true (by omega), if_pos hl]
      unfold spec_l01NRead.j4
      rw [if_pos rfl, if_neg (by omega), w64 (16 * (n : Int)) (by omega) (by omega), w64 _ (by omega) (by omega), w64 _ (by omega) (by omega)]
      rw [show 16 * (n : Int) + (((c.toNat : Int) - 97) % 256 + 10) = ((n * 16 + (c.toNat - 87) : Nat) : Int) by omega, show (j : Int) + 1 = ((j + 1 : Nat) : Int) by omega]
    · rw [if_neg hl]
      have e2 : (if (c.toNat : Int) ≥ 97 then spec_l01NRead.j4 (K + 1) X P i n j (c.toNat : Int) (-1) (decide ((c.toNat : Int) ≤ 102)) else spec_l01NRead.j4 (K + 1) X P i n j (c.toNat : Int) (-1) false) = spec_l01NRead.j4 (K + 1) X P i n j (c.toNat : Int) (-1) false := by
        split
        · rw [decide_eq_false (by omega)]
        · rfl
      rw [e2]
      unfold spec_l01NRead.j4
      rw [if_neg (by decide), if_pos (by decide)]
/-- a whole piece -/
theorem piece_run (X : List Int) (P : List ByteArray) (i : Nat) (hi : i < P.length) (h8 : P[i].size = 8) : ∀ (m j n k : Nat), j + m = 8 → n < 16 ^ j →
    spec_l01NRead.l1 (k + 4 * m + 1) X P i n j = match parseL n (P[i].data.toList.drop j) with | some v => spec_l01NRead.l1 (k + 1) X P i (v : Nat) 8 | none => some ([], false)
  | 0, j, n, k, h, _ => by
    obtain rfl : j = 8 := by omega
    have hlen : P[i].data.toList.length = 8 := by rw [data_length]; exact h8
    rw [List.drop_eq_nil_of_le (by omega)]; rfl
  | m + 1, j, n, k, h, hn => by
    have hlen : P[i].data.toList.length = 8 := by rw [data_length]; exact h8
    have hd : P[i].data.toList.drop j = P[i].data.toList[j]'(by omega) :: P[i].data.toList.drop (j + 1) := List.drop_eq_getElem_cons (by omega)
    have hc : P[i].data.toList[j]? = some (P[i].data.toList[j]'(by omega)) := List.getElem?_eq_getElem (by omega)
    rw [show k + 4 * (m + 1) + 1 = (k + 4 * m + 1) + 1 + 1 + 1 + 1 by omega, char_run _ X P i hi h8 n j (by omega) hn _ hc, hd, parseL]
    cases hdv : dv (P[i].data.toList[j]'(by omega)).toNat with
    | none => rfl
    | some d =>
      have := (dv_some hdv).1
      rw [Option.bind_some]
      exact piece_run X P i hi h8 m (j + 1) (n * 16 + d) k (by omega) (by rw [Nat.pow_succ]; omega)
end Go.Proofs.YtempeenjpaldaaaGreatDoor.SNum

namespace Go.Proofs.YtempeenjpaldaaaGreatDoor.SNum
open Go.RowKit Go.Proofs.YtempeenjpaldaaaGreatDoorW.PrintWords Go.Proofs.YtempeenjpaldaaaGreatDoorW.PrintLast Go.Proofs.YtempeenjpaldaaaGreatDoorW.PrintMore Fl Hx
def valsO : List ByteArray → Option (List Int)
  | [] => some []
  | p :: r => (good p).bind fun v => (valsO r).map (v :: ·)
def resO (acc : List Int) : Option (List Int) → List Int × Bool
  | some vs => (acc ++ vs, true)
  | none => ([], false)
theorem resO_cons (acc : List Int) (v : Int) (o : Option (List Int)) : resO (acc ++ [v]) o = resO acc (o.map (v :: ·)) := by
  cases o <;> simp [resO]
theorem piece_end (X : List Int) (P : List ByteArray) (i : Nat) (hi : i ≤ 1000) (hX : X.length ≤ 1000) (v k : Nat) (hv : v < 4294967296) :
    spec_l01NRead.l1 (k + 1) X P i v 8 = if bitsN v = (v : Int) then spec_l01NRead.l0 k (X ++ [(v : Int)]) P ((i + 1 : Nat) : Int) else some ([], false) := by
  conv => lhs; unfold spec_l01NRead.l1
  rw [if_neg (by decide)]
  unfold spec_l01From.f spec_l01Bits.f
  rw [if_pos (by omega), Option.bind_some, Int.toNat_natCast, if_pos hv, Option.bind_some, w64 _ (by omega) (by omega)]
  by_cases h : bitsN v = (v : Int)
  · rw [if_pos h, if_pos h, if_pos (by omega)]; rfl
  · rw [if_neg h, if_neg h]
theorem spec_run (P : List ByteArray) (hP : P.length ≤ 256) : ∀ (m i k : Nat) (X : List Int), i + m = P.length → 40 * m + 1 ≤ k → X.length ≤ i → spec_l01NRead.l0 k X P i = some (resO X (valsO (P.drop i)))
  | _, _, 0, _, _, hk, _ => by omega
  | 0, i, k + 1, X, h, _, _ => by
    unfold spec_l01NRead.l0
    rw [if_neg (by omega), List.drop_eq_nil_of_le (by omega)]
    simp [valsO, resO]
  | m + 1, i, k + 1, X, h, hk, hX => by
    have hi : i < P.length := by omega
    conv => lhs; unfold spec_l01NRead.l0
    rw [if_pos (by omega), if_pos (by omega), rdOf_get P i hi, List.drop_eq_getElem_cons hi]
    simp only [valsO]
    by_cases h8 : P[i].size = 8
    · obtain ⟨k2, rfl⟩ : ∃ k2, k = (k2 + 1) + 4 * 8 := ⟨k - 33, by omega⟩
      rw [if_pos (by omega)]
      have hr := piece_run X P i hi h8 8 0 0 k2 rfl (by decide)
      rw [List.drop_zero, show k2 + 4 * 8 + 1 = k2 + 1 + 4 * 8 by omega] at hr
      rw [show ((0 : Nat) : Int) = 0 from rfl] at hr
      rw [hr]
      unfold good
      rw [if_pos h8]
      cases hp : parseL 0 P[i].data.toList with
      | none => rfl
      | some v =>
        have hv := (hex8_parse (by rw [data_length]; exact h8) hp).2
        simp only [Option.bind_some]
        rw [piece_end X P i (by omega) (by omega) v k2 hv]
        by_cases hb : bitsN v = (v : Int)
        · rw [if_pos hb, if_pos hb, spec_run P hP m (i + 1) k2 _ (by omega) (by omega) (by rw [List.length_append, List.length_singleton]; omega), resO_cons]; rfl
        · rw [if_neg hb, if_neg hb]; rfl
    · rw [if_neg (by omega)]
      unfold good
      rw [if_neg h8]; rfl
end Go.Proofs.YtempeenjpaldaaaGreatDoor.SNum

namespace Go.Proofs.YtempeenjpaldaaaGreatDoor.SNum
open Go.RowKit Go.Proofs.YtempeenjpaldaaaGreatDoorW.PrintWords Go.Proofs.YtempeenjpaldaaaGreatDoorW.PrintLast Go.Proofs.YtempeenjpaldaaaGreatDoorW.PrintMore Fl Hx
/-- what readHex gives of each piece -/
def reads (P : List ByteArray) : List Int := P.map fun p => ((readN p : Nat) : Int)
theorem impl_no (s : ByteArray) (P : List ByteArray) (hP : P.length ≤ 1048577) : ∀ (m i k : Nat) (X : List Int), i + m = P.length → m + 1 ≤ k → X.length = i → i ≤ 256 → (256 < P.length ∨ ¬ ∀ p ∈ P.drop i, p.size = 8) →
    impl_ReadNumbers.l0 k s X P (P.length : Int) i = some ([], false)
  | _, _, 0, _, _, hk, _, _, _ => by omega
  | 0, i, k + 1, X, h, _, hX, hi, hb => by
    exfalso
    rcases hb with hb | hb
    · omega
    · exact hb (by rw [List.drop_eq_nil_of_le (by omega)]; intro p hp; cases hp)
  | m + 1, i, k + 1, X, h, hk, hX, hi, hb => by
    have hlt : i < P.length := by omega
    conv => lhs; unfold impl_ReadNumbers.l0
    rw [if_pos (by omega), if_pos (by omega), if_pos (by omega), rdOf_get P i hlt]
    by_cases h8 : P[i].size = 8
    · rw [if_pos (by omega)]
      by_cases h256 : X.length = 256
      · rw [if_pos (by omega)]
      · rw [if_neg (by omega)]
        unfold impl_readHex.f
        rw [if_pos h8, Option.bind_some, if_pos (by omega), w64 _ (by omega) (by omega)]
        have := impl_no s P hP m (i + 1) k (X ++ [((readN P[i] : Nat) : Int)]) (by omega) (by omega) (by rw [List.length_append, List.length_singleton]; omega) (by omega) (hb.imp id (fun hb hn => hb (by
          rw [List.drop_eq_getElem_cons hlt]
          intro p hp
          rcases List.mem_cons.1 hp with rfl | hp
          · exact h8
          · exact hn p hp)))
        rw [show ((i + 1 : Nat) : Int) = (i : Int) + 1 by omega] at this
        exact this
    · rw [if_neg (by omega)]
theorem impl_yes (s : ByteArray) (P : List ByteArray) (hP : P.length ≤ 256) : ∀ (m i k : Nat) (X : List Int), i + m = P.length → m + 1 ≤ k → X.length = i → (∀ p ∈ P.drop i, p.size = 8) →
    ∃ k', k ≤ k' + m + 1 ∧ impl_ReadNumbers.l0 k s X P (P.length : Int) i = (impl_NumbersText.f k' (X ++ reads (P.drop i))).bind fun bt230 => (if bt230.2 = true then (if bt230.1.toList = s.toList then (some (X ++ reads (P.drop i), true)) else (some (([] : List Int), false))) else (some (([] : List Int), false)))
  | _, _, 0, _, _, hk, _, _ => by omega
  | 0, i, k + 1, X, h, _, hX, hb => by
    refine ⟨k, by omega, ?_⟩
    conv => lhs; unfold impl_ReadNumbers.l0
    rw [if_neg (by omega), List.drop_eq_nil_of_le (by omega), reads, List.map_nil, List.append_nil]
  | m + 1, i, k + 1, X, h, hk, hX, hb => by
    have hlt : i < P.length := by omega
    rw [List.drop_eq_getElem_cons hlt] at hb
    have h8 := hb _ List.mem_cons_self
    obtain ⟨k', hk', h1⟩ := impl_yes s P hP m (i + 1) k (X ++ [((readN P[i] : Nat) : Int)]) (by omega) (by omega) (by rw [List.length_append, List.length_singleton]; omega) (fun p hp => hb p (List.mem_cons_of_mem _ hp))
    refine ⟨k', by omega, ?_⟩
    conv => lhs; unfold impl_ReadNumbers.l0
    rw [if_pos (by omega), if_pos (by omega), if_pos (by omega), rdOf_get P i hlt, if_pos (by omega), if_neg (by omega)]
    unfold impl_readHex.f
    rw [if_pos h8, Option.bind_some, if_pos (by omega), w64 _ (by omega) (by omega), show (i : Int) + 1 = ((i + 1 : Nat) : Int) by omega, h1]
    have e : X ++ [((readN P[i] : Nat) : Int)] ++ reads (P.drop (i + 1)) = X ++ reads (P.drop i) := by
      rw [List.drop_eq_getElem_cons hlt, List.append_assoc]; rfl
    rw [e]
end Go.Proofs.YtempeenjpaldaaaGreatDoor.SNum

namespace Go.Proofs.YtempeenjpaldaaaGreatDoor.SNum
open Go.RowKit Go.Proofs.YtempeenjpaldaaaGreatDoorW.PrintWords Go.Proofs.YtempeenjpaldaaaGreatDoorW.PrintLast Go.Proofs.YtempeenjpaldaaaGreatDoorW.PrintMore Fl Hx
theorem cutAcc_ne : ∀ (l cur : List UInt8), ∃ x r, cutAcc cur l = x :: r
  | [], cur => ⟨cur, [], rfl⟩
  | c :: l, cur => by
    unfold cutAcc
    split
    · exact ⟨cur, _, rfl⟩
    · exact cutAcc_ne l _
theorem join_cut : ∀ (l cur : List UInt8), Lib.join (cutAcc cur l) [44] = cur ++ l
  | [], cur => by unfold cutAcc; rw [Lib.join_one, List.append_nil]
  | c :: l, cur => by
    unfold cutAcc
    split
    · rename_i h
      obtain ⟨x, r, hx⟩ := cutAcc_ne l []
      have ih := join_cut l []
      rw [hx, Lib.join_cons, List.nil_append] at ih
      rw [hx, Lib.join_cons, Lib.joinTail, List.map_cons, List.flatten_cons, h]
      rw [Lib.joinTail] at ih
      rw [List.append_assoc, ih]; rfl
    · rw [join_cut l (cur ++ [c]), List.append_assoc]; rfl
/-- joins of pieces of one length are one if and only if the pieces are -/
theorem joinTail_inj : ∀ (a b : List (List UInt8)), (∀ x ∈ a, x.length = 8) → (∀ x ∈ b, x.length = 8) → Lib.joinTail [44] a = Lib.joinTail [44] b → a = b
  | [], [], _, _, _ => rfl
  | [], y :: b, _, _, h => by simp [Lib.joinTail] at h
  | x :: a, [], _, _, h => by simp [Lib.joinTail] at h
  | x :: a, y :: b, ha, hb, h => by
    simp only [Lib.joinTail, List.map_cons, List.flatten_cons] at h
    obtain ⟨h1, h2⟩ := List.append_inj h (by rw [List.length_append, List.length_append, ha x List.mem_cons_self, hb y List.mem_cons_self])
    have h3 : x = y := List.append_cancel_left h1
    rw [h3, joinTail_inj a b (fun z hz => ha z (List.mem_cons_of_mem _ hz)) (fun z hz => hb z (List.mem_cons_of_mem _ hz)) h2]
theorem join_inj {a b : List (List UInt8)} (ha : ∀ x ∈ a, x.length = 8) (hb : ∀ x ∈ b, x.length = 8) (hna : a ≠ []) (hnb : b ≠ []) (h : Lib.join a [44] = Lib.join b [44]) : a = b := by
  obtain ⟨x, a, rfl⟩ := List.exists_cons_of_ne_nil hna
  obtain ⟨y, b, rfl⟩ := List.exists_cons_of_ne_nil hnb
  rw [Lib.join_cons, Lib.join_cons] at h
  obtain ⟨h1, h2⟩ := List.append_inj h (by rw [ha x List.mem_cons_self, hb y List.mem_cons_self])
  rw [h1, joinTail_inj a b (fun z hz => ha z (List.mem_cons_of_mem _ hz)) (fun z hz => hb z (List.mem_cons_of_mem _ hz)) h2]
end Go.Proofs.YtempeenjpaldaaaGreatDoor.SNum

namespace Go.Proofs.YtempeenjpaldaaaGreatDoor.SNum
open Go.RowKit Go.Proofs.YtempeenjpaldaaaGreatDoorW.PrintWords Go.Proofs.YtempeenjpaldaaaGreatDoorW.PrintLast Go.Proofs.YtempeenjpaldaaaGreatDoorW.PrintMore Fl Hx
def readB (s : ByteArray) : List Int × Bool :=
  if s.toList = ([110, 111, 110, 101] : List UInt8) then ([], true) else if 256 < (piecesB s).length then ([], false) else resO [] (valsO (piecesB s))
theorem spec_reads (s : ByteArray) (hs : s.size ≤ 1048576) (k : Nat) (hk : s.size + 20000 ≤ k) : spec_ReadNumbers.f k s = some (readB s) := by
  unfold spec_ReadNumbers.f spec_l01NRead.f readB
  rw [Option.bind_some]
  by_cases h : s.toList = ([110, 111, 110, 101] : List UInt8)
  · rw [if_pos h, if_pos h]; rfl
  · rw [if_neg h, if_neg h, cut_is s hs k (by omega), Option.bind_some]
    by_cases g : 256 < (piecesB s).length
    · rw [if_pos (by omega), if_pos g]; rfl
    · rw [if_neg (by omega), if_neg g]
      have := spec_run (piecesB s) (by omega) (piecesB s).length 0 k [] (by omega) (by omega) (by simp)
      rw [List.drop_zero, show ((0 : Nat) : Int) = 0 from rfl] at this
      rw [this]; rfl
theorem valsO_good : ∀ (P : List ByteArray), (∀ p ∈ P, good p = some ((readN p : Nat) : Int)) → valsO P = some (reads P)
  | [], _ => rfl
  | p :: P, h => by
    rw [valsO, h p List.mem_cons_self, Option.bind_some, valsO_good P (fun q hq => h q (List.mem_cons_of_mem _ hq))]; rfl
theorem valsO_some : ∀ (P : List ByteArray) (vs : List Int), valsO P = some vs → ∀ p ∈ P, p.size = 8 ∧ good p = some ((readN p : Nat) : Int)
  | [], _, _, p, hp => by cases hp
  | q :: P, vs, h, p, hp => by
    rw [valsO] at h
    obtain ⟨v, hv, h⟩ := Option.bind_eq_some_iff.1 h
    obtain ⟨us, hu, rfl⟩ := Option.map_eq_some_iff.1 h
    rcases List.mem_cons.1 hp with rfl | hp
    · obtain ⟨h1, h2, h3⟩ := good_read hv
      exact ⟨h1, by rw [hv, h2]⟩
    · exact valsO_some P us hu p hp
end Go.Proofs.YtempeenjpaldaaaGreatDoor.SNum

namespace Go.Proofs.YtempeenjpaldaaaGreatDoor.SNum
open Go.RowKit Go.Proofs.YtempeenjpaldaaaGreatDoorW.PrintWords Go.Proofs.YtempeenjpaldaaaGreatDoorW.PrintLast Go.Proofs.YtempeenjpaldaaaGreatDoorW.PrintMore Fl Hx
theorem readN_lt {p : ByteArray} (h8 : p.size = 8) : readN p < 4294967296 := by
  unfold readN
  cases hp : parseH 0 p.data.toList with
  | none => simp
  | some n => exact parse8 h8 hp
/-- the text that the program writes of what it read -/
theorem text_list (x : Int) (l : List Int) (hin : ∀ n ∈ x :: l, InV n) (h64 : (x :: l).length ≤ 256) (k : Nat) (hk : (x :: l).length + 43 ≤ k) :
    ∃ t, impl_NumbersText.f k (x :: l) = some (t, true) ∧ t.data.toList = Lib.join ((x :: l).map tL) [44] := by
  have hin2 : ∀ j, j < (x :: l).length → InV (rd (x :: l) (j : Int)) := fun j hj => by rw [rd_get _ j hj]; exact hin _ (List.getElem_mem hj)
  obtain ⟨t, ht, hu⟩ := texts (x :: l) hin2 h64 k hk
  refine ⟨t, hu, ?_⟩
  unfold spec_l01NText.f at ht
  have hx : rd (x :: l) ((0 : Nat) : Int) = x := rfl
  rw [if_neg (by simp; omega), if_pos (by simp), show (0 : Int) = ((0 : Nat) : Int) from rfl, hx, hex_spec (hin x List.mem_cons_self) k (by simp at hk; omega)] at ht
  simp only [Option.bind_some] at ht
  have hs := text_spec (x :: l) hin2 h64 l.length k 1 (tB x) (by simp) (by simp) (by simp at hk; omega) (by have := tB_size (hin x List.mem_cons_self); omega)
  rw [show (1 : Int) = ((1 : Nat) : Int) from rfl, hs] at ht
  obtain rfl := Option.some.inj ht
  rw [List.drop_one, List.tail_cons, tailB_list, tB_list, List.map_cons, Lib.join_cons]
theorem impl_reads (s : ByteArray) (hs : s.size ≤ 1048576) (k : Nat) (hk : s.size + 20000 ≤ k) : impl_ReadNumbers.f k s = some (readB s) := by
  unfold impl_ReadNumbers.f impl_pieces.f readB
  by_cases hn : s.toList = ([110, 111, 110, 101] : List UInt8)
  · rw [if_pos hn, if_pos hn, Option.bind_some]
    obtain ⟨k', hk', h1⟩ := impl_yes s [] (by simp) 0 0 k [] rfl (by omega) rfl (fun p hp => by cases hp)
    rw [show ((0 : Nat) : Int) = 0 from rfl] at h1
    rw [h1]
    obtain ⟨t, ht, hu⟩ := texts [] (fun j hj => by simp at hj) (by simp) (k' + 43) (by simp)
    have h2 : impl_NumbersText.f k' ([] ++ reads (([] : List ByteArray).drop 0)) = some ((⟨#[110, 111, 110, 101]⟩ : ByteArray), true) := by
      obtain ⟨k2, rfl⟩ : ∃ k2, k' = k2 + 1 := ⟨k' - 1, by omega⟩
      unfold impl_NumbersText.f
      rw [if_neg (by simp [reads])]
      unfold impl_NumbersText.l0
      rw [if_neg (by simp [reads])]
      rfl
    rw [h2, Option.bind_some, if_pos rfl, if_pos (by rw [hn]; decide +kernel)]
    rfl
  · rw [if_neg hn, if_neg hn, split_is s hs k, Option.bind_some, Option.bind_some]
    have hpl := pieces_len s
    by_cases hb : 256 < (piecesB s).length ∨ ¬ ∀ p ∈ (piecesB s).drop 0, p.size = 8
    · have h1 := impl_no s (piecesB s) (by omega) (piecesB s).length 0 k [] (by omega) (by omega) rfl (by omega) hb
      rw [show ((0 : Nat) : Int) = 0 from rfl] at h1
      rw [h1]
      by_cases g : 256 < (piecesB s).length
      · rw [if_pos g]
      · rw [if_neg g]
        cases hv : valsO (piecesB s) with
        | none => rfl
        | some vs => exact absurd (fun p hp => (valsO_some _ vs hv p (by simpa using hp)).1) (hb.resolve_left g)
    · have hlen : ¬ 256 < (piecesB s).length := fun h => hb (Or.inl h)
      have h8 : ∀ p ∈ (piecesB s).drop 0, p.size = 8 := Classical.byContradiction (fun h => hb (Or.inr h))
      obtain ⟨k', hk', h1⟩ := impl_yes s (piecesB s) (by omega) (piecesB s).length 0 k [] (by omega) (by omega) rfl h8
      rw [show ((0 : Nat) : Int) = 0 from rfl] at h1
      rw [h1, if_neg hlen]
      rw [List.drop_zero, List.nil_append]
      rw [List.drop_zero] at h8
      obtain ⟨x, r, hx⟩ := cutAcc_ne s.data.toList []
      have hP : piecesB s = mkB x :: r.map mkB := by unfold piecesB; rw [hx]; rfl
      have hrd : reads (piecesB s) = ((readN (mkB x) : Nat) : Int) :: reads (r.map mkB) := by rw [hP]; rfl
      have hrl : (reads (piecesB s)).length = (piecesB s).length := List.length_map ..
      obtain ⟨t, ht, hu⟩ := text_list ((readN (mkB x) : Nat) : Int) (reads (r.map mkB)) (fun n hn => by
        rw [← hrd] at hn
        obtain ⟨p, hp, rfl⟩ := List.mem_map.1 hn
        exact readN_lt (h8 p hp)) (by rw [← hrd]; omega) k' (by rw [← hrd]; omega)
      rw [← hrd] at ht hu
      rw [ht, Option.bind_some, if_pos rfl]
      have hj : s.data.toList = Lib.join ((piecesB s).map fun p => p.data.toList) [44] := by
        have h1 := join_cut s.data.toList []
        rw [List.nil_append] at h1
        have h2 : ((piecesB s).map fun p => p.data.toList) = cutAcc [] s.data.toList := by
          unfold piecesB
          rw [List.map_map]
          exact (List.map_congr_left (fun l _ => rfl)).trans (List.map_id _)
        rw [h2, h1]
      have hmm : (reads (piecesB s)).map tL = (piecesB s).map fun p => hex8 (bitsN (readN p)).toNat := by unfold reads; rw [List.map_map]; rfl
      by_cases he : t.toList = s.toList
      · rw [if_pos he]
        have h3 := list_eq.1 he
        rw [hu, hj, hmm] at h3
        have h4 := join_inj (fun l hl => by obtain ⟨p, hp, rfl⟩ := List.mem_map.1 hl; exact hex8_len (by have := bitsN_range (readN_lt (h8 p hp)); omega)) (fun l hl => by obtain ⟨p, hp, rfl⟩ := List.mem_map.1 hl; rw [data_length]; exact h8 p hp) (by rw [hP]; simp) (by rw [hP]; simp) h3
        rw [valsO_good (piecesB s) (fun p hp => (good_iff (h8 p hp)).1 (List.map_inj_left.1 h4 p hp))]; rfl
      · rw [if_neg he]
        cases hv : valsO (piecesB s) with
        | none => rfl
        | some vs =>
          exfalso
          apply he
          apply list_eq.2
          rw [hu, hj, hmm]
          congr 1
          exact List.map_congr_left (fun p hp => (good_iff (h8 p hp)).2 (valsO_some _ vs hv p hp).2)
end Go.Proofs.YtempeenjpaldaaaGreatDoor.SNum

namespace Go.Proofs.YtempeenjpaldaaaGreatDoor.SNum
open Go.RowKit Go.Proofs.YtempeenjpaldaaaGreatDoorW.PrintWords Go.Proofs.YtempeenjpaldaaaGreatDoorW.PrintLast Go.Proofs.YtempeenjpaldaaaGreatDoorW.PrintMore Fl Hx
theorem valsO_len : ∀ (P : List ByteArray) (vs : List Int), valsO P = some vs → vs.length = P.length
  | [], vs, h => by cases h; rfl
  | p :: r, vs, h => by
    rw [valsO] at h
    obtain ⟨v, hv, h⟩ := Option.bind_eq_some_iff.1 h
    obtain ⟨us, hu, rfl⟩ := Option.map_eq_some_iff.1 h
    simp [valsO_len r us hu]
theorem readB_len (s : ByteArray) : (readB s).1.length ≤ 256 := by
  unfold readB
  split
  · simp
  · split
    · simp
    · cases hv : valsO (piecesB s) with
      | none => simp [resO]
      | some vs =>
        have := valsO_len _ _ hv
        simp only [resO, List.nil_append]
        omega
theorem ReadNumbers_pure : laws_FnExactReadNumbers.Pure := by
  intro s _
  by_cases g : (s.size : Int) > 1048576
  · exact ⟨0, by unfold laws_FnExactReadNumbers.f; rw [if_pos g]⟩
  · have hs : s.size ≤ 1048576 := by omega
    refine ⟨s.size + 30000 + 1 + 1, ?_⟩
    have hl := readB_len s
    obtain ⟨xs, b, hr⟩ : ∃ xs b, readB s = (xs, b) := ⟨_, _, rfl⟩
    rw [hr] at hl
    have hspec := spec_reads s hs (s.size + 30000 + 1 + 1) (by omega)
    have himpl := impl_reads s hs (s.size + 30000 + 1 + 1) (by omega)
    have himpl2 := impl_reads s hs (s.size + 30000 + 1) (by omega)
    rw [hr] at hspec himpl himpl2
    generalize hK : s.size + 30000 = K at hspec himpl himpl2 ⊢
    unfold laws_FnExactReadNumbers.f
    rw [if_neg g, hspec, Option.bind_some, himpl, Option.bind_some]
    have he : ∀ l : List Int, laws_eqFloat32S.f l l = some true := fun l => if_pos rfl
    rw [he, Option.bind_some, if_pos rfl, show (b != b) = false by cases b <;> rfl]
    simp only [laws_FnExactReadNumbers.j0, Bool.false_eq_true, if_false]
    have hm : laws_markFloat32S.f (K + 1) xs 1 = some (1 + (xs.length : Int), im 1 xs.length) := if_pos ⟨by decide, by simp only at hl; omega⟩
    have hh : laws_heldFloat32S.f (im 1 xs.length) 1 = some (1 + (xs.length : Int)) := by
      unfold laws_heldFloat32S.f
      rw [im_length, if_pos ⟨rfl, by decide, by simp only at hl; omega⟩]
    rw [hm, Option.bind_some, hh, Option.bind_some, if_neg (by omega), if_pos rfl, himpl2, Option.bind_some, he, Option.bind_some, if_pos rfl, show (b != b) = false by cases b <;> rfl]
    simp only [laws_FnExactReadNumbers.j1, Bool.false_eq_true, if_false]
    rw [hh, Option.bind_some, if_neg (by omega), if_pos rfl]
end Go.Proofs.YtempeenjpaldaaaGreatDoor.SNum

