/- Reading a text of a list: the reference's and the program's answers are one, in plain lists. -/
import Derived.Test.YtempeenjpaldaaaDoorSDec4
import Derived.Test.YtempeenjpaldaaaDoorPRead
namespace Go.Proofs.YtempeenjpaldaaaDoor.SDec
open Go.RowKit Go.Proofs.YtempeenjpaldaaaDoorW.PrintWords Go.Proofs.YtempeenjpaldaaaDoorW.PrintLast

theorem mark_tells (d : Nat) : ∀ (k i : Nat) (xs : List Int) (m : Int), 0 ≤ m → m + d ≤ 1000000000000 → xs.length ≤ 1048576 → i ≤ xs.length → xs.length - i = d → d < k →
    ∃ ys, laws_markInt64S.l0 k xs m (i : Int) = some (m + d, ys) ∧ ys.length = xs.length ∧ (∀ j, j < i → ys[j]? = xs[j]?) ∧ ∀ j : Nat, i ≤ j → j < xs.length → ys[j]? = some (m + ((j - i : Nat) : Int)) := by
  induction d with
  | zero =>
    intro k i xs m h0 hm hn hi hd hk
    obtain ⟨k, rfl⟩ : ∃ m, k = m + 1 := ⟨k - 1, by omega⟩
    have h1 : ¬ (i : Int) < (xs.length : Int) := by omega
    simp only [laws_markInt64S.l0]
    rw [if_neg h1]
    exact ⟨xs, by simp, rfl, fun _ _ => rfl, fun j a b => by omega⟩
  | succ d ih =>
    intro k i xs m h0 hm hn hi hd hk
    obtain ⟨k, rfl⟩ : ∃ m, k = m + 1 := ⟨k - 1, by omega⟩
    have h1 : (i : Int) < (xs.length : Int) := by omega
    have h2 : (0 : Int) ≤ (i : Int) := by omega
    simp only [laws_markInt64S.l0]
    rw [if_pos h1, if_pos h2, next_is h2 h1 (by omega)]
    have e : ((i : Int) + 1) = ((i + 1 : Nat) : Int) := by omega
    have e2 : wrap64 (m + 1) = m + 1 := by unfold wrap64; omega
    rw [e, e2, Int.toNat_natCast]
    obtain ⟨ys, h3, h4, h5, h6⟩ := ih k (i + 1) (xs.set i m) (m + 1) (by omega) (by omega) (by simpa using hn) (by simp; omega) (by simp; omega) (by omega)
    refine ⟨ys, ?_, by simpa using h4, ?_, ?_⟩
    · rw [h3]; congr 2; omega
    · intro j hj
      rw [h5 j (by omega), List.getElem?_set_ne (by omega)]
    · intro j hj hj'
      rcases Nat.lt_or_ge i j with g | g
      · rw [h6 j (by omega) (by simpa using hj')]; congr 1; omega
      · obtain rfl : j = i := by omega
        rw [h5 j (by omega), List.getElem?_set_self (by omega)]; simp

theorem mark_is (xs : List Int) (m : Int) (h0 : 0 ≤ m) (hm : m ≤ 10000000) (hn : xs.length ≤ 1048576) (k : Nat) (hk : xs.length < k) :
    ∃ ys, laws_markInt64S.f k xs m = some (m + xs.length, ys) ∧ ys.length = xs.length ∧ ∀ j : Nat, j < xs.length → ys[j]? = some (m + (j : Int)) := by
  obtain ⟨ys, h1, h2, _, h4⟩ := mark_tells xs.length k 0 xs m h0 (by omega) hn (by omega) (by omega) hk
  exact ⟨ys, h1, h2, fun j hj => by have := h4 j (by omega) hj; simpa using this⟩

theorem held_tells (ys : List Int) (m0 : Int) (hn : ys.length ≤ 1048576) (h0 : 0 ≤ m0) (hm : m0 ≤ 1000000000) (hy : ∀ j : Nat, j < ys.length → ys[j]? = some (m0 + (j : Int))) (d : Nat) : ∀ (k i : Nat), i ≤ ys.length → ys.length - i = d → d < k →
    laws_heldInt64S.l0 k ys (m0 + i) (i : Int) = some (m0 + ys.length) := by
  induction d with
  | zero =>
    intro k i hi hd hk
    obtain ⟨k, rfl⟩ : ∃ m, k = m + 1 := ⟨k - 1, by omega⟩
    have h1 : ¬ (i : Int) < (ys.length : Int) := by omega
    simp only [laws_heldInt64S.l0]
    rw [if_neg h1]
    congr 1; omega
  | succ d ih =>
    intro k i hi hd hk
    obtain ⟨k, rfl⟩ : ∃ m, k = m + 1 := ⟨k - 1, by omega⟩
    have h1 : (i : Int) < (ys.length : Int) := by omega
    have h2 : (0 : Int) ≤ (i : Int) := by omega
    have h3 : rd ys (i : Int) = m0 + i := by
      have := hy i (by omega)
      rw [List.getElem?_eq_getElem (by omega)] at this
      rw [rd_get ys i (by omega)]; exact Option.some.inj this
    have e : ((i : Int) + 1) = ((i + 1 : Nat) : Int) := by omega
    have e2 : wrap64 (m0 + i + 1) = m0 + ((i + 1 : Nat) : Int) := by unfold wrap64; omega
    simp only [laws_heldInt64S.l0]
    rw [if_pos h1, if_pos h2, if_pos h3, next_is h2 h1 (by omega), e2, e]
    exact ih k (i + 1) (by omega) (by omega) (by omega)

theorem held_is (ys : List Int) (m : Int) (hn : ys.length ≤ 1048576) (h0 : 0 ≤ m) (hm : m ≤ 1000000000) (hy : ∀ j : Nat, j < ys.length → ys[j]? = some (m + (j : Int))) (k : Nat) (hk : ys.length < k) :
    laws_heldInt64S.f k ys m = some (m + ys.length) := by
  have := held_tells ys m hn h0 hm hy ys.length k 0 (by omega) (by omega) hk
  unfold laws_heldInt64S.f
  simpa using this


/-- the pieces between commas, the first begun with cur -/
def cutAcc (cur : List UInt8) : List UInt8 → List (List UInt8)
  | [] => [cur]
  | c :: r => if c = 44 then cur :: cutAcc [] r else cutAcc (cur ++ [c]) r
def mkB (l : List UInt8) : ByteArray := ⟨l.toArray⟩
theorem mkB_data (s : ByteArray) : mkB s.data.toList = s := by
  cases s with
  | mk d => simp [mkB]
theorem mkB_size (l : List UInt8) : (mkB l).size = l.length := by simp [mkB, ByteArray.size]
def piecesB (s : ByteArray) : List ByteArray := (cutAcc [] s.data.toList).map mkB
theorem cutAcc_len : ∀ (l cur : List UInt8), (cutAcc cur l).length ≤ l.length + 1
  | [], _ => by simp [cutAcc]
  | c :: r, cur => by
    simp only [cutAcc, List.length_cons]
    by_cases h : c = 44
    · rw [if_pos h]
      have := cutAcc_len r []
      simp; omega
    · rw [if_neg h]
      have := cutAcc_len r (cur ++ [c])
      omega
theorem cutAcc_mem : ∀ (l cur p : List UInt8), p ∈ cutAcc cur l → p.length ≤ cur.length + l.length
  | [], cur, p, h => by
    simp only [cutAcc, List.mem_singleton] at h
    rw [h]; simp
  | c :: r, cur, p, h => by
    simp only [cutAcc] at h
    by_cases hc : c = 44
    · rw [if_pos hc, List.mem_cons] at h
      rcases h with rfl | h
      · simp
      · have := cutAcc_mem r [] p h
        simp at this ⊢; omega
    · rw [if_neg hc] at h
      have := cutAcc_mem r (cur ++ [c]) p h
      simp at this ⊢; omega
theorem pieces_len (s : ByteArray) : (piecesB s).length ≤ s.size + 1 := by
  have := cutAcc_len s.data.toList []
  rw [data_length] at this
  simpa [piecesB] using this
theorem pieces_mem (s p : ByteArray) (h : p ∈ piecesB s) : p.size ≤ s.size := by
  obtain ⟨l, hl, rfl⟩ := List.mem_map.1 h
  have := cutAcc_mem _ _ _ hl
  rw [data_length] at this
  rw [mkB_size]
  simpa using this

theorem ext_snoc (s : ByteArray) (a b : Nat) (h : b < s.size) (hab : a ≤ b) : s.data.toList.extract a (b + 1) = s.data.toList.extract a b ++ [s.data.toList[b]'(by rw [data_length]; exact h)] := by
  have hl : b < s.data.toList.length := by rw [data_length]; exact h
  simp only [List.extract_eq_take_drop]
  rw [show b + 1 - a = (b - a) + 1 by omega, List.take_succ_eq_append_getElem (by rw [List.length_drop]; omega)]
  congr 2
  rw [List.getElem_drop]
  congr 1
  omega
theorem ext_mk (s : ByteArray) (a b : Nat) : s.extract a b = mkB (s.data.toList.extract a b) := by
  rw [← mkB_data (s.extract a b)]
  congr 1
  rw [Lib.extract_data]
theorem cut_run (s : ByteArray) (hs : s.size ≤ 1048576) (d : Nat) : ∀ (k i f : Nat) (out : List ByteArray), f ≤ i → i ≤ s.size → s.size - i = d → d + 2 ≤ k → out.length ≤ i →
    spec_l01Cut.l0 k s 44 out (f : Int) (i : Int) = some (out ++ (cutAcc (s.data.toList.extract f i) (s.data.toList.drop i)).map mkB) := by
  induction d with
  | zero =>
    intro k i f out hf hi hd hk ho
    obtain ⟨k, rfl⟩ : ∃ m, k = m + 2 := ⟨k - 2, by omega⟩
    obtain rfl : i = s.size := by omega
    have e : wrap64 ((s.size : Int) + 1) = (s.size : Int) + 1 := by unfold wrap64; omega
    simp only [spec_l01Cut.l0]
    rw [if_pos (by omega), if_pos trivial, if_pos (by omega), if_pos (by omega), if_pos (by omega), e, if_neg (by omega), List.drop_eq_nil_of_le (by rw [data_length]; exact Nat.le_refl _)]
    simp only [cutAcc, List.map_cons, List.map_nil, Int.toNat_natCast]
    rw [ext_mk]
  | succ d ih =>
    intro k i f out hf hi hd hk ho
    obtain ⟨k, rfl⟩ : ∃ m, k = m + 1 := ⟨k - 1, by omega⟩
    have hlt : i < s.size := by omega
    have hl : i < s.data.toList.length := by rw [data_length]; exact hlt
    have e : wrap64 ((i : Int) + 1) = ((i + 1 : Nat) : Int) := by unfold wrap64; omega
    simp only [spec_l01Cut.l0]
    rw [if_pos (by omega), if_neg (by omega), if_pos (by omega), if_pos (by omega), bt_list s i hl, e, List.drop_eq_getElem_cons hl]
    simp only [cutAcc]
    have hc : ((s.data.toList[i].toNat : Int) = 44) ↔ s.data.toList[i] = 44 := by
      have h44 : (44 : UInt8).toNat = 44 := rfl
      rw [← UInt8.toNat_inj, h44]
      omega
    by_cases h : s.data.toList[i] = 44
    · rw [if_pos (hc.2 h), if_pos h, if_pos (by omega), if_pos (by omega), if_pos (by omega), ih k (i + 1) (i + 1) _ (Nat.le_refl _) (by omega) (by omega) (by omega) (by simp; omega)]
      rw [Int.toNat_natCast, Int.toNat_natCast, ext_mk, List.append_assoc]
      simp [List.extract_eq_take_drop]
    · rw [if_neg (fun g => h (hc.1 g)), if_neg h, ih k (i + 1) f out (by omega) (by omega) (by omega) (by omega) (by omega), ext_snoc s f i hlt hf]
theorem cut_is (s : ByteArray) (hs : s.size ≤ 1048576) (k : Nat) (hk : s.size + 2 ≤ k) : spec_l01Cut.f k s 44 = some (piecesB s) := by
  unfold spec_l01Cut.f
  have := cut_run s hs s.size k 0 0 [] (Nat.le_refl _) (Nat.zero_le _) (by omega) hk (Nat.le_refl _)
  rw [show (0 : Int) = ((0 : Nat) : Int) from rfl, this]
  simp [piecesB, List.extract_eq_take_drop]

theorem acc_miss : ∀ (l cur : List UInt8), Lib.indexByte l 44 = -1 → cutAcc cur l = [cur ++ l]
  | [], cur, _ => by simp [cutAcc]
  | c :: r, cur, h => by
    have hg := Lib.indexByte_ge r 44
    simp only [Lib.indexByte] at h
    by_cases hc : (c == 44) = true
    · rw [if_pos hc] at h; omega
    · rw [if_neg hc] at h
      have hr : Lib.indexByte r 44 = -1 := by
        by_cases hq : (Lib.indexByte r 44 == -1) = true
        · exact beq_iff_eq.1 hq
        · rw [if_neg hq] at h; omega
      simp only [cutAcc]
      rw [if_neg (fun e => hc (beq_iff_eq.2 e)), acc_miss r _ hr, List.append_assoc]
      rfl
theorem acc_hit : ∀ (l cur : List UInt8) (i : Nat), Lib.indexByte l 44 = i → cutAcc cur l = (cur ++ l.take i) :: cutAcc [] (l.drop (i + 1))
  | [], cur, i, h => by simp [Lib.indexByte] at h
  | c :: r, cur, i, h => by
    have hg := Lib.indexByte_ge r 44
    simp only [Lib.indexByte] at h
    by_cases hc : (c == 44) = true
    · rw [if_pos hc] at h
      obtain rfl : i = 0 := by omega
      simp only [cutAcc]
      rw [if_pos (beq_iff_eq.1 hc)]
      simp
    · rw [if_neg hc] at h
      by_cases hq : (Lib.indexByte r 44 == -1) = true
      · rw [if_pos hq] at h; omega
      · rw [if_neg hq] at h
        obtain ⟨j, rfl⟩ : ∃ j, i = j + 1 := by
          rcases i with _ | j
          · have := beq_iff_eq.2 (show Lib.indexByte r 44 = -1 by omega); exact absurd this hq
          · exact ⟨j, rfl⟩
        simp only [cutAcc]
        rw [if_neg (fun e => hc (beq_iff_eq.2 e)), acc_hit r _ j (by omega)]
        simp
theorem split_acc : ∀ (k : Nat) (l : List UInt8), Lib.count l [44] = k → Lib.splitK [44] 0 k l = cutAcc [] l
  | 0, l, h => by
    have hm : Lib.index l [44] = -1 := by
      have hg := Lib.index_ge l [44]
      rcases Int.lt_or_le (Lib.index l [44]) 0 with g | g
      · omega
      · obtain ⟨i, hi⟩ := Int.eq_ofNat_of_zero_le g
        have := Lib.count_hit (s := l) (sub := [44]) (by simp) hi
        omega
    rw [Lib.index_one] at hm
    rw [acc_miss l [] hm]
    rfl
  | k + 1, l, h => by
    have hg := Lib.index_ge l [44]
    rcases Int.lt_or_le (Lib.index l [44]) 0 with g | g
    · have := Lib.count_miss (s := l) (sub := [44]) (by omega)
      omega
    · obtain ⟨i, hi⟩ := Int.eq_ofNat_of_zero_le g
      have hc := Lib.count_hit (s := l) (sub := [44]) (by simp) hi
      have hm : ¬ (Lib.index l [44] == -1) = true := fun e => by have := beq_iff_eq.1 e; omega
      have hi' : Lib.indexByte l 44 = i := by rw [← Lib.index_one]; exact hi
      unfold Lib.splitK
      rw [if_neg hm, hi, acc_hit l [] i hi']
      have e : ((i : Int).toNat + [44].length : Nat) = i + 1 := by simp
      have e1 : Lib.count (l.drop (i + 1)) [44] = k := by
        have : i + ([44] : List UInt8).length = i + 1 := rfl
        rw [this] at hc
        omega
      rw [Int.toNat_natCast, Nat.add_zero, List.nil_append]
      congr 1
      exact split_acc k _ e1
theorem split_is (s : ByteArray) (hs : s.size ≤ 1048576) (k : Nat) : strings_Split.f k s (⟨#[44]⟩ : ByteArray) = some (piecesB s) := by
  unfold strings_Split.f
  rw [if_pos ⟨by omega, by decide⟩]
  congr 1
  have h1 := Lib.splitB_data (⟨#[44]⟩ : ByteArray) 0 (Lib.countB s (⟨#[44]⟩ : ByteArray)) s
  have h2 := split_acc _ s.data.toList rfl
  have h3 : (Lib.splitB (⟨#[44]⟩ : ByteArray) 0 (Lib.countB s (⟨#[44]⟩ : ByteArray)) s).map (·.data.toList) = cutAcc [] s.data.toList := h1.trans h2
  unfold piecesB
  rw [← h3, List.map_map]
  conv => lhs; rw [← List.map_id (Lib.splitB _ _ _ _)]
  apply List.map_congr_left
  intro p _
  exact (mkB_data p).symm

/-- the numbers of pieces, if all are texts of numbers -/
def valsO : List ByteArray → Option (List Int)
  | [] => some []
  | p :: r => if (readDecB p).2 = true then (valsO r).map ((readDecB p).1 :: ·) else none
def resO (acc : List Int) : Option (List Int) → List Int × Bool
  | some vs => (acc ++ vs, true)
  | none => ([], false)
theorem rdOf_get (P : List ByteArray) (i : Nat) (h : i < P.length) : rdOf ByteArray.empty P (i : Int) = P[i] := by
  unfold rdOf; simp [List.getD, List.getElem?_eq_getElem h]
theorem valsO_len : ∀ (P : List ByteArray) (vs : List Int), valsO P = some vs → vs.length = P.length
  | [], vs, h => by cases h; rfl
  | p :: r, vs, h => by
    simp only [valsO] at h
    split at h
    · obtain ⟨us, hu, rfl⟩ := Option.map_eq_some_iff.1 h
      simp [valsO_len r us hu]
    · cases h
theorem resO_cons (acc : List Int) (v : Int) (o : Option (List Int)) : resO (acc ++ [v]) o = resO acc (o.map (v :: ·)) := by
  cases o <;> simp [resO]
theorem run_impl (P : List ByteArray) (hP : P.length ≤ 1048577) (hsz : ∀ p ∈ P, p.size ≤ 1048576) (d : Nat) : ∀ (k i : Nat) (acc : List Int), i ≤ P.length → P.length - i = d → d < k → acc.length ≤ i →
    impl_readList.l0 k acc P (P.length : Int) (i : Int) = some (resO acc (valsO (P.drop i))) := by
  induction d with
  | zero =>
    intro k i acc hi hd hk ha
    obtain ⟨k, rfl⟩ : ∃ m, k = m + 1 := ⟨k - 1, by omega⟩
    simp only [impl_readList.l0]
    rw [if_neg (by omega), List.drop_eq_nil_of_le (by omega)]
    simp [valsO, resO]
  | succ d ih =>
    intro k i acc hi hd hk ha
    obtain ⟨k, rfl⟩ : ∃ m, k = m + 1 := ⟨k - 1, by omega⟩
    have hlt : i < P.length := by omega
    have e : wrap64 ((i : Int) + 1) = ((i + 1 : Nat) : Int) := by unfold wrap64; omega
    have hr : impl_ReadDecimal.f k P[i] = some (readDecB P[i]) := by
      unfold impl_ReadDecimal.f
      rw [if_pos (by have := hsz _ (List.getElem_mem hlt); omega)]
    simp only [impl_readList.l0]
    rw [if_pos (by omega), if_pos (by omega), if_pos (by omega), rdOf_get P i hlt, hr, e, List.drop_eq_getElem_cons hlt]
    simp only [Option.bind_some, valsO]
    by_cases hb : (readDecB P[i]).2 = true
    · rw [if_pos hb, if_pos hb, if_pos (by omega), ih k (i + 1) _ (by omega) (by omega) (by omega) (by simp; omega), resO_cons]
    · rw [if_neg hb, if_neg hb]
      rfl
theorem run_spec (P : List ByteArray) (hP : P.length ≤ 64) (d : Nat) : ∀ (k i : Nat) (acc : List Int), i ≤ P.length → P.length - i = d → d + 64 ≤ k → acc.length ≤ i →
    spec_l01Numbers.l0 k acc P (i : Int) = some (resO acc (valsO (P.drop i))) := by
  induction d with
  | zero =>
    intro k i acc hi hd hk ha
    obtain ⟨k, rfl⟩ : ∃ m, k = m + 1 := ⟨k - 1, by omega⟩
    simp only [spec_l01Numbers.l0]
    rw [if_neg (by omega), List.drop_eq_nil_of_le (by omega)]
    simp [valsO, resO]
  | succ d ih =>
    intro k i acc hi hd hk ha
    obtain ⟨k, rfl⟩ : ∃ m, k = m + 1 := ⟨k - 1, by omega⟩
    have hlt : i < P.length := by omega
    have e : wrap64 ((i : Int) + 1) = ((i + 1 : Nat) : Int) := by unfold wrap64; omega
    simp only [spec_l01Numbers.l0]
    rw [if_pos (by omega), if_pos (by omega), rdOf_get P i hlt, value_is P[i] k (by omega), e, List.drop_eq_getElem_cons hlt]
    simp only [Option.bind_some, valsO]
    by_cases hb : (readDecB P[i]).2 = true
    · rw [if_pos hb, if_pos hb, if_pos (by omega), ih k (i + 1) _ (by omega) (by omega) (by omega) (by simp; omega), resO_cons]
    · rw [if_neg hb, if_neg hb]
      rfl

/-- the answer -/
def readListB (s : ByteArray) : List Int × Bool :=
  if s.toList = ([110, 111, 110, 101] : List UInt8) then ([], true)
  else if (piecesB s).length ≤ 64 then resO [] (valsO (piecesB s)) else ([], false)
theorem spec_list (s : ByteArray) (hs : s.size ≤ 1048576) (k : Nat) (hk : s.size + 200 ≤ k) : spec_ReadList.f k s = some (readListB s) := by
  unfold spec_ReadList.f spec_l01Numbers.f readListB
  simp only [Option.bind_some]
  by_cases hn : s.toList = ([110, 111, 110, 101] : List UInt8)
  · rw [if_pos hn, if_pos hn]; rfl
  · rw [if_neg hn, if_neg hn, cut_is s hs k (by omega)]
    simp only [Option.bind_some]
    by_cases hp : (piecesB s).length ≤ 64
    · rw [if_neg (by omega), if_pos hp]
      have := run_spec (piecesB s) hp (piecesB s).length k 0 [] (Nat.zero_le _) (by omega) (by omega) (Nat.le_refl _)
      rw [show (0 : Int) = ((0 : Nat) : Int) from rfl, this, List.drop_zero]
      rfl
    · rw [if_pos (by omega), if_neg hp]
      rfl
theorem impl_list (s : ByteArray) (hs : s.size ≤ 1048576) (k : Nat) (hk : s.size + 200 ≤ k) : impl_ReadList.f k s = some (readListB s) := by
  unfold impl_ReadList.f impl_readList.f impl_pieces.f readListB
  by_cases hn : s.toList = ([110, 111, 110, 101] : List UInt8)
  · rw [if_pos hn, if_pos hn]
    simp only [Option.bind_some]
    have := run_impl [] (by simp) (fun p hp => by cases hp) 0 k 0 [] (Nat.zero_le _) rfl (by omega) (Nat.le_refl _)
    rw [show (0 : Int) = ((0 : Nat) : Int) from rfl]
    rw [show (([] : List ByteArray).length : Int) = (([] : List ByteArray).length : Int) from rfl] at this
    rw [this]
    simp [valsO, resO]
  · rw [if_neg hn, if_neg hn, split_is s hs k]
    simp only [Option.bind_some]
    have := run_impl (piecesB s) (by have := pieces_len s; omega) (fun p hp => by have := pieces_mem s p hp; omega) (piecesB s).length k 0 [] (Nat.zero_le _) (by omega) (by have := pieces_len s; omega) (Nat.le_refl _)
    rw [show (0 : Int) = ((0 : Nat) : Int) from rfl, this, List.drop_zero]
    simp only [Option.bind_some]
    cases hv : valsO (piecesB s) with
    | none => simp [resO]
    | some vs =>
      have hl := valsO_len _ _ hv
      by_cases hp : (piecesB s).length ≤ 64
      · rw [if_pos hp, show resO [] (some vs) = (vs, true) from rfl]
        dsimp only
        rw [if_pos rfl, if_neg (by omega)]
      · rw [if_neg hp, show resO [] (some vs) = (vs, true) from rfl]
        dsimp only
        rw [if_pos rfl, if_pos (by omega)]
theorem readListB_len (s : ByteArray) : (readListB s).1.length ≤ 64 := by
  unfold readListB
  split
  · simp
  · split
    · rename_i hp
      cases hv : valsO (piecesB s) with
      | none => simp [resO]
      | some vs =>
        have hl := valsO_len _ _ hv
        simp only [resO, List.nil_append]
        omega
    · simp
theorem ReadList_pure : laws_FnExactReadList.Pure := by
  intro s _
  by_cases g : (s.size : Int) > 1048576
  · exact ⟨0, by unfold laws_FnExactReadList.f; rw [if_pos g]⟩
  · have hs : s.size ≤ 1048576 := by omega
    refine ⟨s.size + 200 + 1 + 1, ?_⟩
    have e1 : ∀ k, s.size + 200 ≤ k → spec_ReadList.f k s = some (readListB s) := fun k hk => spec_list s hs k hk
    have e2 : ∀ k, s.size + 200 ≤ k → impl_ReadList.f k s = some (readListB s) := fun k hk => impl_list s hs k hk
    have hl := readListB_len s
    generalize readListB s = R at *
    obtain ⟨r, b⟩ := R
    simp only at hl
    generalize hK : s.size + 200 = K at *
    have hK2 : 65 ≤ K := by omega
    have q : ∀ k, 65 ≤ k → laws_eqInt64S.f k r r = some true := fun k hk => eq_is r (by omega) k (by omega)
    obtain ⟨rm, n1, n2, n3⟩ := mark_is r 1 (by omega) (by omega) (by omega) (K + 1) (by omega)
    have q1 : ∀ k, 65 ≤ k → laws_heldInt64S.f k rm 1 = some (1 + (r.length : Int)) := fun k hk => by
      rw [← n2]; exact held_is rm 1 (by omega) (by omega) (by omega) (fun j hj => n3 j (by omega)) k (by omega)
    have p1 : ¬ (1 + (r.length : Int)) < 0 := by omega
    have j1 : laws_FnExactReadList.j1 (K + 1) rm (1 + (r.length : Int)) false = some true := by
      simp only [laws_FnExactReadList.j1, Bool.false_eq_true, if_false]
      rw [q1 K (by omega)]; simp only [Option.bind_some]
      rw [if_neg p1, if_pos trivial]
    have j0 : laws_FnExactReadList.j0 (K + 1 + 1) s r b r false = some true := by
      simp only [laws_FnExactReadList.j0, Bool.false_eq_true, if_false]
      rw [n1]; simp only [Option.bind_some]
      rw [q1 (K + 1) (by omega)]; simp only [Option.bind_some]
      rw [if_neg p1, if_pos trivial, e2 (K + 1) (by omega)]; simp only [Option.bind_some]
      rw [q (K + 1) (by omega)]; simp only [Option.bind_some, if_true, bne_self_eq_false]
      exact j1
    unfold laws_FnExactReadList.f
    rw [if_neg g, e1 (K + 1 + 1) (by omega)]; simp only [Option.bind_some]
    rw [e2 (K + 1 + 1) (by omega)]; simp only [Option.bind_some]
    rw [q (K + 1 + 1) (by omega)]; simp only [Option.bind_some, if_true, bne_self_eq_false]
    exact j0
end Go.Proofs.YtempeenjpaldaaaDoor.SDec
