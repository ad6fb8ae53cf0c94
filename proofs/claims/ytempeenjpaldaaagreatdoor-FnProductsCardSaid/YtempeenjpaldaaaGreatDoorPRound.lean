/- The text of numbers is read back: as their bits, in plain lists. -/
import Derived.Test.YtempeenjpaldaaaGreatDoorPNum
import Derived.Test.YtempeenjpaldaaaGreatDoorFlA
namespace Go.Proofs.YtempeenjpaldaaaGreatDoor.SNum
open Go.RowKit Go.Proofs.YtempeenjpaldaaaGreatDoorW.PrintWords Go.Proofs.YtempeenjpaldaaaGreatDoorW.PrintLast Go.Proofs.YtempeenjpaldaaaGreatDoorW.PrintMore Fl Hx
theorem cut_app : ∀ (p cur r : List UInt8), (∀ c ∈ p, c ≠ 44) → cutAcc cur (p ++ r) = cutAcc (cur ++ p) r
  | [], cur, r, _ => by rw [List.nil_append, List.append_nil]
  | c :: p, cur, r, h => by
    rw [List.cons_append, cutAcc, if_neg (h c List.mem_cons_self), cut_app p (cur ++ [c]) r (fun d hd => h d (List.mem_cons_of_mem _ hd)), List.append_assoc]; rfl
theorem cut_tail : ∀ (l : List (List UInt8)) (cur : List UInt8), (∀ x ∈ l, ∀ c ∈ x, c ≠ 44) → cutAcc cur (Lib.joinTail [44] l) = cur :: l
  | [], cur, _ => rfl
  | y :: l, cur, h => by
    have e : Lib.joinTail [44] (y :: l) = 44 :: (y ++ Lib.joinTail [44] l) := by simp [Lib.joinTail]
    rw [e, cutAcc, if_pos rfl, cut_app y [] _ (h y List.mem_cons_self), List.nil_append, cut_tail l y (fun x hx => h x (List.mem_cons_of_mem _ hx))]
theorem cut_join (x : List UInt8) (l : List (List UInt8)) (h : ∀ y ∈ x :: l, ∀ c ∈ y, c ≠ 44) : cutAcc [] (Lib.join (x :: l) [44]) = x :: l := by
  rw [Lib.join_cons, cut_app x [] _ (h x List.mem_cons_self), List.nil_append, cut_tail l x (fun y hy => h y (List.mem_cons_of_mem _ hy))]
theorem hexd_ne_all : (List.range 16).all (fun d => hexd d != 44) = true := by decide +kernel
theorem H_ne : ∀ (k u : Nat), ∀ c ∈ H k u, c ≠ 44
  | 0, _, c, h => by cases h
  | k + 1, u, c, h => by
    rw [H] at h
    rcases List.mem_append.1 h with h | h
    · exact H_ne k _ c h
    · rw [List.mem_singleton.1 h]
      have := (List.all_eq_true.1 hexd_ne_all) (u % 16) (List.mem_range.2 (Nat.mod_lt _ (by decide)))
      exact bne_iff_ne.1 this
theorem tL_ne {n : Int} (h : InV n) : ∀ c ∈ tL n, c ≠ 44 := by
  unfold tL
  rw [hex8_is (bits_lt h)]
  exact H_ne 8 _
theorem bits_bits (x : Nat) : bitsN (bitsN x).toNat = bitsN x := by
  by_cases hn : isN .f32 x = true
  · rw [bitsN_nan hn]
    exact bitsN_nan isN_quiet
  · have hn' : isN .f32 x = false := by simpa using hn
    rw [bitsN_of hn', Int.toNat_natCast, bitsN_of hn']
theorem good_tB {n : Int} (h : InV n) : good (tB n) = some (bitsN n.toNat) := by
  unfold good
  rw [if_pos (tB_size h), tB_list]
  unfold tL
  rw [parse_hex8 (bits_lt h), Option.bind_some]
  have hr := bitsN_range h
  have e : (((bitsN n.toNat).toNat : Nat) : Int) = bitsN n.toNat := by omega
  rw [bits_bits, if_pos e.symm, e]
theorem vals_tB : ∀ (l : List Int), (∀ n ∈ l, InV n) → valsO (l.map tB) = some (l.map fun n => bitsN n.toNat)
  | [], _ => rfl
  | n :: l, h => by
    rw [List.map_cons, valsO, good_tB (h n List.mem_cons_self), Option.bind_some, vals_tB l (fun m hm => h m (List.mem_cons_of_mem _ hm))]; rfl
theorem round (xs : List Int) (hin : ∀ n ∈ xs, InV n) (hl : xs.length ≤ 256) : ∃ t, impl_NumbersText.f 100000 xs = some (t, true) ∧ impl_ReadNumbers.f 100000 t = some (xs.map fun n => bitsN n.toNat, true) := by
  rcases xs with _ | ⟨x, l⟩
  · refine ⟨⟨#[110, 111, 110, 101]⟩, ?_, ?_⟩
    · unfold impl_NumbersText.f
      rw [if_neg (by simp)]
      unfold impl_NumbersText.l0
      rw [if_neg (by simp)]
      rfl
    · have hs : (⟨#[110, 111, 110, 101]⟩ : ByteArray).size = 4 := rfl
      rw [impl_reads _ (by rw [hs]; omega) _ (by rw [hs]; omega)]
      unfold readB
      rw [if_pos (by decide +kernel)]
      rfl
  · obtain ⟨t, ht, hu⟩ := text_list x l hin hl 100000 (by omega)
    refine ⟨t, ht, ?_⟩
    have hxl := tL_len (hin x List.mem_cons_self)
    have htl := joinTail_length l (fun n hn => hin n (List.mem_cons_of_mem _ hn))
    have hlen : t.data.toList.length = 8 + (Lib.joinTail [44] (l.map tL)).length := by
      rw [hu, List.map_cons, Lib.join_cons, List.length_append, hxl]
    have hsz : t.size ≤ 1048576 := by
      rw [← data_length, hlen]
      rw [List.length_cons] at hl
      omega
    have hsz2 : t.size ≤ 70000 := by
      rw [← data_length, hlen]
      rw [List.length_cons] at hl
      omega
    rw [impl_reads t hsz 100000 (by omega)]
    have hP : piecesB t = (x :: l).map tB := by
      unfold piecesB
      rw [hu, List.map_cons, cut_join _ _ (fun y hy => by
        rw [← List.map_cons] at hy
        obtain ⟨n, hn, rfl⟩ := List.mem_map.1 hy
        exact tL_ne (hin n hn)), ← List.map_cons, List.map_map]
      rfl
    unfold readB
    rw [if_neg (fun e => by
      have h1 := congrArg List.length e
      rw [Lib.toList_data, hlen] at h1
      have h2 : ([110, 111, 110, 101] : List UInt8).length = 4 := rfl
      rw [h2] at h1
      omega), hP, if_neg (by rw [List.length_map]; omega), vals_tB _ hin]
    rfl
end Go.Proofs.YtempeenjpaldaaaGreatDoor.SNum
