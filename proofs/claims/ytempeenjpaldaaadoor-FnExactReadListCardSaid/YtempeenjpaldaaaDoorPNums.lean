/- The law's copies, comparisons and marks of lists of integers, in plain lists. -/
import Derived.Test.YtempeenjpaldaaaDoorSDec2
namespace Go.Proofs.YtempeenjpaldaaaDoor.SDec
open Go.RowKit Go.Proofs.YtempeenjpaldaaaDoorW.PrintWords Go.Proofs.YtempeenjpaldaaaDoorW.PrintLast

theorem next_is {i : Int} {n : Nat} (h0 : 0 ≤ i) (h : i < (n : Int)) (hn : n ≤ 140737488351232) : wrap64 (i + 1) = i + 1 := by
  unfold wrap64
  omega

theorem rd_get (xs : List Int) (i : Nat) (h : i < xs.length) : rd xs (i : Int) = xs[i] := by
  unfold rd; simp [List.getD, List.getElem?_eq_getElem h]

theorem toS_tells (xs : List Int) (hn : xs.length ≤ 140737488351232) (d : Nat) : ∀ (k i : Nat) (ys : List Int), ys.length = xs.length → (∀ j, j < i → ys[j]? = xs[j]?) → i ≤ xs.length → xs.length - i = d → d < k →
    laws_toInt64S.l0 k xs ys (i : Int) = some xs := by
  induction d with
  | zero =>
    intro k i ys hl hj hi hd hk
    obtain ⟨k, rfl⟩ : ∃ m, k = m + 1 := ⟨k - 1, by omega⟩
    have h1 : ¬ (i : Int) < (xs.length : Int) := by omega
    simp only [laws_toInt64S.l0]
    rw [if_neg h1]
    congr 1
    refine List.ext_getElem? fun j => ?_
    rcases Nat.lt_or_ge j i with g | g
    · exact hj j g
    · rw [List.getElem?_eq_none (by omega), List.getElem?_eq_none (by omega)]
  | succ d ih =>
    intro k i ys hl hj hi hd hk
    obtain ⟨k, rfl⟩ : ∃ m, k = m + 1 := ⟨k - 1, by omega⟩
    have h1 : (i : Int) < (xs.length : Int) := by omega
    have h2 : (0 : Int) ≤ (i : Int) := by omega
    have h3 : (i : Int) < (ys.length : Int) := by omega
    simp only [laws_toInt64S.l0]
    rw [if_pos h1, if_pos h2, if_pos h3, next_is h2 h1 hn]
    have e : ((i : Int) + 1) = ((i + 1 : Nat) : Int) := by omega
    rw [e]
    refine ih k (i + 1) _ (by simp [hl]) ?_ (by omega) (by omega) (by omega)
    intro j hj'
    rw [Int.toNat_natCast]
    rcases Nat.lt_or_ge j i with g | g
    · rw [List.getElem?_set_ne (by omega)]; exact hj j g
    · obtain rfl : j = i := by omega
      rw [List.getElem?_set_self (by omega), rd_get xs j (by omega), List.getElem?_eq_getElem (by omega)]

theorem toS_is (xs : List Int) (hn : xs.length ≤ 1048576) (k : Nat) (hk : xs.length < k) : laws_toInt64S.f k xs = some xs := by
  unfold laws_toInt64S.f
  have h1 : (0 : Int) ≤ (xs.length : Int) := by omega
  have h2 : ((xs.length : Int) : Int).toNat ≤ 35184372088832 := by omega
  rw [if_pos h1, if_pos h2]
  exact toS_tells xs (by omega) xs.length k 0 _ (by simp) (fun j hj => by omega) (by omega) (by omega) hk

theorem eq_tells (xs : List Int) (hn : xs.length ≤ 140737488351232) (d : Nat) : ∀ (k i : Nat), i ≤ xs.length → xs.length - i = d → d < k → laws_eqInt64S.l0 k xs xs (i : Int) = some true := by
  induction d with
  | zero =>
    intro k i hi hd hk
    obtain ⟨k, rfl⟩ : ∃ m, k = m + 1 := ⟨k - 1, by omega⟩
    have h1 : ¬ (i : Int) < (xs.length : Int) := by omega
    simp only [laws_eqInt64S.l0]
    rw [if_neg h1]
  | succ d ih =>
    intro k i hi hd hk
    obtain ⟨k, rfl⟩ : ∃ m, k = m + 1 := ⟨k - 1, by omega⟩
    have h1 : (i : Int) < (xs.length : Int) := by omega
    have h2 : (0 : Int) ≤ (i : Int) := by omega
    simp only [laws_eqInt64S.l0]
    rw [if_pos h1, if_pos h2, if_pos h1, if_pos trivial, next_is h2 h1 hn]
    have e : ((i : Int) + 1) = ((i + 1 : Nat) : Int) := by omega
    rw [e]
    exact ih k (i + 1) (by omega) (by omega) (by omega)

theorem eq_is (xs : List Int) (hn : xs.length ≤ 1048576) (k : Nat) (hk : xs.length < k) : laws_eqInt64S.f k xs xs = some true := by
  unfold laws_eqInt64S.f
  rw [if_pos rfl]
  exact eq_tells xs (by omega) xs.length k 0 (by omega) (by omega) hk

end Go.Proofs.YtempeenjpaldaaaDoor.SDec
