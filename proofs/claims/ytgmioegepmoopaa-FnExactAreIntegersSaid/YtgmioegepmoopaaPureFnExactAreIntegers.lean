/- This proves that the law FnExactAreIntegers returns true for every list of int64: the program's AreIntegers and the reference's answer the same, and leave the list alone. No condition. -/
import Derived.Test.YtgmioegepmoopaaPFnExactAreIntegersx1
import Derived.Test.YtgmioegepmoopaaWSized
namespace Go.Proofs.Ytgmioegepmoopaa.PrintWords
open Go.ChangeShapes Go.WideShapes
/-- the print's lemma, under the name by which the printed row calls it -/
theorem sized_ints {H : Type} {enc : TypeId × Value → H} {P : Program} {W : World} {base : Nat} {spare : Nat → Bool} {held : Bool} {t e : TypeId} {k : IntKind} {a : Option Addr} {len cap : Nat} {d : DataW H} {ps : List MemPlace} {ts : List TypeId} {ds : List (DataW H)} {j : Nat}
    (hsz : (DataW.weightsEach P ts ds).all (· ≤ reachBytes) = true) (ht : ts[j]? = some t) (hd : ds[j]? = some d) (hu : P.underlying t = some (.slice e)) (he : P.underlying e = some (.int k)) (hc : P.cellsOf e = 1) {B : Nat} (hB : P.bytesOf e = B)
    (h : DataW.Trod enc P W base spare held t (.slice a len cap) d ps) : len * B ≤ 140737488351232 :=
  Go.Proofs.YtgmioegepmoopaaW.PrintWords.sized_ints hsz ht hd hu he hc hB h
end Go.Proofs.Ytgmioegepmoopaa.PrintWords
namespace Go.Proofs.Ytgmioegepmoopaa.Pure.ofFnExactAreIntegers
open Go.RowKit Go.Proofs.Ytgmioegepmoopaa.PFnExactAreIntegers Go.Proofs.YtgmioegepmoopaaW.PrintWords Go.Proofs.YtgmioegepmoopaaW.PrintLast

theorem next_is {i : Int} {n : Nat} (h0 : 0 ≤ i) (h : i < (n : Int)) (hn : n ≤ 140737488351232) : wrap64 (i + 1) = i + 1 := by
  unfold wrap64
  omega

theorem rd_get (xs : List Int) (i : Nat) (h : i < xs.length) : rd xs (i : Int) = xs[i] := by
  unfold rd; simp [List.getD, List.getElem?_eq_getElem h]

theorem toS_tells (xs : List Int) (hn : xs.length ≤ 140737488351232) (d : Nat) : ∀ (k i : Nat) (ys : List Int), ys.length = xs.length → (∀ j, j < i → ys[j]? = xs[j]?) → i ≤ xs.length → xs.length - i = d → d < k →
    laws_toInt64S.l0 k xs ys (i : Int) = some xs := by
  induction d with
  | zero =>
    intro k i ys hl hj hi hd hk
    obtain ⟨k, rfl⟩ : ∃ m, k = m + 1 := ⟨k - 1, by omega⟩
    have h1 : ¬ (i : Int) < (xs.length : Int) := by omega
    simp only [laws_toInt64S.l0]
    rw [if_neg h1]
    congr 1
    refine List.ext_getElem? fun j => ?_
    rcases Nat.lt_or_ge j i with g | g
    · exact hj j g
    · rw [List.getElem?_eq_none (by omega), List.getElem?_eq_none (by omega)]
  | succ d ih =>
    intro k i ys hl hj hi hd hk
    obtain ⟨k, rfl⟩ : ∃ m, k = m + 1 := ⟨k - 1, by omega⟩
    have h1 : (i : Int) < (xs.length : Int) := by omega
    have h2 : (0 : Int) ≤ (i : Int) := by omega
    have h3 : (i : Int) < (ys.length : Int) := by omega
    simp only [laws_toInt64S.l0]
    rw [if_pos h1, if_pos h2, if_pos h3, next_is h2 h1 hn]
    have e : ((i : Int) + 1) = ((i + 1 : Nat) : Int) := by omega
    rw [e]
    refine ih k (i + 1) _ (by simp [hl]) ?_ (by omega) (by omega) (by omega)
    intro j hj'
    rw [Int.toNat_natCast]
    rcases Nat.lt_or_ge j i with g | g
    · rw [List.getElem?_set_ne (by omega)]; exact hj j g
    · obtain rfl : j = i := by omega
      rw [List.getElem?_set_self (by omega), rd_get xs j (by omega), List.getElem?_eq_getElem (by omega)]

theorem toS_is (xs : List Int) (hn : xs.length ≤ 1048576) (k : Nat) (hk : xs.length < k) : laws_toInt64S.f k xs = some xs := by
  unfold laws_toInt64S.f
  have h1 : (0 : Int) ≤ (xs.length : Int) := by omega
  have h2 : ((xs.length : Int) : Int).toNat ≤ 35184372088832 := by omega
  rw [if_pos h1, if_pos h2]
  exact toS_tells xs (by omega) xs.length k 0 _ (by simp) (fun j hj => by omega) (by omega) (by omega) hk

theorem eq_tells (xs : List Int) (hn : xs.length ≤ 140737488351232) (d : Nat) : ∀ (k i : Nat), i ≤ xs.length → xs.length - i = d → d < k → laws_eqInt64S.l0 k xs xs (i : Int) = some true := by
  induction d with
  | zero =>
    intro k i hi hd hk
    obtain ⟨k, rfl⟩ : ∃ m, k = m + 1 := ⟨k - 1, by omega⟩
    have h1 : ¬ (i : Int) < (xs.length : Int) := by omega
    simp only [laws_eqInt64S.l0]
    rw [if_neg h1]
  | succ d ih =>
    intro k i hi hd hk
    obtain ⟨k, rfl⟩ : ∃ m, k = m + 1 := ⟨k - 1, by omega⟩
    have h1 : (i : Int) < (xs.length : Int) := by omega
    have h2 : (0 : Int) ≤ (i : Int) := by omega
    simp only [laws_eqInt64S.l0]
    rw [if_pos h1, if_pos h2, if_pos h1, if_pos trivial, next_is h2 h1 hn]
    have e : ((i : Int) + 1) = ((i + 1 : Nat) : Int) := by omega
    rw [e]
    exact ih k (i + 1) (by omega) (by omega) (by omega)

theorem eq_is (xs : List Int) (hn : xs.length ≤ 1048576) (k : Nat) (hk : xs.length < k) : laws_eqInt64S.f k xs xs = some true := by
  unfold laws_eqInt64S.f
  rw [if_pos rfl]
  exact eq_tells xs (by omega) xs.length k 0 (by omega) (by omega) hk

theorem bound_both (xs : List Int) (hn : xs.length ≤ 140737488351232) (m : Int) (d : Nat) : ∀ (k i : Nat), i ≤ xs.length → xs.length - i = d → d < k →
    ∃ r, spec_l02Bound.l0 k xs m (i : Int) = some r ∧ impl_areWithin.l0 k m xs (xs.length : Int) (i : Int) = some r := by
  induction d with
  | zero =>
    intro k i hi hd hk
    obtain ⟨k, rfl⟩ : ∃ m, k = m + 1 := ⟨k - 1, by omega⟩
    have h1 : ¬ (i : Int) < (xs.length : Int) := by omega
    simp only [spec_l02Bound.l0, impl_areWithin.l0]
    rw [if_neg h1, if_neg h1]
    exact ⟨_, rfl, rfl⟩
  | succ d ih =>
    intro k i hi hd hk
    obtain ⟨k, rfl⟩ : ∃ m, k = m + 1 := ⟨k - 1, by omega⟩
    have h1 : (i : Int) < (xs.length : Int) := by omega
    have h2 : (0 : Int) ≤ (i : Int) := by omega
    have e : ((i : Int) + 1) = ((i + 1 : Nat) : Int) := by omega
    simp only [spec_l02Bound.l0, impl_areWithin.l0]
    rw [if_pos h1, if_pos h1, if_pos h2, if_pos h2, if_pos h1, next_is h2 h1 hn, e]
    have hw : ∀ a b c, impl_within.f a b c = spec_l00In.f a b c := fun _ _ _ => rfl
    rw [hw]
    obtain ⟨b, hb⟩ : ∃ b, spec_l00In.f (rd xs (i : Int)) (wrap64 (-m)) m = some b := by unfold spec_l00In.f; split <;> exact ⟨_, rfl⟩
    rw [hb]
    simp only [Option.bind_some]
    cases b
    · exact ⟨false, rfl, rfl⟩
    · exact ih k (i + 1) (by omega) (by omega) (by omega)

theorem are_both (xs : List Int) (hn : xs.length ≤ 1048576) (k : Nat) (hk : xs.length < k) : ∃ r, spec_l02Integers.f k xs = some r ∧ impl_AreIntegers.f k xs = some r := by
  obtain ⟨r, h1, h2⟩ := bound_both xs (by omega) 1000000 xs.length k 0 (by omega) (by omega) hk
  have h1' : spec_l02Bound.f k xs 1000000 = some r := h1
  have h2' : impl_areWithin.f k xs 1000000 = some r := h2
  unfold spec_l02Integers.f impl_AreIntegers.f impl_within.f
  by_cases a : (xs.length : Int) ≥ 1
  · by_cases b : (xs.length : Int) ≤ 128
    · exact ⟨r, by simp [a, b, h1'], by simp [a, b, h2']⟩
    · exact ⟨false, by simp [a, b], by simp [a, b]⟩
  · exact ⟨false, by simp [a], by simp [a]⟩

theorem all : laws_FnExactAreIntegers.Pure := by
  intro l _ _ _
  by_cases g : (l.length : Int) > 1048576
  · exact ⟨0, by unfold laws_FnExactAreIntegers.f; rw [if_pos g]⟩
  · have hn : l.length ≤ 1048576 := by omega
    refine ⟨l.length + 1, ?_⟩
    obtain ⟨r, h1, h2⟩ := are_both l hn (l.length + 1) (by omega)
    unfold laws_FnExactAreIntegers.f spec_AreIntegers.f
    rw [if_neg g, toS_is l hn _ (by omega)]
    simp only [Option.bind_some]
    rw [h1]; simp only [Option.bind_some]
    rw [h2]; simp only [Option.bind_some]
    rw [eq_is l hn _ (by omega)]
    simp

end Go.Proofs.Ytgmioegepmoopaa.Pure.ofFnExactAreIntegers
namespace Go.Proofs.Ytgmioegepmoopaa.Pure
open Go.Proofs.Ytgmioegepmoopaa.PFnExactAreIntegers
theorem FnExactAreIntegers : laws_FnExactAreIntegers.Pure := ofFnExactAreIntegers.all
end Go.Proofs.Ytgmioegepmoopaa.Pure
