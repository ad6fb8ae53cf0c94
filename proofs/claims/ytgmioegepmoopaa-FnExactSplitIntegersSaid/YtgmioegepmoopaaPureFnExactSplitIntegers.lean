/- This proves that the law FnExactSplitIntegers returns true for every list of int64: the program's SplitIntegers and the reference's answer the same, leave the list alone and share no memory. No condition. -/
import Derived.Test.YtgmioegepmoopaaPFnExactSplitIntegersx3
import Derived.Test.YtgmioegepmoopaaWSized
namespace Go.Proofs.Ytgmioegepmoopaa.PrintWords
open Go.ChangeShapes Go.WideShapes
/-- the print's lemma, under the name by which the printed row calls it -/
theorem sized_ints {H : Type} {enc : TypeId × Value → H} {P : Program} {W : World} {base : Nat} {spare : Nat → Bool} {held : Bool} {t e : TypeId} {k : IntKind} {a : Option Addr} {len cap : Nat} {d : DataW H} {ps : List MemPlace} {ts : List TypeId} {ds : List (DataW H)} {j : Nat}
    (hsz : (DataW.weightsEach P ts ds).all (· ≤ reachBytes) = true) (ht : ts[j]? = some t) (hd : ds[j]? = some d) (hu : P.underlying t = some (.slice e)) (he : P.underlying e = some (.int k)) (hc : P.cellsOf e = 1) {B : Nat} (hB : P.bytesOf e = B)
    (h : DataW.Trod enc P W base spare held t (.slice a len cap) d ps) : len * B ≤ 140737488351232 :=
  Go.Proofs.YtgmioegepmoopaaW.PrintWords.sized_ints hsz ht hd hu he hc hB h
end Go.Proofs.Ytgmioegepmoopaa.PrintWords
namespace Go.Proofs.Ytgmioegepmoopaa.Pure.ofFnExactSplitIntegers
open Go.RowKit Go.Proofs.Ytgmioegepmoopaa.PFnExactSplitIntegers Go.Proofs.YtgmioegepmoopaaW.PrintWords Go.Proofs.YtgmioegepmoopaaW.PrintLast

theorem next_is {i : Int} {n : Nat} (h0 : 0 ≤ i) (h : i < (n : Int)) (hn : n ≤ 140737488351232) : wrap64 (i + 1) = i + 1 := by
  unfold wrap64
  omega

theorem rd_get (xs : List Int) (i : Nat) (h : i < xs.length) : rd xs (i : Int) = xs[i] := by
  unfold rd; simp [List.getD, List.getElem?_eq_getElem h]

theorem toS_tells (xs : List Int) (hn : xs.length ≤ 140737488351232) (d : Nat) : ∀ (k i : Nat) (ys : List Int), ys.length = xs.length → (∀ j, j < i → ys[j]? = xs[j]?) → i ≤ xs.length → xs.length - i = d → d < k →
    laws_toInt64S.l0 k xs ys (i : Int) = some xs := by
  induction d with
  | zero =>
    intro k i ys hl hj hi hd hk
    obtain ⟨k, rfl⟩ : ∃ m, k = m + 1 := ⟨k - 1, by omega⟩
    have h1 : ¬ (i : Int) < (xs.length : Int) := by omega
    simp only [laws_toInt64S.l0]
    rw [if_neg h1]
    congr 1
    refine List.ext_getElem? fun j => ?_
    rcases Nat.lt_or_ge j i with g | g
    · exact hj j g
    · rw [List.getElem?_eq_none (by omega), List.getElem?_eq_none (by omega)]
  | succ d ih =>
    intro k i ys hl hj hi hd hk
    obtain ⟨k, rfl⟩ : ∃ m, k = m + 1 := ⟨k - 1, by omega⟩
    have h1 : (i : Int) < (xs.length : Int) := by omega
    have h2 : (0 : Int) ≤ (i : Int) := by omega
    have h3 : (i : Int) < (ys.length : Int) := by omega
    simp only [laws_toInt64S.l0]
    rw [if_pos h1, if_pos h2, if_pos h3, next_is h2 h1 hn]
    have e : ((i : Int) + 1) = ((i + 1 : Nat) : Int) := by omega
    rw [e]
    refine ih k (i + 1) _ (by simp [hl]) ?_ (by omega) (by omega) (by omega)
    intro j hj'
    rw [Int.toNat_natCast]
    rcases Nat.lt_or_ge j i with g | g
    · rw [List.getElem?_set_ne (by omega)]; exact hj j g
    · obtain rfl : j = i := by omega
      rw [List.getElem?_set_self (by omega), rd_get xs j (by omega), List.getElem?_eq_getElem (by omega)]

theorem toS_is (xs : List Int) (hn : xs.length ≤ 1048576) (k : Nat) (hk : xs.length < k) : laws_toInt64S.f k xs = some xs := by
  unfold laws_toInt64S.f
  have h1 : (0 : Int) ≤ (xs.length : Int) := by omega
  have h2 : ((xs.length : Int) : Int).toNat ≤ 35184372088832 := by omega
  rw [if_pos h1, if_pos h2]
  exact toS_tells xs (by omega) xs.length k 0 _ (by simp) (fun j hj => by omega) (by omega) (by omega) hk

theorem eq_tells (xs : List Int) (hn : xs.length ≤ 140737488351232) (d : Nat) : ∀ (k i : Nat), i ≤ xs.length → xs.length - i = d → d < k → laws_eqInt64S.l0 k xs xs (i : Int) = some true := by
  induction d with
  | zero =>
    intro k i hi hd hk
    obtain ⟨k, rfl⟩ : ∃ m, k = m + 1 := ⟨k - 1, by omega⟩
    have h1 : ¬ (i : Int) < (xs.length : Int) := by omega
    simp only [laws_eqInt64S.l0]
    rw [if_neg h1]
  | succ d ih =>
    intro k i hi hd hk
    obtain ⟨k, rfl⟩ : ∃ m, k = m + 1 := ⟨k - 1, by omega⟩
    have h1 : (i : Int) < (xs.length : Int) := by omega
    have h2 : (0 : Int) ≤ (i : Int) := by omega
    simp only [laws_eqInt64S.l0]
    rw [if_pos h1, if_pos h2, if_pos h1, if_pos trivial, next_is h2 h1 hn]
    have e : ((i : Int) + 1) = ((i + 1 : Nat) : Int) := by omega
    rw [e]
    exact ih k (i + 1) (by omega) (by omega) (by omega)

theorem eq_is (xs : List Int) (hn : xs.length ≤ 1048576) (k : Nat) (hk : xs.length < k) : laws_eqInt64S.f k xs xs = some true := by
  unfold laws_eqInt64S.f
  rw [if_pos rfl]
  exact eq_tells xs (by omega) xs.length k 0 (by omega) (by omega) hk

theorem mark_tells (d : Nat) : ∀ (k i : Nat) (xs : List Int) (m : Int), 0 ≤ m → m + d ≤ 1000000000000 → xs.length ≤ 1048576 → i ≤ xs.length → xs.length - i = d → d < k →
    ∃ ys, laws_markInt64S.l0 k xs m (i : Int) = some (m + d, ys) ∧ ys.length = xs.length ∧ (∀ j, j < i → ys[j]? = xs[j]?) ∧ ∀ j : Nat, i ≤ j → j < xs.length → ys[j]? = some (m + ((j - i : Nat) : Int)) := by
  induction d with
  | zero =>
    intro k i xs m h0 hm hn hi hd hk
    obtain ⟨k, rfl⟩ : ∃ m, k = m + 1 := ⟨k - 1, by omega⟩
    have h1 : ¬ (i : Int) < (xs.length : Int) := by omega
    simp only [laws_markInt64S.l0]
    rw [if_neg h1]
    exact ⟨xs, by simp, rfl, fun _ _ => rfl, fun j a b => by omega⟩
  | succ d ih =>
    intro k i xs m h0 hm hn hi hd hk
    obtain ⟨k, rfl⟩ : ∃ m, k = m + 1 := ⟨k - 1, by omega⟩
    have h1 : (i : Int) < (xs.length : Int) := by omega
    have h2 : (0 : Int) ≤ (i : Int) := by omega
    simp only [laws_markInt64S.l0]
    rw [if_pos h1, if_pos h2, next_is h2 h1 (by omega)]
    have e : ((i : Int) + 1) = ((i + 1 : Nat) : Int) := by omega
    have e2 : wrap64 (m + 1) = m + 1 := by unfold wrap64; omega
    rw [e, e2, Int.toNat_natCast]
    obtain ⟨ys, h3, h4, h5, h6⟩ := ih k (i + 1) (xs.set i m) (m + 1) (by omega) (by omega) (by simpa using hn) (by simp; omega) (by simp; omega) (by omega)
    refine ⟨ys, ?_, by simpa using h4, ?_, ?_⟩
    · rw [h3]; congr 2; omega
    · intro j hj
      rw [h5 j (by omega), List.getElem?_set_ne (by omega)]
    · intro j hj hj'
      rcases Nat.lt_or_ge i j with g | g
      · rw [h6 j (by omega) (by simpa using hj')]; congr 1; omega
      · obtain rfl : j = i := by omega
        rw [h5 j (by omega), List.getElem?_set_self (by omega)]; simp

theorem mark_is (xs : List Int) (m : Int) (h0 : 0 ≤ m) (hm : m ≤ 10000000) (hn : xs.length ≤ 1048576) (k : Nat) (hk : xs.length < k) :
    ∃ ys, laws_markInt64S.f k xs m = some (m + xs.length, ys) ∧ ys.length = xs.length ∧ ∀ j : Nat, j < xs.length → ys[j]? = some (m + (j : Int)) := by
  obtain ⟨ys, h1, h2, _, h4⟩ := mark_tells xs.length k 0 xs m h0 (by omega) hn (by omega) (by omega) hk
  exact ⟨ys, h1, h2, fun j hj => by have := h4 j (by omega) hj; simpa using this⟩

theorem held_tells (ys : List Int) (m0 : Int) (hn : ys.length ≤ 1048576) (h0 : 0 ≤ m0) (hm : m0 ≤ 1000000000) (hy : ∀ j : Nat, j < ys.length → ys[j]? = some (m0 + (j : Int))) (d : Nat) : ∀ (k i : Nat), i ≤ ys.length → ys.length - i = d → d < k →
    laws_heldInt64S.l0 k ys (m0 + i) (i : Int) = some (m0 + ys.length) := by
  induction d with
  | zero =>
    intro k i hi hd hk
    obtain ⟨k, rfl⟩ : ∃ m, k = m + 1 := ⟨k - 1, by omega⟩
    have h1 : ¬ (i : Int) < (ys.length : Int) := by omega
    simp only [laws_heldInt64S.l0]
    rw [if_neg h1]
    congr 1; omega
  | succ d ih =>
    intro k i hi hd hk
    obtain ⟨k, rfl⟩ : ∃ m, k = m + 1 := ⟨k - 1, by omega⟩
    have h1 : (i : Int) < (ys.length : Int) := by omega
    have h2 : (0 : Int) ≤ (i : Int) := by omega
    have h3 : rd ys (i : Int) = m0 + i := by
      have := hy i (by omega)
      rw [List.getElem?_eq_getElem (by omega)] at this
      rw [rd_get ys i (by omega)]; exact Option.some.inj this
    have e : ((i : Int) + 1) = ((i + 1 : Nat) : Int) := by omega
    have e2 : wrap64 (m0 + i + 1) = m0 + ((i + 1 : Nat) : Int) := by unfold wrap64; omega
    simp only [laws_heldInt64S.l0]
    rw [if_pos h1, if_pos h2, if_pos h3, next_is h2 h1 (by omega), e2, e]
    exact ih k (i + 1) (by omega) (by omega) (by omega)

theorem held_is (ys : List Int) (m : Int) (hn : ys.length ≤ 1048576) (h0 : 0 ≤ m) (hm : m ≤ 1000000000) (hy : ∀ j : Nat, j < ys.length → ys[j]? = some (m + (j : Int))) (k : Nat) (hk : ys.length < k) :
    laws_heldInt64S.f k ys m = some (m + ys.length) := by
  have := held_tells ys m hn h0 hm hy ys.length k 0 (by omega) (by omega) hk
  unfold laws_heldInt64S.f
  simpa using this

theorem bound_both (xs : List Int) (hn : xs.length ≤ 140737488351232) (m : Int) (d : Nat) : ∀ (k i : Nat), i ≤ xs.length → xs.length - i = d → d < k →
    ∃ r, spec_l02Bound.l0 k xs m (i : Int) = some r ∧ impl_areWithin.l0 k m xs (xs.length : Int) (i : Int) = some r := by
  induction d with
  | zero =>
    intro k i hi hd hk
    obtain ⟨k, rfl⟩ : ∃ m, k = m + 1 := ⟨k - 1, by omega⟩
    have h1 : ¬ (i : Int) < (xs.length : Int) := by omega
    simp only [spec_l02Bound.l0, impl_areWithin.l0]
    rw [if_neg h1, if_neg h1]
    exact ⟨_, rfl, rfl⟩
  | succ d ih =>
    intro k i hi hd hk
    obtain ⟨k, rfl⟩ : ∃ m, k = m + 1 := ⟨k - 1, by omega⟩
    have h1 : (i : Int) < (xs.length : Int) := by omega
    have h2 : (0 : Int) ≤ (i : Int) := by omega
    have e : ((i : Int) + 1) = ((i + 1 : Nat) : Int) := by omega
    simp only [spec_l02Bound.l0, impl_areWithin.l0]
    rw [if_pos h1, if_pos h1, if_pos h2, if_pos h2, if_pos h1, next_is h2 h1 hn, e]
    have hw : ∀ a b c, impl_within.f a b c = spec_l00In.f a b c := fun _ _ _ => rfl
    rw [hw]
    obtain ⟨b, hb⟩ : ∃ b, spec_l00In.f (rd xs (i : Int)) (wrap64 (-m)) m = some b := by unfold spec_l00In.f; split <;> exact ⟨_, rfl⟩
    rw [hb]
    simp only [Option.bind_some]
    cases b
    · exact ⟨false, rfl, rfl⟩
    · exact ih k (i + 1) (by omega) (by omega) (by omega)

theorem are_both (xs : List Int) (hn : xs.length ≤ 1048576) (k : Nat) (hk : xs.length < k) : ∃ r, spec_l02Integers.f k xs = some r ∧ impl_AreIntegers.f k xs = some r := by
  obtain ⟨r, h1, h2⟩ := bound_both xs (by omega) 1000000 xs.length k 0 (by omega) (by omega) hk
  have h1' : spec_l02Bound.f k xs 1000000 = some r := h1
  have h2' : impl_areWithin.f k xs 1000000 = some r := h2
  unfold spec_l02Integers.f impl_AreIntegers.f impl_within.f
  by_cases a : (xs.length : Int) ≥ 1
  · by_cases b : (xs.length : Int) ≤ 128
    · exact ⟨r, by simp [a, b, h1'], by simp [a, b, h2']⟩
    · exact ⟨false, by simp [a, b], by simp [a, b]⟩
  · exact ⟨false, by simp [a], by simp [a]⟩

theorem split_both (xs : List Int) (hn : xs.length ≤ 1048576) (d : Nat) : ∀ (k i : Nat) (ys zs : List Int), ys.length ≤ i → zs.length ≤ i → i ≤ xs.length → xs.length - i = d → d < k →
    ∃ r s, spec_l02Split.l0 k xs ys zs (i : Int) = some (r, s) ∧ impl_split_int64.l0 k ys zs xs (xs.length : Int) (i : Int) = some (r, s) ∧ r.length ≤ xs.length ∧ s.length ≤ xs.length := by
  induction d with
  | zero =>
    intro k i ys zs hy hz hi hd hk
    obtain ⟨k, rfl⟩ : ∃ m, k = m + 1 := ⟨k - 1, by omega⟩
    have h1 : ¬ (i : Int) < (xs.length : Int) := by omega
    simp only [spec_l02Split.l0, impl_split_int64.l0]
    rw [if_neg h1, if_neg h1]
    exact ⟨ys, zs, rfl, rfl, by omega, by omega⟩
  | succ d ih =>
    intro k i ys zs hy hz hi hd hk
    obtain ⟨k, rfl⟩ : ∃ m, k = m + 1 := ⟨k - 1, by omega⟩
    have h1 : (i : Int) < (xs.length : Int) := by omega
    have h2 : (0 : Int) ≤ (i : Int) := by omega
    have e : ((i : Int) + 1) = ((i + 1 : Nat) : Int) := by omega
    have hy' : ys.length < 17592186044416 := by omega
    have hz' : zs.length < 17592186044416 := by omega
    simp only [spec_l02Split.l0, impl_split_int64.l0]
    rw [if_pos h1, if_pos h1, if_pos h2, if_pos h2, if_pos h1, next_is h2 h1 (by omega), e]
    by_cases hm : Int.tmod (i : Int) 2 = 0
    · simp only [if_pos hm, if_pos hy']
      exact ih k (i + 1) _ _ (by simp; omega) (by omega) (by omega) (by omega) (by omega)
    · simp only [if_neg hm, if_pos h2, if_pos hz']
      exact ih k (i + 1) _ _ (by omega) (by simp; omega) (by omega) (by omega) (by omega)

theorem split_is (xs : List Int) (hn : xs.length ≤ 1048576) (k : Nat) (hk : xs.length < k) : ∃ r s b, spec_SplitIntegers.f k xs = some (r, s, b) ∧ impl_SplitIntegers.f k xs = some (r, s, b) ∧ r.length ≤ xs.length ∧ s.length ≤ xs.length := by
  obtain ⟨b, h1, h2⟩ := are_both xs hn k hk
  unfold spec_SplitIntegers.f impl_SplitIntegers.f
  rw [h1, h2]
  simp only [Option.bind_some]
  cases b
  · exact ⟨[], [], false, rfl, rfl, by simp, by simp⟩
  · obtain ⟨r, s, g1, g2, g3, g4⟩ := split_both xs hn xs.length k 0 [] [] (by simp) (by simp) (by omega) (by omega) hk
    have g1' : spec_l02Split.f k xs = some (r, s) := g1
    have g2' : impl_split_int64.f k xs = some (r, s) := g2
    rw [g1', g2']
    exact ⟨r, s, true, rfl, rfl, g3, g4⟩

theorem all : laws_FnExactSplitIntegers.Pure := by
  intro l _ _ _
  by_cases g : (l.length : Int) > 1048576
  · exact ⟨0, by unfold laws_FnExactSplitIntegers.f; rw [if_pos g]⟩
  · have hn : l.length ≤ 1048576 := by omega
    refine ⟨l.length + 1 + 1 + 1 + 1, ?_⟩
    generalize hK : l.length + 1 = K
    have hK' : l.length < K := by omega
    have sp : ∀ k, l.length < k → ∃ r s b, spec_SplitIntegers.f k l = some (r, s, b) ∧ impl_SplitIntegers.f k l = some (r, s, b) ∧ r.length ≤ l.length ∧ s.length ≤ l.length := fun k hk => split_is l hn k hk
    obtain ⟨r, s, b, h1, h2, h3, h4⟩ := sp (K + 1 + 1 + 1) (by omega)
    obtain ⟨r', s', b', i1, i2, i3, i4⟩ := sp (K + 1) (by omega)
    -- both fuels give the same: the spec's function is monotone
    have hup : spec_SplitIntegers.f (K + 1 + 1 + 1) l = some (r', s', b') := spec_SplitIntegers.mono l (K + 1 + 1) _ (spec_SplitIntegers.mono l (K + 1) _ i1)
    rw [h1] at hup
    obtain ⟨rfl, rfl, rfl⟩ : r = r' ∧ s = s' ∧ b = b' := by simpa using hup
    obtain ⟨xm, m1, m2, m3⟩ := mark_is l 1 (by omega) (by omega) hn (K + 1 + 1) (by omega)
    obtain ⟨rm, n1, n2, n3⟩ := mark_is r 1 (by omega) (by omega) (by omega) (K + 1) (by omega)
    obtain ⟨sm, o1, o2, o3⟩ := mark_is s (1 + r.length) (by omega) (by omega) (by omega) (K + 1) (by omega)
    have q1 : ∀ k, r.length < k → laws_heldInt64S.f k rm 1 = some (1 + (r.length : Int)) := fun k hk => by
      rw [← n2]; exact held_is rm 1 (by omega) (by omega) (by omega) (fun j hj => n3 j (by omega)) k (by omega)
    have q2 : ∀ k, s.length < k → laws_heldInt64S.f k sm (1 + (r.length : Int)) = some (1 + (r.length : Int) + (s.length : Int)) := fun k hk => by
      rw [← o2]; exact held_is sm (1 + r.length) (by omega) (by omega) (by omega) (fun j hj => o3 j (by omega)) k (by omega)
    have e1 : ∀ k, l.length < k → laws_eqInt64S.f k r r = some true := fun k hk => eq_is r (by omega) k (by omega)
    have e2 : ∀ k, l.length < k → laws_eqInt64S.f k s s = some true := fun k hk => eq_is s (by omega) k (by omega)
    have e3 : ∀ k, l.length < k → laws_eqInt64S.f k l l = some true := fun k hk => eq_is l hn k hk
    have e4 : ∀ k, l.length < k → laws_toInt64S.f k l = some l := fun k hk => toS_is l hn k hk
    have p1 : ¬ (1 + (r.length : Int)) < 0 := by omega
    have p2 : ¬ (1 + (r.length : Int) + (s.length : Int)) < 0 := by omega
    have p3 : ¬ (1 + (l.length : Int)) < 0 := by omega
    have j2 : laws_FnExactSplitIntegers.j2 (K + 1) rm sm (1 + (r.length : Int) + (s.length : Int)) false = some true := by
      simp only [laws_FnExactSplitIntegers.j2, Bool.false_eq_true, if_false]
      rw [q1 K (by omega)]; simp only [Option.bind_some]
      rw [if_neg p1, q2 K (by omega)]; simp only [Option.bind_some]
      rw [if_neg p2, if_pos trivial]
    have j1 : laws_FnExactSplitIntegers.j1 (K + 1 + 1) l r s b r s false = some true := by
      simp only [laws_FnExactSplitIntegers.j1, Bool.false_eq_true, if_false]
      rw [n1]; simp only [Option.bind_some]
      rw [o1]; simp only [Option.bind_some]
      rw [q1 (K + 1) (by omega)]; simp only [Option.bind_some]
      rw [if_neg p1, q2 (K + 1) (by omega)]; simp only [Option.bind_some]
      rw [if_neg p2, if_pos trivial, e4 (K + 1) (by omega)]; simp only [Option.bind_some]
      rw [i2]; simp only [Option.bind_some]
      rw [e1 (K + 1) (by omega)]; simp only [Option.bind_some, if_true]
      rw [e2 (K + 1) (by omega)]; simp only [Option.bind_some, if_true, bne_self_eq_false]
      exact j2
    have j0 : laws_FnExactSplitIntegers.j0 (K + 1 + 1 + 1) l r s b l r s b false = some true := by
      simp only [laws_FnExactSplitIntegers.j0, Bool.false_eq_true, if_false]
      rw [e4 (K + 1 + 1) (by omega)]; simp only [Option.bind_some]
      rw [e3 (K + 1 + 1) (by omega)]; simp only [Option.bind_some, if_true]
      rw [m1]; simp only [Option.bind_some]
      rw [if_neg p3, e1 (K + 1 + 1) (by omega)]; simp only [Option.bind_some, if_true]
      rw [e2 (K + 1 + 1) (by omega)]; simp only [Option.bind_some, if_true, bne_self_eq_false]
      exact j1
    unfold laws_FnExactSplitIntegers.f
    rw [if_neg g, e4 (K + 1 + 1 + 1) (by omega)]; simp only [Option.bind_some]
    rw [h1]; simp only [Option.bind_some]
    rw [h2]; simp only [Option.bind_some]
    rw [e1 (K + 1 + 1 + 1) (by omega)]; simp only [Option.bind_some, if_true]
    rw [e2 (K + 1 + 1 + 1) (by omega)]; simp only [Option.bind_some, if_true, bne_self_eq_false]
    exact j0

end Go.Proofs.Ytgmioegepmoopaa.Pure.ofFnExactSplitIntegers
namespace Go.Proofs.Ytgmioegepmoopaa.Pure
open Go.Proofs.Ytgmioegepmoopaa.PFnExactSplitIntegers
theorem FnExactSplitIntegers : laws_FnExactSplitIntegers.Pure := ofFnExactSplitIntegers.all
end Go.Proofs.Ytgmioegepmoopaa.Pure
