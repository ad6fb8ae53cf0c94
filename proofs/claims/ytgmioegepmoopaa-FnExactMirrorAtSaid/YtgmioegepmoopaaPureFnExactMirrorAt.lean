/- This proves that the law FnExactMirrorAt returns true for all int64: the program's MirrorAt (a loop of reflections) and the reference's (a remainder) answer the same. No condition. -/
import Derived.Test.YtgmioegepmoopaaPFnExactMirrorAtx1
namespace Go.Proofs.Ytgmioegepmoopaa.Pure.ofFnExactMirrorAt
open Go.RowKit Go.Proofs.Ytgmioegepmoopaa.PFnExactMirrorAt Go.Proofs.YtgmioegepmoopaaW.PrintWords Go.Proofs.YtgmioegepmoopaaW.PrintLast


/-- where a distance lies, one way or the other, in a period p = 2 * (n - 1) -/
def fold (n p e : Nat) : Nat := if n ≤ e then p - e else e

theorem fold_flip {n p e : Nat} (hp : p + 2 = 2 * n) (h0 : 0 < e) (he : e < p) : fold n p (p - e) = fold n p e := by
  unfold fold
  by_cases a : n ≤ e
  · rw [if_pos a, if_neg (by omega)]
  · rw [if_neg a]
    by_cases b : n ≤ p - e
    · rw [if_pos b]; omega
    · rw [if_neg b]; omega

/-- the distance to the other end, folded, is the distance itself folded -/
theorem fold_other {n p a : Nat} (hp : p + 2 = 2 * n) (ha : n ≤ a) : fold n p (((p : Int) - (a : Int)).natAbs % p) = fold n p (a % p) := by
  rcases Nat.lt_trichotomy a p with g | g | g
  · have e1 : ((p : Int) - (a : Int)).natAbs = p - a := by omega
    rw [e1, Nat.mod_eq_of_lt (by omega), Nat.mod_eq_of_lt g]
    exact fold_flip hp (by omega) g
  · subst g
    have e1 : ((a : Int) - (a : Int)).natAbs = 0 := by omega
    rw [e1, Nat.mod_self, Nat.zero_mod]
  · have e1 : ((p : Int) - (a : Int)).natAbs = a - p := by omega
    rw [e1, ← Nat.mod_eq_sub_mod (show p ≤ a by omega)]

theorem loop_tells (n p : Nat) (hp : p + 2 = 2 * n) (hn : 2 ≤ n) (hn2 : n ≤ 128) (d : Nat) : ∀ (k : Nat) (i : Int), i.natAbs ≤ 1000000 → (if i < 0 then 2 * i.natAbs + 1 else 2 * i.natAbs) ≤ d → d < k →
    impl_mirrored.l0 k (n : Int) i = some ((fold n p (i.natAbs % p) : Nat) : Int) := by
  induction d using Nat.strongRecOn with
  | ind d ih =>
    intro k i hi hd hk
    obtain ⟨k, rfl⟩ : ∃ m, k = m + 1 := ⟨k - 1, by omega⟩
    have w1 : wrap64 ((n : Int) - 1) = (n : Int) - 1 := by unfold wrap64; omega
    simp only [impl_mirrored.l0, w1]
    unfold impl_within.f
    by_cases a : i ≥ 0
    · rw [if_pos a]
      by_cases b : i ≤ (n : Int) - 1
      · have e : fold n p (i.natAbs % p) = i.natAbs := by
          rcases Nat.lt_or_ge i.natAbs p with g | g
          · rw [Nat.mod_eq_of_lt g]; unfold fold; rw [if_neg (by omega)]
          · have : n = 2 ∧ i.natAbs = 1 := by omega
            omega
        rw [e]
        simp only [Option.bind_some, decide_eq_true b, if_true]
        congr 1; omega
      · simp only [Option.bind_some, decide_eq_false b, Bool.false_eq_true, if_false]
        rw [if_neg (by omega)]
        have w2 : wrap64 (wrap64 (2 * ((n : Int) - 1)) - i) = (p : Int) - i := by unfold wrap64; omega
        rw [w2]
        have hlt : (if (p : Int) - i < 0 then 2 * ((p : Int) - i).natAbs + 1 else 2 * ((p : Int) - i).natAbs) < d := by
          rw [if_neg (by omega)] at hd
          split <;> omega
        rw [ih _ hlt k ((p : Int) - i) (by omega) (Nat.le_refl _) (by omega)]
        have := fold_other hp (a := i.natAbs) (by omega)
        have e : ((i.natAbs : Nat) : Int) = i := by omega
        rw [e] at this
        rw [this]
    · rw [if_neg a]
      simp only [Option.bind_some, Bool.false_eq_true, if_false]
      rw [if_pos (by omega)]
      have w2 : wrap64 (-i) = -i := by unfold wrap64; omega
      rw [w2]
      have hlt : (if -i < 0 then 2 * (-i).natAbs + 1 else 2 * (-i).natAbs) < d := by
        rw [if_pos (by omega)] at hd
        rw [if_neg (by omega)]; omega
      rw [ih _ hlt k (-i) (by omega) (Nat.le_refl _) (by omega), Int.natAbs_neg]

theorem tmod_neg_nat (a p : Nat) : Int.tmod (-(a : Int)) (p : Int) = -((a % p : Nat) : Int) := by
  rw [Int.neg_tmod]; rfl

theorem spec_tells (n p : Nat) (hp : p + 2 = 2 * n) (hn : 2 ≤ n) (hn2 : n ≤ 128) (i : Int) (_hi : i.natAbs ≤ 1000000) : spec_l02Mirror.f (n : Int) i = some ((fold n p (i.natAbs % p) : Nat) : Int) := by
  have w1 : wrap64 ((n : Int) - 1) = (n : Int) - 1 := by unfold wrap64; omega
  have w2 : wrap64 (2 * ((n : Int) - 1)) = (p : Int) := by unfold wrap64; omega
  have hpos : 0 < p := by omega
  have hm : i.natAbs % p < p := Nat.mod_lt _ hpos
  unfold spec_l02Mirror.f
  simp only [w1, w2]
  rw [if_neg (by omega), if_neg (by omega)]
  unfold fold
  by_cases a : i < 0
  · have et : Int.tmod i (p : Int) = -((i.natAbs % p : Nat) : Int) := by
      have : i = -(i.natAbs : Int) := by omega
      conv => lhs; rw [this]
      exact tmod_neg_nat _ _
    rw [et]
    clear et
    generalize i.natAbs % p = e at *
    by_cases z : e = 0
    · subst z
      have h1 : ¬ (-((0 : Nat) : Int)) < 0 := by omega
      have h2 : ¬ (-((0 : Nat) : Int)) ≥ (n : Int) := by omega
      rw [if_neg h1, if_neg h2, if_neg (by omega)]; rfl
    · have h1 : (-(e : Int)) < 0 := by omega
      have w3 : wrap64 (-(-(e : Int))) = (e : Int) := by unfold wrap64; omega
      rw [if_pos h1, w3]
      by_cases c : (e : Int) ≥ (n : Int)
      · rw [if_pos c, if_pos (by omega)]
        congr 1; unfold wrap64; omega
      · rw [if_neg c, if_neg (by omega)]
  · have et : Int.tmod i (p : Int) = ((i.natAbs % p : Nat) : Int) := by
      have : i = (i.natAbs : Int) := by omega
      conv => lhs; rw [this]
      rfl
    rw [et]
    clear et
    generalize i.natAbs % p = e at *
    rw [if_neg (by omega)]
    by_cases c : (e : Int) ≥ (n : Int)
    · rw [if_pos c, if_pos (by omega)]
      congr 1; unfold wrap64; omega
    · rw [if_neg c, if_neg (by omega)]

theorem one_tells (i : Int) (k : Nat) : spec_l02Mirror.f 1 i = some 0 ∧ impl_mirrored.f k 1 i = some 0 := by
  unfold spec_l02Mirror.f impl_mirrored.f
  exact ⟨by rw [if_pos rfl], by rw [if_pos rfl]⟩

theorem all : laws_FnExactMirrorAt.Pure := by
  intro n i _ _
  refine ⟨2000002, ?_⟩
  have hw : ∀ a b c, impl_within.f a b c = spec_l00In.f a b c := fun _ _ _ => rfl
  have both : ∃ r b, spec_MirrorAt.f n i = some (r, b) ∧ impl_MirrorAt.f 2000002 n i = some (r, b) := by
    unfold spec_MirrorAt.f impl_MirrorAt.f
    simp only [hw]
    by_cases a : n ≥ 1
    · by_cases b : n ≤ 128
      · have e1 : spec_l00In.f n 1 128 = some true := by unfold spec_l00In.f; rw [if_pos a, decide_eq_true b]
        rw [e1]; simp only [Option.bind_some, if_true]
        by_cases c : i ≥ -1000000
        · by_cases d : i ≤ 1000000
          · have e2 : spec_l00In.f i (-1000000) 1000000 = some true := by unfold spec_l00In.f; rw [if_pos c, decide_eq_true d]
            rw [e2]; simp only [Option.bind_some, if_true]
            by_cases h1 : n = 1
            · subst h1
              rw [(one_tells i 2000002).1, (one_tells i 2000002).2]
              exact ⟨0, true, rfl, rfl⟩
            · obtain ⟨m, rfl⟩ := Int.eq_ofNat_of_zero_le (show 0 ≤ n by omega)
              have s1 := spec_tells m (2 * m - 2) (by omega) (by omega) (by omega) i (by omega)
              have s2 := loop_tells m (2 * m - 2) (by omega) (by omega) (by omega) 2000001 2000002 i (by omega) (by split <;> omega) (by omega)
              have s3 : impl_mirrored.f 2000002 (m : Int) i = some ((fold m (2 * m - 2) (i.natAbs % (2 * m - 2)) : Nat) : Int) := by
                unfold impl_mirrored.f; rw [if_neg h1]; exact s2
              rw [s1, s3]
              exact ⟨_, true, rfl, rfl⟩
          · have e2 : spec_l00In.f i (-1000000) 1000000 = some false := by unfold spec_l00In.f; rw [if_pos c, decide_eq_false d]
            rw [e2]
            exact ⟨0, false, rfl, rfl⟩
        · have e2 : spec_l00In.f i (-1000000) 1000000 = some false := by unfold spec_l00In.f; rw [if_neg c]
          rw [e2]
          exact ⟨0, false, rfl, rfl⟩
      · have e1 : spec_l00In.f n 1 128 = some false := by unfold spec_l00In.f; rw [if_pos a, decide_eq_false b]
        rw [e1]
        exact ⟨0, false, rfl, rfl⟩
    · have e1 : spec_l00In.f n 1 128 = some false := by unfold spec_l00In.f; rw [if_neg a]
      rw [e1]
      exact ⟨0, false, rfl, rfl⟩
  obtain ⟨r, b, h1, h2⟩ := both
  unfold laws_FnExactMirrorAt.f
  rw [h1]; simp only [Option.bind_some]
  rw [h2]; simp

end Go.Proofs.Ytgmioegepmoopaa.Pure.ofFnExactMirrorAt
namespace Go.Proofs.Ytgmioegepmoopaa.Pure
open Go.Proofs.Ytgmioegepmoopaa.PFnExactMirrorAt
theorem FnExactMirrorAt : laws_FnExactMirrorAt.Pure := ofFnExactMirrorAt.all
end Go.Proofs.Ytgmioegepmoopaa.Pure
