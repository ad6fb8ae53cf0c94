/- This proves that the law FnExactBandSizes returns true for all int64: the program's BandSizes and the reference's answer the same and share no memory. No condition. -/
import Derived.Test.YtgmioegepmoopaaPFnExactBandSizesx2
namespace Go.Proofs.Ytgmioegepmoopaa.Pure.ofFnExactBandSizes
open Go.RowKit Go.Proofs.Ytgmioegepmoopaa.PFnExactBandSizes Go.Proofs.YtgmioegepmoopaaW.PrintWords Go.Proofs.YtgmioegepmoopaaW.PrintLast


set_option maxRecDepth 100000 in
theorem inside : ∀ a : Fin 128, ∀ b : Fin 6, laws_FnExactBandSizes.f 30 ((a : Nat) + 1) ((b : Nat) + 1) = some true := by decide +kernel
theorem empties : laws_eqInt64S.f 30 [] [] = some true ∧ laws_FnExactBandSizes.j1 28 [] 1 false = some true ∧ laws_markInt64S.f 29 [] 1 = some (1, []) ∧ laws_heldInt64S.f 29 [] 1 = some 1 ∧ laws_eqInt64S.f 29 [] [] = some true ∧ laws_FnExactBandSizes.j1 29 [] 1 false = some true := by decide +kernel

theorem outside (a b : Int) (hs : spec_BandSizes.f 30 a b = some ([], false)) (hi : ∀ k, impl_BandSizes.f (k + 1) a b = some ([], false)) : laws_FnExactBandSizes.f 30 a b = some true := by
  obtain ⟨e1, e2, e3, e4, e5, e6⟩ := empties
  unfold laws_FnExactBandSizes.f
  rw [hs]; simp only [Option.bind_some]
  rw [hi 29]; simp only [Option.bind_some]
  rw [e1]; simp only [Option.bind_some, if_true, bne_self_eq_false]
  simp only [laws_FnExactBandSizes.j0, Bool.false_eq_true, if_false]
  rw [e3]; simp only [Option.bind_some]
  rw [e4]; simp only [Option.bind_some]
  rw [if_neg (by omega), if_pos trivial, hi 28]; simp only [Option.bind_some]
  rw [e5]; simp only [Option.bind_some, if_true, bne_self_eq_false]
  exact e6

theorem all : laws_FnExactBandSizes.Pure := by
  intro a b _ _
  refine ⟨30, ?_⟩
  by_cases ha : 1 ≤ a ∧ a ≤ 128
  · by_cases hb : 1 ≤ b ∧ b ≤ 6
    · have h := inside ⟨(a - 1).toNat, by omega⟩ ⟨(b - 1).toNat, by omega⟩
      have e1 : (((a - 1).toNat : Nat) : Int) + 1 = a := by omega
      have e2 : (((b - 1).toNat : Nat) : Int) + 1 = b := by omega
      simp only [e1, e2] at h
      exact h
    · refine outside a b ?_ ?_
      · unfold spec_BandSizes.f spec_l00In.f spec_l02Levels.f spec_l00In.f
        by_cases c : b ≥ 1
        · have c' : ¬ b ≤ 6 := by omega
          simp [ha.1, ha.2, c, c']
        · simp [ha.1, ha.2, c]
      · intro k
        unfold impl_BandSizes.f impl_within.f
        by_cases c : b ≥ 1
        · have c' : ¬ b ≤ 6 := by omega
          simp [ha.1, ha.2, c, c', impl_BandSizes.j0]
        · simp [ha.1, ha.2, c, impl_BandSizes.j0]
  · refine outside a b ?_ ?_
    · unfold spec_BandSizes.f spec_l00In.f
      by_cases c : a ≥ 1
      · have c' : ¬ a ≤ 128 := by omega
        simp [c, c']
      · simp [c]
    · intro k
      unfold impl_BandSizes.f impl_within.f
      by_cases c : a ≥ 1
      · have c' : ¬ a ≤ 128 := by omega
        simp [c, c', impl_BandSizes.j0]
      · simp [c, impl_BandSizes.j0]

end Go.Proofs.Ytgmioegepmoopaa.Pure.ofFnExactBandSizes
namespace Go.Proofs.Ytgmioegepmoopaa.Pure
open Go.Proofs.Ytgmioegepmoopaa.PFnExactBandSizes
theorem FnExactBandSizes : laws_FnExactBandSizes.Pure := ofFnExactBandSizes.all
end Go.Proofs.Ytgmioegepmoopaa.Pure
