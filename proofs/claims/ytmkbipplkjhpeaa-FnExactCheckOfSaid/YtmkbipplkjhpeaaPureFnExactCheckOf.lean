/- This proves that the law FnExactCheckOf returns true for every int64 and string: the program's CheckOf and the reference's answer the same. No condition. -/
import Derived.Test.YtmkbipplkjhpeaaPFnExactCheckOfx1
namespace Go.Proofs.Ytmkbipplkjhpeaa.Pure
open Go.RowKit Go.Proofs.Ytmkbipplkjhpeaa.PFnExactCheckOf Go.Proofs.YtmkbipplkjhpeaaW.PrintWords Go.Proofs.YtmkbipplkjhpeaaW.PrintLast

theorem wrap_more {i : Int} {n : Nat} (h0 : 0 ≤ i) (h : i < (n : Int)) (hn : n ≤ 140737488351232) : wrap64 (i + 1) = i + 1 := by
  unfold wrap64
  omega

theorem both_check (s : ByteArray) (hn : s.size ≤ 140737488351232) (d : Nat) : ∀ (k : Nat) (n i : Int), 0 ≤ i → i ≤ s.size → (s.size : Int) - i = d → d < k →
    ∃ r, spec_l01Check.l0 k n s i = some r ∧ impl_CheckOf.l0 k n s (s.size : Int) i = some (r, true) := by
  induction d with
  | zero =>
    intro k n i h0 h1 hd hk
    obtain ⟨k, rfl⟩ : ∃ m, k = m + 1 := ⟨k - 1, by omega⟩
    simp only [spec_l01Check.l0, impl_CheckOf.l0]
    rw [if_neg (by omega), if_neg (by omega)]
    exact ⟨_, rfl, rfl⟩
  | succ d ih =>
    intro k n i h0 h1 hd hk
    obtain ⟨k, rfl⟩ : ∃ m, k = m + 1 := ⟨k - 1, by omega⟩
    have hlt : i < (s.size : Int) := by omega
    simp only [spec_l01Check.l0, impl_CheckOf.l0]
    rw [if_pos hlt, if_pos hlt, if_pos h0, if_pos h0, if_pos hlt, wrap_more h0 hlt hn]
    exact ih k _ (i + 1) (by omega) (by omega) (by omega) (by omega)

theorem FnExactCheckOf : laws_FnExactCheckOf.Pure := by
  intro n s _ hn
  obtain ⟨r, h1, h2⟩ := both_check s hn s.size (s.size + 1) n 0 (by omega) (by omega) (by omega) (by omega)
  refine ⟨s.size + 1, ?_⟩
  unfold laws_FnExactCheckOf.f spec_CheckOf.f impl_CheckOf.f spec_l00In.f impl_within.f spec_l01Check.f
  by_cases g : (s.size : Int) > 1048576
  · rw [if_pos g]
  · rw [if_neg g]
    by_cases a : n ≥ 0
    · by_cases b : n ≤ 65002
      · simp [a, b, h1, h2]
      · simp [a, b]
    · simp [a]

end Go.Proofs.Ytmkbipplkjhpeaa.Pure
