/- This proves that the law FnExactIsName returns true for every string: the program's IsName and the reference's answer the same. No condition. -/
import Derived.Test.YtmkbipplkjhpeaaPFnExactIsNamex1
namespace Go.Proofs.Ytmkbipplkjhpeaa.Pure
open Go.RowKit Go.Proofs.Ytmkbipplkjhpeaa.PFnExactIsName Go.Proofs.YtmkbipplkjhpeaaW.PrintWords Go.Proofs.YtmkbipplkjhpeaaW.PrintLast

theorem wrap_next {i : Int} {n : Nat} (h0 : 0 ≤ i) (h : i < (n : Int)) (hn : n ≤ 140737488351232) : wrap64 (i + 1) = i + 1 := by
  unfold wrap64
  omega

theorem both (s : ByteArray) (hn : s.size ≤ 140737488351232) (d : Nat) : ∀ (k : Nat) (i : Int), 0 ≤ i → i ≤ s.size → (s.size : Int) - i = d → d < k →
    ∃ r, spec_IsName.l0 k s i = some r ∧ impl_IsName.l0 k s (s.size : Int) i = some r := by
  induction d with
  | zero =>
    intro k i h0 h1 hd hk
    obtain ⟨k, rfl⟩ : ∃ m, k = m + 1 := ⟨k - 1, by omega⟩
    simp only [spec_IsName.l0, impl_IsName.l0]
    have hn2 : ¬ i < (s.size : Int) := by omega
    rw [if_neg hn2, if_neg hn2]
    by_cases g : (s.size : Int) ≥ 1
    · rw [if_pos g]; exact ⟨_, rfl, rfl⟩
    · rw [if_neg g]; exact ⟨_, rfl, rfl⟩
  | succ d ih =>
    intro k i h0 h1 hd hk
    obtain ⟨k, rfl⟩ : ∃ m, k = m + 1 := ⟨k - 1, by omega⟩
    have hlt : i < (s.size : Int) := by omega
    simp only [spec_IsName.l0, impl_IsName.l0]
    rw [if_pos hlt, if_pos hlt, if_pos h0, if_pos h0, if_pos hlt, wrap_next h0 hlt hn]
    by_cases a : bt s i < 97
    · rw [if_pos a, if_pos a]; exact ⟨_, rfl, rfl⟩
    · rw [if_neg a, if_neg a]
      by_cases b : bt s i > 122
      · rw [if_pos b, if_pos b]; exact ⟨_, rfl, rfl⟩
      · rw [if_neg b, if_neg b]
        exact ih k (i + 1) (by omega) (by omega) (by omega) (by omega)

theorem FnExactIsName : laws_FnExactIsName.Pure := by
  intro s hn
  obtain ⟨r, h1, h2⟩ := both s hn s.size (s.size + 1) 0 (by omega) (by omega) (by omega) (by omega)
  refine ⟨s.size + 1, ?_⟩
  unfold laws_FnExactIsName.f spec_IsName.f impl_IsName.f
  by_cases g : (s.size : Int) > 1048576
  · rw [if_pos g]
  · rw [if_neg g, h1, h2]; simp

end Go.Proofs.Ytmkbipplkjhpeaa.Pure
