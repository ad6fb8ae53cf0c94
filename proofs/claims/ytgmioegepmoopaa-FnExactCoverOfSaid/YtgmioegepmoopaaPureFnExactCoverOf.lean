/- This proves that the law FnExactCoverOf returns true for all int64: the program's CoverOf and the reference's answer the same. No condition. -/
import Derived.Test.YtgmioegepmoopaaPFnExactCoverOfx2
namespace Go.Proofs.Ytgmioegepmoopaa.Pure.ofFnExactCoverOf
open Go.RowKit Go.Proofs.Ytgmioegepmoopaa.PFnExactCoverOf Go.Proofs.YtgmioegepmoopaaW.PrintWords Go.Proofs.YtgmioegepmoopaaW.PrintLast


/-- both lists of sizes are the same, of one to seven numbers -/
def sizesOk (n l : Int) : Bool :=
  match spec_l02BandSizes.f 30 n l, impl_BandSizes.f 31 n l with
  | some xs, some (ys, b) => xs == ys && b && decide (1 ≤ xs.length) && decide (xs.length ≤ 7)
  | _, _ => false
set_option maxRecDepth 100000 in
theorem sizes_all : ∀ a : Fin 128, ∀ b : Fin 6, sizesOk ((a : Nat) + 1) ((b : Nat) + 1) = true := by decide +kernel

theorem sizes (n l : Int) (h1 : 1 ≤ n) (h2 : n ≤ 128) (h3 : 1 ≤ l) (h4 : l ≤ 6) : ∃ xs, spec_l02BandSizes.f 30 n l = some xs ∧ impl_BandSizes.f 31 n l = some (xs, true) ∧ 1 ≤ xs.length ∧ xs.length ≤ 7 := by
  have h := sizes_all ⟨(n - 1).toNat, by omega⟩ ⟨(l - 1).toNat, by omega⟩
  have e1 : (((n - 1).toNat : Nat) : Int) + 1 = n := by omega
  have e2 : (((l - 1).toNat : Nat) : Int) + 1 = l := by omega
  simp only [e1, e2] at h
  unfold sizesOk at h
  split at h
  · rename_i xs ys b g1 g2
    simp only [Bool.and_eq_true, beq_iff_eq, decide_eq_true_eq] at h
    obtain ⟨⟨⟨rfl, rfl⟩, h5⟩, h6⟩ := h
    exact ⟨xs, g1, g2, h5, h6⟩
  · cases h

theorem shl_swap (x : Int) (m : Nat) (hm : m ≤ 6) : wrap64 (shl .i64 1 (m : Int) * x) = shl .i64 x (m : Int) := by
  have hb : IntKind.i64.bits = 64 := rfl
  unfold shl
  rw [i64_w, i64_w, hb]
  have e : min ((m : Int).toNat) 64 = m := by omega
  rw [e]
  have : m = 0 ∨ m = 1 ∨ m = 2 ∨ m = 3 ∨ m = 4 ∨ m = 5 ∨ m = 6 := by omega
  rcases this with rfl | rfl | rfl | rfl | rfl | rfl | rfl <;> (unfold wrap64; omega)

theorem u64_small {m : Int} (h0 : 0 ≤ m) (h1 : m ≤ 100) : IntKind.u64.wrap m = m := by rw [IntKind.wrap_u64]; omega

theorem inner (x2 x3 : Int) (xs : List Int) (h1 : 1 ≤ xs.length) (h2 : xs.length ≤ 7) (hx : ∀ b, b = false → 0 ≤ x2 ∧ x2 ≤ (xs.length : Int) - 1) (k : Nat) (b : Bool) :
    ∃ r, spec_CoverOf.j1 (k + 1) x2 x3 (wrap64 ((xs.length : Int) - 1)) b = some r ∧ impl_CoverOf.j0 (k + 1) x2 x3 xs b = some r := by
  have w1 : wrap64 ((xs.length : Int) - 1) = ((xs.length - 1 : Nat) : Int) := by unfold wrap64; omega
  simp only [spec_CoverOf.j1, impl_CoverOf.j0, w1]
  cases b
  · obtain ⟨g0, g1⟩ := hx false rfl
    simp only [Bool.false_eq_true, if_false]
    have u1 : IntKind.u64.wrap (((xs.length - 1 : Nat) : Int)) = ((xs.length - 1 : Nat) : Int) := u64_small (by omega) (by omega)
    have w2 : wrap64 (x2 + 1) = x2 + 1 := by unfold wrap64; omega
    have u2 : IntKind.u64.wrap (x2 + 1) = x2 + 1 := u64_small (by omega) (by omega)
    rw [u1, w2, u2]
    by_cases c : x2 = ((xs.length - 1 : Nat) : Int)
    · rw [if_pos c, if_pos c]
      have p : (0 : Int) ≤ ((xs.length - 1 : Nat) : Int) := by omega
      rw [if_pos p, if_pos p, shl_swap x3 _ (by omega)]
      exact ⟨_, rfl, rfl⟩
    · rw [if_neg c, if_neg c]
      have p : (0 : Int) ≤ x2 + 1 := by omega
      rw [if_pos p]
      exact ⟨_, rfl, rfl⟩
  · exact ⟨_, rfl, rfl⟩

theorem bool_cases (a b c : Int) : ∃ t, spec_l00In.f a b c = some t ∧ (t = true → b ≤ a ∧ a ≤ c) := by
  unfold spec_l00In.f
  by_cases h : a ≥ b
  · rw [if_pos h]; exact ⟨_, rfl, fun g => ⟨h, of_decide_eq_true g⟩⟩
  · rw [if_neg h]; exact ⟨_, rfl, fun g => by cases g⟩

theorem both (n l x2 x3 : Int) : ∃ r, spec_CoverOf.f 31 n l x2 x3 = some r ∧ impl_CoverOf.f 31 n l x2 x3 = some r := by
  have hw : ∀ a b c, impl_within.f a b c = spec_l00In.f a b c := fun _ _ _ => rfl
  have bad : ∀ k, spec_CoverOf.j0 (k + 1) n l x2 x3 true = some (0, 0, false) := fun k => by simp [spec_CoverOf.j0]
  have bad2 : ∀ k xs, impl_CoverOf.j0 (k + 1) x2 x3 xs true = some (0, 0, false) := fun k xs => by simp [impl_CoverOf.j0]
  obtain ⟨t, e1, c1⟩ := bool_cases n 1 128
  obtain ⟨u, e2, c2⟩ := bool_cases l 1 6
  unfold spec_CoverOf.f impl_CoverOf.f spec_l02Levels.f
  rw [e1]; simp only [Option.bind_some]
  by_cases ht : t = true
  · obtain ⟨g1, g2⟩ := c1 ht
    subst ht
    simp only [if_true]
    rw [e2]; simp only [Option.bind_some]
    by_cases hu : u = true
    · obtain ⟨g3, g4⟩ := c2 hu
      subst hu
      obtain ⟨xs, s1, s2, s3, s4⟩ := sizes n l g1 g2 g3 g4
      rw [s2]; simp only [Option.bind_some, if_true, Bool.not_true]
      simp only [spec_CoverOf.j0, Bool.false_eq_true, if_false]
      rw [s1]; simp only [Option.bind_some, hw]
      obtain ⟨v, e3, c3⟩ := bool_cases x2 0 (wrap64 ((xs.length : Int) - 1))
      rw [e3]; simp only [Option.bind_some]
      have w1 : wrap64 ((xs.length : Int) - 1) = (xs.length : Int) - 1 := by unfold wrap64; omega
      by_cases hv : v = true
      · obtain ⟨g5, g6⟩ := c3 hv
        rw [w1] at g6
        subst hv
        have p1 : x2 < (xs.length : Int) := by omega
        simp only [if_true, if_pos g5, if_pos p1]
        obtain ⟨y, e4, _⟩ := bool_cases x3 0 (wrap64 (rd xs x2 - 1))
        rw [e4]; simp only [Option.bind_some]
        obtain ⟨r, q1, q2⟩ := inner x2 x3 xs s3 s4 (fun _ _ => ⟨g5, g6⟩) 29 (!y)
        have q2' : impl_CoverOf.j0 31 x2 x3 xs (!y) = some r := by simpa [impl_CoverOf.j0] using q2
        exact ⟨r, q1, q2'⟩
      · have hv' : v = false := by simpa using hv
        subst hv'
        simp only [Bool.false_eq_true, if_false]
        exact ⟨(0, 0, false), by simp [spec_CoverOf.j1], bad2 30 xs⟩
    · have hu' : u = false := by simpa using hu
      subst hu'
      have s2 : impl_BandSizes.f 31 n l = some ([], false) := by
        unfold impl_BandSizes.f
        simp only [hw]
        rw [e1]; simp only [Option.bind_some, if_true]
        rw [e2]; simp [impl_BandSizes.j0]
      rw [s2]; simp only [Option.bind_some, Bool.false_eq_true, if_false, Bool.not_false]
      exact ⟨(0, 0, false), bad 30, bad2 30 []⟩
  · have ht' : t = false := by simpa using ht
    subst ht'
    simp only [Bool.false_eq_true, if_false]
    have s2 : impl_BandSizes.f 31 n l = some ([], false) := by
      unfold impl_BandSizes.f
      simp only [hw]
      rw [e1]; simp [impl_BandSizes.j0]
    rw [s2]; simp only [Option.bind_some, Bool.false_eq_true, if_false]
    exact ⟨(0, 0, false), bad 30, bad2 30 []⟩

theorem all : laws_FnExactCoverOf.Pure := by
  intro n l x2 x3 _ _ _ _
  obtain ⟨⟨r1, r2, r3⟩, h1, h2⟩ := both n l x2 x3
  refine ⟨31, ?_⟩
  unfold laws_FnExactCoverOf.f
  rw [h1]; simp only [Option.bind_some]
  rw [h2]; simp

end Go.Proofs.Ytgmioegepmoopaa.Pure.ofFnExactCoverOf
namespace Go.Proofs.Ytgmioegepmoopaa.Pure
open Go.Proofs.Ytgmioegepmoopaa.PFnExactCoverOf
theorem FnExactCoverOf : laws_FnExactCoverOf.Pure := ofFnExactCoverOf.all
end Go.Proofs.Ytgmioegepmoopaa.Pure
