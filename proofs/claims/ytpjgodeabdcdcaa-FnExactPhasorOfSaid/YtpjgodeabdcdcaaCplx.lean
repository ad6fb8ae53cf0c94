/- Complex conversions in whatever world, and the law's sameComplex. No condition. -/
import Derived.Test.YtpjgodeabdcdcaaSame
import Derived.Test.YtpjgodeabdcdcaaOps
import Derived.Test.YtpjgodeabdcdcaaChecked
namespace Go.Proofs.Ytpjgodeabdcdcaa
open Go.RowKit Fl Ieee
namespace Fl
theorem run_ff {P : Program} (s k : FloatKind) (b : Nat) (w : World) : (Conv.floatToFloat s b k).run P w = .ok (.float k (cres s b k w)) (w.drewN (ccnt s b k)) := by
  cases h : floatToFloatBits s b k with
  | some r => rw [run_floatToFloat w h]; simp [cres, ccnt, h, World.drewN_zero]
  | none =>
    have h0 := h
    unfold floatToFloatBits at h
    split at h
    · cases h
    · rename_i ne
      split at h
      · rename_i sg tt he
        have hn : isN s b = true := (isN_iff s b).2 ⟨_, _, he⟩
        simp [Conv.floatToFloat, ne, he, cres, ccnt, h0, hn, Question.forced, World.drew_is_drewN]
      · cases h
      · rename_i sg m e he
        split at h
        · rename_i ho
          have hn : isN s b = false := by unfold isN; rw [he]; rfl
          simp [Conv.floatToFloat, ne, he, ho, cres, ccnt, h0, hn, Question.forced, World.drew_is_drewN]
        · cases h
theorem run_cc {P : Program} (ts td : TypeId) (s k : FloatKind) (a b : Nat) (w : World) (hs : (P.underlying ts).isSome = true) (hd : P.underlying td = some (.complex k)) :
    (convert ts td (.complex s a b)).run P w = .ok (.complex k (cres s a k w) (cres s b k (w.drewN (ccnt s a k)))) (w.drewN (ccnt s a k + ccnt s b k)) := by
  obtain ⟨u, hs'⟩ := Option.isSome_iff_exists.1 hs
  cases u <;> simp [convert, run_underlying hs', run_underlying hd, Conv.complexToComplex, run_ff, World.drewN_drewN]
attribute [go_sem] run_cc
end Fl
theorem sameComplex_any (a b c d : Nat) (h1 : Sim .f64 a c) (h2 : Sim .f64 b d) (w : World) : Calls Try.prog 25 #[.complex .f64 a b, .complex .f64 c d] w fun e w' => e = .returned (.bool true) ∧ ∃ n, w' = w.drewN n := by
  have H1 := Lib.hid h1
  have H2 := Lib.hid h2
  clear h1 h2
  go_enter Try.func25, Try.ntmps25
  go_wp2_with (fail)
  refine (sameFloat_any _ _ H1.out _).mono ?_
  rintro e w' ⟨rfl, n, rfl⟩
  go_wp2_with (fail)
  refine (sameFloat_any _ _ H2.out _).mono ?_
  rintro e w' ⟨rfl, m, rfl⟩
  go_wp2
  go_ret
  exact ⟨rfl, _, rfl⟩
end Go.Proofs.Ytpjgodeabdcdcaa
