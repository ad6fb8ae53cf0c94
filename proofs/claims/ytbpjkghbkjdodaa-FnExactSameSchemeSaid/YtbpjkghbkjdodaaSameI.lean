/- The program's SameNumber, for all arguments. -/
import Derived.Test.YtbpjkghbkjdodaaSameN
namespace Go.Proofs.Ytbpjkghbkjdodaa
open Go.RowKit Fl Ieee

theorem SameNumber_any (a b : Nat) (ha : a < 4294967296) (hb : b < 4294967296) (w : World) : Calls Try.prog 59 #[.float .f32 a, .float .f32 b] w fun e w' => e = .returned (.bool (sameB a b)) ∧ ∃ n, w' = w.drewN n := by
  by_cases na : isN .f32 a = true
  · have oa := order_nan_l (y := a) na
    by_cases nb : isN .f32 b = true
    · have ob := order_nan_l (y := b) nb
      have hs : sameB a b = true := by unfold sameB; rw [bitsN_nan na, bitsN_nan nb]; rfl
      rw [hs]; clear na nb hs
      go_enter Try.func59, Try.ntmps59
      go_wp2
      go_ret
      exact ⟨rfl, 0, rfl⟩
    · have nb' : isN .f32 b = false := by simpa using nb
      have ob := order_self nb'
      have hs : sameB a b = false := by unfold sameB; rw [bitsN_nan na]; exact beq_eq_false_iff_ne.2 (fun e => bitsN_ne nb' e.symm)
      rw [hs]; clear na nb nb' hs
      go_enter Try.func59, Try.ntmps59
      go_wp2
      go_ret
      exact ⟨rfl, 0, rfl⟩
  · have na' : isN .f32 a = false := by simpa using na
    have oa := order_self na'
    by_cases nb : isN .f32 b = true
    · have ob := order_nan_l (y := b) nb
      have hs : sameB a b = false := by unfold sameB; rw [bitsN_nan nb]; exact beq_eq_false_iff_ne.2 (bitsN_ne na')
      rw [hs]; clear na na' nb hs
      go_enter Try.func59, Try.ntmps59
      go_wp2
      go_ret
      exact ⟨rfl, 0, rfl⟩
    · have nb' : isN .f32 b = false := by simpa using nb
      have ob := order_self nb'
      have hs : sameB a b = ((FloatKind.f32.format.order a b == some .eq) && (decide (2147483648 ≤ a) == decide (2147483648 ≤ b))) := by
        unfold sameB; rw [bitsN_of na', bitsN_of nb', Bool.eq_iff_iff]
        simp only [beq_iff_eq, Bool.and_eq_true]
        constructor
        · intro h; have : a = b := by omega
          subst this; exact ⟨oa, rfl⟩
        · intro ⟨h1, h2⟩; rw [eq_of_order ha hb h1 h2]
      rw [hs]
      have sa := fun w => (sign_wide ha na' w).1
      have sb := fun w => (sign_wide hb nb' w).1
      clear na na' nb nb' hs
      by_cases hz : (FloatKind.f32.format.order a b == some .eq) = true
      · rw [hz]
        have SA := Lib.hid sa
        have SB := Lib.hid sb
        clear sa sb
        go_enter Try.func59, Try.ntmps59
        go_wp2_with (fail)
        refine (Signbit_any _ (cres_lt (s := .f32) ha _) _).mono ?_
        rintro e w' ⟨rfl, rfl⟩
        go_wp2_with (fail)
        refine (Signbit_any _ (cres_lt (s := .f32) hb _) _).mono ?_
        rintro e w' ⟨rfl, rfl⟩
        go_wp2
        go_ret
        exact ⟨ret_bool (by rw [SA.out, SB.out]; simp), _, rfl⟩
      · simp only [Bool.not_eq_true] at hz
        rw [hz]
        clear sa sb
        go_enter Try.func59, Try.ntmps59
        go_wp2
        go_ret
        exact ⟨rfl, 0, rfl⟩
end Go.Proofs.Ytbpjkghbkjdodaa
