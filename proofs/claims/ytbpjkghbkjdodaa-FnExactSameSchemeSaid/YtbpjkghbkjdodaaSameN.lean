/- The program's SameNumber and the reference's l01Same answer alike, for all arguments. -/
import Derived.Test.YtbpjkghbkjdodaaBits
import Derived.Test.YtbpjkghbkjdodaaOps
import Derived.Test.YtbpjkghbkjdodaaSignbit
namespace Go.Proofs.Ytbpjkghbkjdodaa
open Go.RowKit Fl Ieee

/-- the same number: the same bits, one NaN standing for all -/
def sameB (a b : Nat) : Bool := bitsN a == bitsN b

theorem l01Same_any (a b : Nat) (ha : a < 4294967296) (hb : b < 4294967296) (w : World) : Calls Try.prog 82 #[.float .f32 a, .float .f32 b] w fun e w' => e = .returned (.bool (sameB a b)) ∧ w = w' := by
  go_enter Try.func82, Try.ntmps82
  go_wp2_with (fail)
  refine (l01Bits_any a ha _).mono ?_
  rintro e w' ⟨rfl, rfl⟩
  go_wp2_with (fail)
  refine (l01Bits_any b hb _).mono ?_
  rintro e w' ⟨rfl, rfl⟩
  go_wp2
  go_ret
  exact ⟨rfl, rfl⟩

theorem isN_quiet : isN .f32 2143289344 = true := isN_qn .f32

/-- the sign of a word that is no NaN -/
theorem sign_wide {a : Nat} (ha : a < 4294967296) (hn : isN .f32 a = false) (w : World) : decide (9223372036854775808 ≤ cres .f32 a .f64 w) = decide (2147483648 ≤ a) ∧ floatToFloatBits .f32 a .f64 ≠ none := by
  rcases kinds .f32 (w := a) ha with ⟨s, r, hr, rfl⟩ | ⟨s, rfl⟩ | h
  · rw [fmt32] at *
    obtain ⟨q, hq, _, e⟩ := widen_word s rfl (r := r) (by rw [I32] at hr; exact hr)
    rw [cres_some w e, e]
    refine ⟨?_, by simp⟩
    rw [decide_eq_decide]
    rw [I32] at hr
    unfold Format.word; rw [S32, S64]
    cases s <;> simp <;> omega
  · rw [fmt32, cres_some w (widen_inf s), widen_inf]
    refine ⟨?_, by simp⟩
    rw [decide_eq_decide]
    unfold Format.word; rw [S32, S64, I32, I64]
    cases s <;> simp
  · rw [h] at hn; cases hn

/-- equal numbers with one sign are one word -/
theorem eq_of_order {a b : Nat} (ha : a < 4294967296) (hb : b < 4294967296) (h : FloatKind.f32.format.order a b = some .eq) (hs : decide (2147483648 ≤ a) = decide (2147483648 ≤ b)) : a = b := by
  rw [decide_eq_decide] at hs
  rcases kinds .f32 (w := a) ha with ⟨s, r, hr, rfl⟩ | ⟨s, rfl⟩ | hn
  · rcases kinds .f32 (w := b) hb with ⟨t, q, hq, rfl⟩ | ⟨t, rfl⟩ | hn
    · rw [order_words _ s t hr hq] at h
      have := cmp_eq.1 (Option.some.inj h)
      rw [fmt32] at *
      rw [I32] at hr hq
      have hst : s = t := by
        unfold Format.word at hs; rw [S32] at hs
        cases s <;> cases t <;> simp at hs ⊢ <;> omega
      subst hst
      have : mval single r = mval single q := by unfold sv at this; cases s <;> simp at this <;> omega
      rw [mval_inj this]
    · rw [fmt32] at *
      exfalso
      obtain ⟨m, d, e, _⟩ := read_num single s hr
      unfold Format.order at h
      rw [e, read_inf single t (by rw [B32, I32]; omega)] at h
      simp only [Datum.order] at h
      cases t <;> simp at h
    · rw [order_nan_r hn] at h; cases h
  · rcases kinds .f32 (w := b) hb with ⟨t, q, hq, rfl⟩ | ⟨t, rfl⟩ | hn
    · rw [fmt32] at *
      exfalso
      obtain ⟨m, d, e, _⟩ := read_num single t hq
      unfold Format.order at h
      rw [e, read_inf single s (by rw [B32, I32]; omega)] at h
      simp only [Datum.order] at h
      cases s <;> simp at h
    · rw [fmt32] at *
      have hst : s = t := by
        unfold Format.word at hs; rw [S32, I32] at hs
        cases s <;> cases t <;> simp at hs ⊢
      rw [hst]
    · rw [order_nan_r hn] at h; cases h
  · rw [order_nan_l hn] at h; cases h

theorem bitsN_of {x : Nat} (h : isN .f32 x = false) : bitsN x = x := by unfold bitsN; rw [if_neg (by rw [h]; simp)]
theorem bitsN_nan {x : Nat} (h : isN .f32 x = true) : bitsN x = 2143289344 := by unfold bitsN; rw [if_pos h]
theorem bitsN_ne {x : Nat} (h : isN .f32 x = false) : bitsN x ≠ 2143289344 := by
  rw [bitsN_of h]; intro e
  have : x = 2143289344 := by omega
  rw [this, isN_quiet] at h; cases h
end Go.Proofs.Ytbpjkghbkjdodaa
