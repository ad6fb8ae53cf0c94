/- The square root of package math: what the model says of it, a pure form of it, its bound; and narrowing that cannot overflow. No condition. -/
import Derived.Test.YtpjgodeabdcdcaaExt
import Derived.Test.YtpjgodeabdcdcaaBnd
namespace Go.Proofs.Ytpjgodeabdcdcaa
open Go.RowKit Fl Ieee
namespace Fl
/-- the root, one NaN standing for all -/
def sop (x : Nat) : Nat := (double.sqrt x).getD (qn .f64)
def sres (x : Nat) (w : World) : Nat :=
  match double.sqrt x with
  | some r => r
  | none => (Question.nanBits .f64 x x).cut (w.tape w.drawn (.nanBits .f64 x x))
def scnt (x : Nat) : Nat := if (double.sqrt x).isSome then 0 else 1
theorem sres_sim (x : Nat) (w : World) : Sim .f64 (sres x w) (sop x) := by
  unfold sres sop
  cases h : double.sqrt x with
  | some r => exact .inl rfl
  | none => exact .inr ⟨nanBits_isN .f64 x x _, isN_qn _⟩
theorem sqrt_nan {x : Nat} (h : isN .f64 x = true) : double.sqrt x = none := by
  obtain ⟨s, t, e⟩ := (isN_iff _ _).1 h
  have h' : double.read x = .nan s t := e
  unfold Format.sqrt; rw [h']; rfl
theorem sop_congr {x y : Nat} (h : Sim .f64 x y) : sop x = sop y := by
  rcases h with rfl | ⟨a, b⟩
  · rfl
  · unfold sop; rw [sqrt_nan a, sqrt_nan b]
theorem sres_of {x y : Nat} (w : World) (h : Sim .f64 x y) : Sim .f64 (sres x w) (sop y) := by
  rw [← sop_congr h]; exact sres_sim x w
end Fl

@[go_sem] theorem ext_sqrt (x : Nat) (w : World) : (callFunc 64 #[.float .f64 x]).run Try.prog w = .ok (.value (.float .f64 (sres x w))) (w.drewN (scnt x)) := by
  refine (run_callFunc_extern Try.func64 (by kernel_rfl) (by kernel_rfl) (by kernel_rfl) (e := Extern.MathSqrt.sqrt) (by kernel_rfl) _ _).trans ?_
  have hf : Extern.MathSqrt.sqrt #[.float .f64 x] = (match double.sqrt x with | some r => pure (.float .f64 r) | none => do pure (.float .f64 (← choose (.nanBits .f64 x x)))) := rfl
  rw [hf]
  cases h : double.sqrt x with
  | some r => simp [h, sres, scnt, World.drewN_zero]
  | none => simp [h, sres, scnt, Question.forced, World.drew_is_drewN]
theorem Sqrt_any (x : Nat) (w : World) : Calls Try.prog 45 #[.float .f64 x] w fun e w' => e = .returned (.float .f64 (sres x w)) ∧ w' = w.drewN (scnt x) := by
  go_enter Try.func45, Try.ntmps45
  go_wp2
  go_ret
  exact ⟨rfl, rfl⟩

namespace Fl
/-! ### narrowing that cannot overflow -/
/-- a NaN, or a number (or an infinity) that a float32 holds -/
def Nar (x : Nat) : Prop := isN .f64 x = true ∨ ∃ r, floatToFloatBits .f64 x .f32 = some r
theorem Nar.congr {x y : Nat} (h : Sim .f64 x y) (hn : Nar y) : Nar x := by
  rcases h with rfl | ⟨a, _⟩
  · exact hn
  · exact .inl a
theorem nar_sim {x y : Nat} (w : World) (h : Sim .f64 x y) (hn : Nar y) : Sim .f32 (cres .f64 x .f32 w) (cop .f64 y .f32) := by
  by_cases hx : isN .f64 y = true
  · refine .inr ⟨cres_nan w (by decide) (by rw [h.isN_eq]; exact hx), ?_⟩
    rw [cop_nan (by decide) hx]; exact isN_qn _
  · obtain ⟨r, hr⟩ := hn.resolve_left hx
    rcases h with rfl | ⟨_, b⟩
    · rw [cres_some w hr]; unfold cop; rw [hr]; exact .inl rfl
    · exact absurd b hx
theorem nar_of_bd {e x : Nat} (h : Bd e x) (he : e ≤ 1149) : Nar x := by
  obtain ⟨s, r, _, e⟩ := narrow_bd h he
  exact .inr ⟨_, e⟩
theorem nar_inf (s : Bool) : Nar (double.word s double.infRung) := by
  refine .inr ⟨single.word s single.infRung, ?_⟩
  cases s <;> decide +kernel

/-! ### a widened number -/
theorem wide_kinds {x : Nat} (hx : x < 4294967296) : (isN .f32 x = false ∧ Bd 1151 (cop .f32 x .f64)) ∨ (∃ s, cop .f32 x .f64 = double.word s double.infRung) ∨ (isN .f32 x = true ∧ cop .f32 x .f64 = qn .f64) := by
  rcases kinds .f32 (w := x) hx with ⟨s, r, hr, rfl⟩ | ⟨s, rfl⟩ | h
  · left
    rw [fmt32] at *
    refine ⟨isN_word .f32 s (Nat.le_of_lt hr), ?_⟩
    obtain ⟨K, hK⟩ : ∃ K : Nat, K = 925 := ⟨_, rfl⟩
    obtain ⟨q, hq, hv, e⟩ := widen_word s hK (by rw [I32] at hr; exact hr)
    unfold cop; rw [e]
    obtain ⟨E, hE⟩ : ∃ E : Nat, E = 1151 := ⟨_, rfl⟩
    rw [← hE]
    refine ⟨s, q, rfl, by rw [I64]; exact hq, ?_⟩
    rw [hv]
    obtain ⟨C, hC⟩ : ∃ C : Nat, C = 255 := ⟨_, rfl⟩
    have hi : single.infRung = C * single.binade := by rw [hC]; rfl
    have h1 : mval single r ≤ mval single (C * single.binade) := by rw [← hi]; exact mval_le (Nat.le_of_lt hr)
    rw [mval_pow32 (by omega)] at h1
    refine Nat.le_trans (Nat.mul_le_mul_right _ h1) ?_
    rw [← Nat.pow_add]
    clear h1 hv e
    exact Nat.pow_le_pow_right (by omega) (by omega)
  · right; left
    refine ⟨s, ?_⟩
    unfold cop; rw [fmt32, widen_inf]; rfl
  · right; right
    exact ⟨h, cop_nan (by decide) h⟩

/-! ### the bound of a root -/
theorem rootFrom_le (n : Nat) : ∀ todo root, root * root ≤ n → Datum.rootFrom n todo root * Datum.rootFrom n todo root ≤ n
  | 0, root, h => h
  | todo + 1, root, h => by
    rw [Datum.rootFrom]
    split
    · exact rootFrom_le n todo _ (by assumption)
    · exact rootFrom_le n todo _ h

theorem sqrt_neg {x : Nat} {r : Nat} (hx : x = double.word true r) (hr : r < double.infRung) (h0 : mval double r ≠ 0) : double.sqrt x = none := by
  obtain ⟨m, d, e1, e2, _, _⟩ := read_num double true hr
  have hm : m ≠ 0 := by intro e; rw [e, Nat.zero_mul] at e2; exact h0 e2.symm
  unfold Format.sqrt; rw [hx, e1]
  simp only [Datum.root, if_neg hm]; rfl

theorem sqrt_bd {e c x : Nat} (h : Bd e x) (ho : e % 2 = 1) (hc : e + 1023 ≤ 2 * c) (hc1 : 1 ≤ c) (hc2 : c ≤ 2046) : isN .f64 (sop x) = true ∨ Bd c (sop x) := by
  obtain ⟨s, r, rfl, hr, hv⟩ := h
  obtain ⟨m, d, e1, e2, _, _⟩ := read_num double s hr
  by_cases hm : m = 0
  · right
    have : double.sqrt (double.word s r) = some (double.nearest s 0 (double.leastPlace + d)) := by
      unfold Format.sqrt; rw [e1]; subst hm; rfl
    unfold sop; rw [this]
    exact bd_nearest0 s hc1 hc2 (by simp)
  · cases s with
    | true =>
      left
      have := sqrt_neg (x := double.word true r) rfl hr (by rw [← e2]; exact Nat.ne_of_gt (Nat.mul_pos (by omega) (Nat.two_pow_pos _)))
      unfold sop; rw [this]; exact isN_qn _
    | false =>
      right
      obtain ⟨K, hK⟩ : ∃ K : Nat, K = 537 := ⟨_, rfl⟩
      have hP : double.leastPlace = -2 * (K : Int) := by rw [P64]; omega
      obtain ⟨more, hpar, hs⟩ : ∃ more : Nat, ((d : Int) - more) % 2 = 0 ∧ double.sqrt (double.word false r) = some (double.nearest false (2 * Datum.rootFrom (m * 2 ^ more) ((m * 2 ^ more).log2 / 2 + 1) 0 + (Datum.rootFrom (m * 2 ^ more) ((m * 2 ^ more).log2 / 2 + 1) 0 * Datum.rootFrom (m * 2 ^ more) ((m * 2 ^ more).log2 / 2 + 1) 0 != m * 2 ^ more).toNat) ((double.leastPlace + d - more) / 2 - 1)) := by
        refine ⟨2 * (double.fractionBits + 2) - m.log2 + ((double.leastPlace + d - (2 * (double.fractionBits + 2) - m.log2 : Nat)) % 2).toNat, ?_, ?_⟩
        · rw [hP]; generalize (2 * (double.fractionBits + 2) - m.log2 : Nat) = M; omega
        · unfold Format.sqrt; rw [e1]
          simp only [Datum.root, if_neg hm, Nat.shiftLeft_eq]
          rfl
      rw [show sop (double.word false r) = _ from by unfold sop; rw [hs, Option.getD_some]]
      generalize hn : m * 2 ^ more = n at *
      have hw := rootFrom_le n (n.log2 / 2 + 1) 0 (by omega)
      generalize Datum.rootFrom n (n.log2 / 2 + 1) 0 = whole at *
      have hde : d ≤ 51 + e := by
        rcases Nat.lt_or_ge (51 + e) d with g | g
        · have h1 : 2 ^ d ≤ m * 2 ^ d := Nat.le_mul_of_pos_left _ (by omega)
          have h2 : 2 ^ (51 + e) < 2 ^ d := Nat.pow_lt_pow_right (by omega) g
          omega
        · exact g
      obtain ⟨t, ht⟩ : ∃ t, 51 + e - d + more = 2 * t := ⟨(51 + e - d + more) / 2, by omega⟩
      have hnt : n ≤ 2 ^ t * 2 ^ t := by
        rw [← Nat.pow_add, ← hn]
        have h1 : m ≤ 2 ^ (51 + e - d) := by
          refine Nat.le_of_mul_le_mul_right ?_ (Nat.two_pow_pos d)
          rw [← Nat.pow_add]
          have : 51 + e - d + d = 51 + e := by omega
          rw [this, e2]; exact hv
        refine Nat.le_trans (Nat.mul_le_mul_right _ h1) ?_
        rw [← Nat.pow_add]
        exact Nat.pow_le_pow_right (by omega) (by omega)
      have hwt : whole ≤ 2 ^ t := by
        rcases Nat.lt_or_ge (2 ^ t) whole with g | g
        · have := Nat.mul_lt_mul'' g g; omega
        · exact g
      have hT : 2 * whole + (whole * whole != n).toNat ≤ 2 ^ (t + 1) := by
        rw [Nat.pow_succ]
        rcases Nat.lt_or_eq_of_le hwt with g | g
        · have hb : (whole * whole != n).toNat ≤ 1 := by cases (whole * whole != n) <;> simp
          omega
        · have : whole * whole = n := by rw [g] at hw ⊢; omega
          have hb : (whole * whole != n) = false := by rw [this]; simp
          rw [hb]; simp; omega
      have hpl : (double.leastPlace + (d : Int) - more) / 2 - 1 = double.leastPlace + ((d + 2 * K : Nat) : Int) - (((d + 2 * K + more) / 2 + 1 : Nat) : Int) := by rw [hP]; omega
      rw [hpl]
      refine bd_nearest false hc1 hc2 ?_
      refine Nat.le_trans (Nat.mul_le_mul_right _ hT) ?_
      rw [← Nat.pow_add, ← Nat.pow_add]
      exact Nat.pow_le_pow_right (by omega) (by omega)
end Fl
end Go.Proofs.Ytpjgodeabdcdcaa
