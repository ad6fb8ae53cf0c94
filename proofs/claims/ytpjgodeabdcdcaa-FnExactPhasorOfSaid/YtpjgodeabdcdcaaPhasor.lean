/- The point of the unit circle at some turns: a pure form, and that the program's and the reference's walks compute it. No condition. -/
import Derived.Test.YtpjgodeabdcdcaaRange
import Derived.Test.YtpjgodeabdcdcaaLog
import Derived.Test.YtpjgodeabdcdcaaChecked
namespace Go.Proofs.Ytpjgodeabdcdcaa
open Go.RowKit Fl Ieee
namespace Fl
/-- as long as it is a quarter or more, a quarter is taken off -/
def ph : Nat → Nat → Nat → Nat × Nat
  | 0, f, q => (f, q)
  | n + 1, f, q => if FloatKind.f64.format.order f quart64 == some .gt || FloatKind.f64.format.order f quart64 == some .eq then ph n (fop .sub .f64 f quart64) (q + 1) else (f, q)
/-- both parts, in 64 bits -/
def turnC (q c s : Nat) : Nat × Nat := match q with
  | 1 => (fop .sub .f64 0 s, c)
  | 2 => (fop .sub .f64 0 c, fop .sub .f64 0 s)
  | 3 => (s, fop .sub .f64 0 c)
  | _ => (c, s)
def phasF (y : Nat) : Nat × Nat := turnC (ph 4 (fracF y) 0).2 (sineF (fop .sub .f64 quart64 (ph 4 (fracF y) 0).1)) (sineF (ph 4 (fracF y) 0).1)

/-- not negative but for a zero, at most j quarters -/
def Quart (j f : Nat) : Prop := ∃ s r, f = double.word s r ∧ r < double.infRung ∧ (s = false ∨ r = 0) ∧ mval double r ≤ j * mval double quart64
theorem quart_val {C : Nat} (hC : C = 1021) : mval double quart64 = 2 ^ (51 + C) := by
  rw [← mval_pow (by omega)]; congr 1; rw [hC, B64]
theorem Quart.bd {j f : Nat} (h : Quart j f) (hj : j ≤ 4) : Bd 1023 f := by
  obtain ⟨s, r, h1, h2, _, h3⟩ := h
  obtain ⟨C, hC⟩ : ∃ C : Nat, C = 1021 := ⟨_, rfl⟩
  rw [quart_val hC] at h3
  obtain ⟨D, hD⟩ : ∃ D : Nat, D = 1023 := ⟨_, rfl⟩
  rw [← hD]
  refine ⟨s, r, h1, h2, Nat.le_trans h3 (Nat.le_trans (Nat.mul_le_mul_right _ hj) ?_)⟩
  have : (4 : Nat) = 2 ^ 2 := rfl
  rw [this, ← Nat.pow_add]
  exact Nat.pow_le_pow_right (by omega) (by omega)
theorem quart_inf : quart64 < double.infRung := by rw [I64]; decide
theorem Quart.on {j f : Nat} (h : Quart j f) (g : (FloatKind.f64.format.order f quart64 == some .gt || FloatKind.f64.format.order f quart64 == some .eq) = true) : ∃ r, f = r ∧ r < double.infRung ∧ quart64 ≤ r ∧ mval double r ≤ j * mval double quart64 := by
  obtain ⟨s, r, rfl, h2, hs, h3⟩ := h
  have hg := geq_words s false h2 quart_inf
  rw [word_false quart64] at hg
  rw [hg] at g
  have g' := of_decide_eq_true g
  have hp : 0 < mval double quart64 := Nat.pos_of_ne_zero (fun e => absurd (mval_zero e) (by decide))
  rcases hs with rfl | rfl
  · refine ⟨r, word_false r, h2, ?_, h3⟩
    unfold sv at g'
    simp only [Bool.false_eq_true, ↓reduceIte] at g'
    exact le_of_mval (f := double) (Int.ofNat_le.1 g')
  · exfalso
    have h0 : mval double 0 = 0 := mval_small (by rw [B64]; omega)
    rw [h0] at g'
    unfold sv at g'
    cases s <;> simp at g' <;> omega
theorem qv2 : mval double half64 = 2 * mval double quart64 := by decide +kernel
theorem qv3 : mval double 4604930618986332160 = 3 * mval double quart64 := by decide +kernel
theorem qv0 : mval double 0 = 0 := by decide +kernel
theorem Quart.less {j f : Nat} (h : Quart j f) (hj : j ≤ 4) (g : (FloatKind.f64.format.order f quart64 == some .gt || FloatKind.f64.format.order f quart64 == some .eq) = true) : 1 ≤ j ∧ Quart (j - 1) (fop .sub .f64 f quart64) := by
  obtain ⟨r, rfl, h2, h4, h3⟩ := h.on g
  have hp : 0 < mval double quart64 := Nat.pos_of_ne_zero (fun e => absurd (mval_zero e) (by decide))
  have hle := mval_le (f := double) h4
  obtain ⟨Q, hQ⟩ : ∃ Q, Q = mval double quart64 := ⟨_, rfl⟩
  have hj1 : 1 ≤ j := by
    rcases Nat.eq_zero_or_pos j with rfl | h
    · omega
    · exact h
  refine ⟨hj1, ?_⟩
  obtain ⟨T, D, e, he⟩ := sub_words double false false h2 quart_inf
  unfold Quart
  rw [← hQ] at he h3 hp hle ⊢
  rw [word_false, word_false, ← hQ] at e
  rw [fop_of (op := .sub) (k := .f64) e]
  have hv : (sv false (mval double f) - sv false (Q)).natAbs = mval double f - Q := by unfold sv; simp; omega
  rw [hv] at he
  have hneg : (if sv false (mval double f) - sv false (Q) = 0 then false && !false else decide (sv false (mval double f) - sv false (Q) < 0)) = false := by
    unfold sv; simp only [Bool.false_eq_true, ↓reduceIte, Bool.false_and]
    split
    · rfl
    · exact decide_eq_false (by omega)
  rw [hneg]
  obtain ⟨R, hR, hRv⟩ : ∃ R, R < double.infRung ∧ mval double R = (j - 1) * Q := by
    have h5 : j = 1 ∨ j = 2 ∨ j = 3 ∨ j = 4 := by omega
    rcases h5 with rfl | rfl | rfl | rfl
    · exact ⟨0, by rw [I64]; omega, by rw [qv0]; omega⟩
    · exact ⟨quart64, quart_inf, by rw [← hQ]; omega⟩
    · exact ⟨half64, by rw [I64]; decide, by rw [qv2, ← hQ]⟩
    · exact ⟨4604930618986332160, by rw [I64]; decide, by rw [qv3, ← hQ]⟩
  obtain ⟨r', hr', e'⟩ := nearest_le double false (m := T) (d := D) (b := 0) (r := R) (by
    rw [he, Nat.pow_zero, Nat.mul_one, hRv]
    have : (j - 1) * Q + Q = j * Q := by rw [← Nat.succ_mul]; congr 1; omega
    omega)
  have e'' : double.nearest false T (double.leastPlace + (D : Int)) = double.word false r' := by rw [← e']; congr 1; omega
  exact ⟨false, r', e'', Nat.lt_of_le_of_lt hr' hR, .inl rfl, by rw [← hRv]; exact mval_le hr'⟩

theorem w_bd2 {f : Nat} (h : Bd 1024 f) : Bd 1117 (sinF f) := by
  have hz : Bd 1029 (zF f) := mul_bd (fold_bd h) turn_bd (by omega) (by omega) (by omega)
  have hu := mul_bd (c := 1035) hz hz (by omega) (by omega) (by omega)
  have hp := pS_bd hu 8 (by omega)
  have hw : Bd 1117 (wF f) := by unfold wF; exact mul_bd hz hp (by omega) (by omega) (by omega)
  unfold sinF; split
  · exact neg_bd hw
  · exact hw
/-- a small number goes through the sine -/
theorem small_args {x : Nat} (h : Bd 1024 x) : (FloatKind.f64.format.order (fop .sub .f64 x x) 0 != some .eq) = false ∧
    (FloatKind.f64.format.order x 4841369599423283200 == some .gt || FloatKind.f64.format.order x 4841369599423283200 == some .eq) = false ∧
    (FloatKind.f64.format.order x 14064741636278059008 == some .lt || FloatKind.f64.format.order x 14064741636278059008 == some .eq) = false ∧
    (∃ n, floatToIntVal .f64 x .i64 = some n) ∧ Bd 1117 (sineF x) := by
  obtain ⟨s, r, rfl, hr, hv⟩ := h
  obtain ⟨K, hK⟩ : ∃ K : Nat, K = 1074 := ⟨_, rfl⟩
  have hb : ¬ R52 ≤ r := by
    intro g
    have h1 := mval_le (f := double) g
    rw [R52_val hK] at h1
    obtain ⟨C, hC⟩ : ∃ C : Nat, C = 1024 := ⟨_, rfl⟩
    rw [← hC] at hv
    have h2 : 2 ^ (51 + C) = 2 * 2 ^ K := by rw [← Nat.pow_succ']; congr 1; omega
    have := Nat.two_pow_pos K
    omega
  refine ⟨self_ok s hr, ?_, ?_, ⟨_, small_int hK s hr hb⟩, w_bd2 (frac_bd hK hr (small_val hK hb))⟩
  · cases s with
    | false => rw [big_pos hr]; exact decide_eq_false hb
    | true => exact big_pos' hr
  · cases s with
    | true => rw [big_neg hr]; exact decide_eq_false hb
    | false => exact big_neg' hr
theorem one_val {C : Nat} (hC : C = 1023) : mval double one64 = 2 ^ (51 + C) := by
  rw [← mval_pow (by omega)]; congr 1; rw [hC, B64]
theorem frac_quart {y : Nat} (h : Bd 1023 (fop .sub .f64 y (wholeF y))) : Quart 4 (fracF y) := by
  unfold fracF
  obtain ⟨t, q, e, hq, hv⟩ := h
  rw [e]
  obtain ⟨C, hC⟩ : ∃ C : Nat, C = 1021 := ⟨_, rfl⟩
  obtain ⟨D, hD⟩ : ∃ D : Nat, D = 1023 := ⟨_, rfl⟩
  have hQ : 4 * mval double quart64 = 2 ^ (51 + D) := by
    rw [quart_val hC]
    have : (4 : Nat) = 2 ^ 2 := rfl
    rw [this, ← Nat.pow_add]; congr 1; omega
  have h1 := one_val hD
  rw [← hD] at hv
  unfold Quart
  rw [hQ]
  clear hQ
  generalize 2 ^ (51 + D) = W at *
  have ho := order_words double t false (r := q) (q := 0) hq (by rw [I64]; omega)
  rw [word_false 0, qv0] at ho
  rw [fmt64, ho]
  by_cases hneg : sv t (mval double q) < 0
  · have g : (some (compare (sv t (mval double q)) (sv false 0)) == some Ordering.lt) = true := by
      rw [beq_iff_eq, Option.some.injEq, cmp_lt]; exact hneg
    rw [if_pos g]
    have ht : t = true := by
      cases t with
      | true => rfl
      | false => exfalso; unfold sv at hneg; simp at hneg; omega
    subst ht
    have hoi : one64 < double.infRung := by rw [I64]; decide
    have hw1 := word_false one64
    generalize one64 = o at *
    obtain ⟨T, E, e2, he⟩ := add_words double true false hq hoi
    rw [hw1, h1] at e2
    rw [h1] at he
    rw [fop_of (op := .add) (k := .f64) e2]
    have hs : (if sv true (mval double q) + sv false W = 0 then true && false else decide (sv true (mval double q) + sv false W < 0)) = false := by
      split
      · rfl
      · refine decide_eq_false ?_
        unfold sv; simp; omega
    rw [hs]
    obtain ⟨r', hr', e'⟩ := nearest_le double false (m := T) (d := E) (b := 0) (r := o) (by
      rw [he, Nat.pow_zero, Nat.mul_one, h1]
      unfold sv; simp; omega)
    have e'' : double.nearest false T (double.leastPlace + (E : Int)) = double.word false r' := by rw [← e']; congr 1; omega
    refine ⟨false, r', e'', Nat.lt_of_le_of_lt hr' hoi, .inl rfl, ?_⟩
    rw [← h1]; exact mval_le hr'
  · have g : (some (compare (sv t (mval double q)) (sv false 0)) == some Ordering.lt) = false := by
      rw [beq_eq_false_iff_ne]; intro h; rw [Option.some.injEq, cmp_lt] at h; exact hneg h
    rw [if_neg (by rw [g]; decide)]
    refine ⟨t, q, rfl, hq, ?_, hv⟩
    cases t with
    | false => exact .inl rfl
    | true =>
      right
      have : mval double q = 0 := by unfold sv at hneg; simp at hneg; omega
      exact mval_zero this
theorem ph_step {n f q : Nat} (h : (FloatKind.f64.format.order f quart64 == some .gt || FloatKind.f64.format.order f quart64 == some .eq) = true) : ph (n + 1) f q = ph n (fop .sub .f64 f quart64) (q + 1) := by
  rw [ph, if_pos h]
theorem ph_stop {n f q : Nat} (h : (FloatKind.f64.format.order f quart64 == some .gt || FloatKind.f64.format.order f quart64 == some .eq) = false) : ph n f q = (f, q) := by
  cases n with
  | zero => rfl
  | succ n => rw [ph, if_neg (by rw [h]; decide)]
end Fl
theorem isFinite64_any (x : Nat) (w : World) : Calls Try.prog 48 #[.float .f64 x] w fun e w' => e = .returned (.bool (FloatKind.f64.format.order (fop .sub .f64 x x) 0 == some .eq)) ∧ ∃ n, w' = w.drewN n := by
  go_enter Try.func48, Try.ntmps48
  go_wp2
  go_ret
  exact ⟨rfl, _, rfl⟩
set_option maxHeartbeats 1000000 in
set_option maxRecDepth 100000 in
theorem PhasorOf_yes (y : Nat) (n : Int) (hn : floatToIntVal .f64 y .i64 = some n) (hb : Bd 1023 (fop .sub .f64 y (wholeF y))) (g0 : (FloatKind.f64.format.order (fop .sub .f64 y y) 0 == some .eq) = true) (hy : y < 18446744073709551616) (hbig : (FloatKind.f64.format.order (y % 9223372036854775808) 4841369599423283200 == some .gt || FloatKind.f64.format.order (y % 9223372036854775808) 4841369599423283200 == some .eq) = false) (w : World) : Calls Try.prog 24 #[.float .f64 y] w fun e w' => ∃ a b, e = .returned (.complex .f32 a b) ∧ Sim .f32 a (cop .f64 (phasF y).1 .f32) ∧ Sim .f32 b (cop .f64 (phasF y).2 .f32) ∧ ∃ c, w' = w.drewN c := by
  obtain ⟨P, hP⟩ : ∃ P, P = ph 4 (fracF y) 0 := ⟨_, rfl⟩
  have HPH := Lib.hid (show phasF y = turnC P.2 (sineF (fop .sub .f64 quart64 P.1)) (sineF P.1) by rw [hP]; rfl)
  have HP := Lib.hid hP
  have HQ4 := Lib.hid (frac_quart hb)
  generalize phasF y = R at *
  clear hP
  have HN := Lib.hid hn
  have HFB := Lib.hid ((frac_quart hb).bd (by omega))
  have HY := Lib.hid hy
  clear hn hb hy
  go_enter Try.func24, Try.ntmps24
  go_wp2_with (first | (go_at_call 48; refine (isFinite64_any _ _).mono ?_; rintro e w' ⟨rfl, m, rfl⟩) | (go_at_call 42; refine (Abs_any _ HY.out _).mono ?_; rintro e w' ⟨rfl, rfl⟩) | (go_at_call 49; refine (fraction_any y n HN.out _).mono ?_; rintro e w' ⟨v, rfl, hv, m, rfl⟩; obtain rfl := hv.eq_bd HFB.out; clear hv))
  go_loopw [4, 5] (fun v4 v5 w' => ∃ (f q : Nat), v4 = .float .f64 f ∧ v5 = .int .i64 q ∧ RowKit.Hid (q ≤ 4 ∧ Quart (4 - q) f ∧ P = ph (4 - q) f q) ∧ RowKit.Hid (∃ c, w' = w.drewN c)) (fun _ v5 _ => 4 - (intOf v5).toNat)
  case atStart => exact ⟨fracF y, 0, rfl, rfl, (show _ ∧ _ ∧ _ from ⟨by omega, HQ4.out, HP.out⟩), (show ∃ c, _ = w.drewN c from ⟨_, rfl⟩)⟩
  case round =>
    obtain ⟨f, q, rfl, rfl, HI, HW⟩ := hrel
    cases g : (FloatKind.f64.format.order f 4598175219545276416 == some .gt || FloatKind.f64.format.order f 4598175219545276416 == some .eq)
    case true =>
      obtain ⟨hq1, hq2⟩ := HI.out.2.1.less (by omega) g
      have hq3 : q < 4 := by omega
      obtain ⟨f', hf'⟩ : ∃ f', f' = fop .sub .f64 f 4598175219545276416 := ⟨_, rfl⟩
      have hf : ∀ w, fres .sub .f64 f 4598175219545276416 w = f' := fun w => (fres_bd w (hq2.bd (by omega))).trans hf'.symm
      have HN2 : RowKit.Hid (q + 1 ≤ 4 ∧ Quart (4 - (q + 1)) f' ∧ P = ph (4 - (q + 1)) f' (q + 1)) := by
        refine (show _ ∧ _ ∧ _ from ⟨by omega, ?_, ?_⟩)
        · rw [hf', show 4 - (q + 1) = 4 - q - 1 by omega]; exact hq2
        · rw [hf']
          have := HI.out.2.2
          rw [show 4 - q = 4 - (q + 1) + 1 by omega, ph_step g] at this
          exact this
      clear hf' hq2
      go_wp2
      go_roundw
      case rel => exact ⟨f', q + 1, rfl, by go_num, HN2, (by obtain ⟨c, h⟩ := HW.out; exact ⟨_, by rw [h]; simp only [World.drewN_drewN]; rfl⟩)⟩
      case measure => simp [intOf]; omega
    case false =>
      have hPf : P = (f, q) := by rw [HI.out.2.2]; exact ph_stop g
      have hq4 := HI.out.1
      have hfb : Bd 1024 f := (HI.out.2.1.bd (by omega)).mono (by omega)
      have hdb : Bd 1024 (fop .sub .f64 quart64 f) := sub_bd (const_bd (e := 1023) (by rw [B64]; decide) (by omega) (by omega)) (HI.out.2.1.bd (by omega)) (by omega) (by omega) (by omega)
      have hd : ∀ w, fres .sub .f64 4598175219545276416 f w = fop .sub .f64 4598175219545276416 f := fun w => fres_bd w hdb
      obtain ⟨a1, a2, a3, ⟨n1, a4⟩, a5⟩ := small_args hdb
      obtain ⟨b1, b2, b3, ⟨n2, b4⟩, b5⟩ := small_args hfb
      have HPF := Lib.hid (show R = turnC q (sineF (fop .sub .f64 4598175219545276416 f)) (sineF f) by rw [HPH.out, hPf])
      have HI1 := Lib.hid a4
      have HI2 := Lib.hid b4
      have HG1 := Lib.hid (And.intro a1 (And.intro a2 a3))
      have HG2 := Lib.hid (And.intro b1 (And.intro b2 b3))
      have HNC := Lib.hid (nar_of_bd a5 (by omega))
      have HNS := Lib.hid (nar_of_bd b5 (by omega))
      have HNC0 := Lib.hid (nar_of_bd (sub_bd (c := 1118) (const_bd (e := 1023) (c := 0) (by omega) (by omega) (by omega)) a5 (by omega) (by omega) (by omega)) (by omega))
      have HNS0 := Lib.hid (nar_of_bd (sub_bd (c := 1118) (const_bd (e := 1023) (c := 0) (by omega) (by omega) (by omega)) b5 (by omega) (by omega) (by omega)) (by omega))
      clear hPf hfb hdb a1 a2 a3 a4 a5 b1 b2 b3 b4 b5 HI
      generalize hdd : fop .sub .f64 4598175219545276416 f = d at *
      clear hdd
      rcases (show q = 0 ∨ q = 1 ∨ q = 2 ∨ q = 3 ∨ q = 4 by omega) with rfl | rfl | rfl | rfl | rfl
      · clear hq4
        go_wp2_with (fail)
        refine (sine_any _ _ HI1.out _).mono ?_
        rintro e w' ⟨cc, rfl, hcc, m1, rfl⟩
        have HC := Lib.hid hcc
        clear hcc
        go_wp2_with (fail)
        refine (sine_any _ _ HI2.out _).mono ?_
        rintro e w' ⟨ss, rfl, hss, m2, rfl⟩
        have HS := Lib.hid hss
        clear hss
        go_wp2
        go_ret
        refine ⟨_, _, rfl, ?_, ?_, by obtain ⟨c, h⟩ := HW.out; exact ⟨_, by rw [h]; simp only [World.drewN_drewN]; rfl⟩⟩
        · rw [HPF.out]; exact nar_sim _ HC.out HNC.out
        · rw [HPF.out]; exact nar_sim _ HS.out HNS.out
      · clear hq4
        go_wp2_with (fail)
        refine (sine_any _ _ HI1.out _).mono ?_
        rintro e w' ⟨cc, rfl, hcc, m1, rfl⟩
        have HC := Lib.hid hcc
        clear hcc
        go_wp2_with (fail)
        refine (sine_any _ _ HI2.out _).mono ?_
        rintro e w' ⟨ss, rfl, hss, m2, rfl⟩
        have HS := Lib.hid hss
        clear hss
        go_wp2
        go_ret
        refine ⟨_, _, rfl, ?_, ?_, by obtain ⟨c, h⟩ := HW.out; exact ⟨_, by rw [h]; simp only [World.drewN_drewN]; rfl⟩⟩
        · rw [HPF.out]; exact nar_sim _ (fres_of _ (Sim.refl ..) HS.out) HNS0.out
        · rw [HPF.out]; exact nar_sim _ HC.out HNC.out
      · clear hq4
        go_wp2_with (fail)
        refine (sine_any _ _ HI1.out _).mono ?_
        rintro e w' ⟨cc, rfl, hcc, m1, rfl⟩
        have HC := Lib.hid hcc
        clear hcc
        go_wp2_with (fail)
        refine (sine_any _ _ HI2.out _).mono ?_
        rintro e w' ⟨ss, rfl, hss, m2, rfl⟩
        have HS := Lib.hid hss
        clear hss
        go_wp2
        go_ret
        refine ⟨_, _, rfl, ?_, ?_, by obtain ⟨c, h⟩ := HW.out; exact ⟨_, by rw [h]; simp only [World.drewN_drewN]; rfl⟩⟩
        · rw [HPF.out]; exact nar_sim _ (fres_of _ (Sim.refl ..) HC.out) HNC0.out
        · rw [HPF.out]; exact nar_sim _ (fres_of _ (Sim.refl ..) HS.out) HNS0.out
      · clear hq4
        go_wp2_with (fail)
        refine (sine_any _ _ HI1.out _).mono ?_
        rintro e w' ⟨cc, rfl, hcc, m1, rfl⟩
        have HC := Lib.hid hcc
        clear hcc
        go_wp2_with (fail)
        refine (sine_any _ _ HI2.out _).mono ?_
        rintro e w' ⟨ss, rfl, hss, m2, rfl⟩
        have HS := Lib.hid hss
        clear hss
        go_wp2
        go_ret
        refine ⟨_, _, rfl, ?_, ?_, by obtain ⟨c, h⟩ := HW.out; exact ⟨_, by rw [h]; simp only [World.drewN_drewN]; rfl⟩⟩
        · rw [HPF.out]; exact nar_sim _ HS.out HNS.out
        · rw [HPF.out]; exact nar_sim _ (fres_of _ (Sim.refl ..) HC.out) HNC0.out
      · clear hq4
        go_wp2_with (fail)
        refine (sine_any _ _ HI1.out _).mono ?_
        rintro e w' ⟨cc, rfl, hcc, m1, rfl⟩
        have HC := Lib.hid hcc
        clear hcc
        go_wp2_with (fail)
        refine (sine_any _ _ HI2.out _).mono ?_
        rintro e w' ⟨ss, rfl, hss, m2, rfl⟩
        have HS := Lib.hid hss
        clear hss
        go_wp2
        go_ret
        refine ⟨_, _, rfl, ?_, ?_, by obtain ⟨c, h⟩ := HW.out; exact ⟨_, by rw [h]; simp only [World.drewN_drewN]; rfl⟩⟩
        · rw [HPF.out]; exact nar_sim _ HC.out HNC.out
        · rw [HPF.out]; exact nar_sim _ HS.out HNS.out
set_option maxHeartbeats 1000000 in
set_option maxRecDepth 100000 in
theorem l01Phasor_yes (y : Nat) (n : Int) (hn : floatToIntVal .f64 y .i64 = some n) (hb : Bd 1023 (fop .sub .f64 y (wholeF y))) (g0 : (FloatKind.f64.format.order (fop .sub .f64 y y) 0 != some .eq) = false) (hbig : (FloatKind.f64.format.order y 4841369599423283200 == some .gt || FloatKind.f64.format.order y 4841369599423283200 == some .eq) = false) (hlow : (FloatKind.f64.format.order y 14064741636278059008 == some .lt || FloatKind.f64.format.order y 14064741636278059008 == some .eq) = false) (w : World) : Calls Try.prog 47 #[.float .f64 y] w fun e w' => ∃ a b, e = .returned (.complex .f32 a b) ∧ Sim .f32 a (cop .f64 (phasF y).1 .f32) ∧ Sim .f32 b (cop .f64 (phasF y).2 .f32) ∧ ∃ c, w' = w.drewN c := by
  obtain ⟨P, hP⟩ : ∃ P, P = ph 4 (fracF y) 0 := ⟨_, rfl⟩
  have HPH := Lib.hid (show phasF y = turnC P.2 (sineF (fop .sub .f64 quart64 P.1)) (sineF P.1) by rw [hP]; rfl)
  have HP := Lib.hid hP
  have HQ4 := Lib.hid (frac_quart hb)
  generalize phasF y = R at *
  clear hP
  have hi : ∀ w, ires .f64 y .i64 w = n := fun w => ires_some w hn
  have hw : wholeF y = floatOfInt .f64 n := by unfold wholeF; rw [hn]; rfl
  have hs : ∀ w, fres .sub .f64 y (floatOfInt .f64 n) w = fop .sub .f64 y (floatOfInt .f64 n) := fun w => by rw [← hw]; exact fres_bd w hb
  have ha : ∀ w, fres .add .f64 (fop .sub .f64 y (floatOfInt .f64 n)) 4607182418800017408 w = fop .add .f64 (fop .sub .f64 y (floatOfInt .f64 n)) 4607182418800017408 := fun w => by rw [← hw]; exact fres_bd w (add_bd (c := 1024) hb one_bd (by omega) (by omega) (by omega))
  cases hg : (FloatKind.f64.format.order (fop .sub .f64 y (floatOfInt .f64 n)) 0 == some .lt)
  case false =>
    have hF : fracF y = (fop .sub .f64 y (floatOfInt .f64 n)) := by unfold fracF; rw [hw, hg]; rfl
    have HF := Lib.hid hF
    clear hF hw hb hn
    go_enter Try.func47, Try.ntmps47
    go_wp2
    generalize hvv : (fop .sub .f64 y (floatOfInt .f64 n)) = v
    have HV := Lib.hid (show fracF y = v by rw [HF.out, hvv])
    clear hvv
    have hv0 := HV.out
    subst hv0
    clear HV
    go_loopw [3, 4] (fun v4 v5 w' => ∃ (f q : Nat), v4 = .float .f64 f ∧ v5 = .int .i64 q ∧ RowKit.Hid (q ≤ 4 ∧ Quart (4 - q) f ∧ P = ph (4 - q) f q) ∧ RowKit.Hid (∃ c, w' = w.drewN c)) (fun _ v5 _ => 4 - (intOf v5).toNat)
    case atStart => exact ⟨fracF y, 0, rfl, rfl, (show _ ∧ _ ∧ _ from ⟨by omega, HQ4.out, HP.out⟩), (show ∃ c, _ = w.drewN c from ⟨_, rfl⟩)⟩
    case round =>
      obtain ⟨f, q, rfl, rfl, HI, HW⟩ := hrel
      cases g : (FloatKind.f64.format.order f 4598175219545276416 == some .gt || FloatKind.f64.format.order f 4598175219545276416 == some .eq)
      case true =>
        obtain ⟨hq1, hq2⟩ := HI.out.2.1.less (by omega) g
        have hq3 : q < 4 := by omega
        obtain ⟨f', hf'⟩ : ∃ f', f' = fop .sub .f64 f 4598175219545276416 := ⟨_, rfl⟩
        have hf : ∀ w, fres .sub .f64 f 4598175219545276416 w = f' := fun w => (fres_bd w (hq2.bd (by omega))).trans hf'.symm
        have HN2 : RowKit.Hid (q + 1 ≤ 4 ∧ Quart (4 - (q + 1)) f' ∧ P = ph (4 - (q + 1)) f' (q + 1)) := by
          refine (show _ ∧ _ ∧ _ from ⟨by omega, ?_, ?_⟩)
          · rw [hf', show 4 - (q + 1) = 4 - q - 1 by omega]; exact hq2
          · rw [hf']
            have := HI.out.2.2
            rw [show 4 - q = 4 - (q + 1) + 1 by omega, ph_step g] at this
            exact this
        clear hf' hq2
        go_wp2
        go_roundw
        case rel => exact ⟨f', q + 1, rfl, by go_num, HN2, (by obtain ⟨c, h⟩ := HW.out; exact ⟨_, by rw [h]; simp only [World.drewN_drewN]; rfl⟩)⟩
        case measure => simp [intOf]; omega
      case false =>
        have hPf : P = (f, q) := by rw [HI.out.2.2]; exact ph_stop g
        have hq4 := HI.out.1
        have hfb : Bd 1024 f := (HI.out.2.1.bd (by omega)).mono (by omega)
        have hdb : Bd 1024 (fop .sub .f64 quart64 f) := sub_bd (const_bd (e := 1023) (by rw [B64]; decide) (by omega) (by omega)) (HI.out.2.1.bd (by omega)) (by omega) (by omega) (by omega)
        have hd : ∀ w, fres .sub .f64 4598175219545276416 f w = fop .sub .f64 4598175219545276416 f := fun w => fres_bd w hdb
        obtain ⟨a1, a2, a3, ⟨n1, a4⟩, a5⟩ := small_args hdb
        obtain ⟨b1, b2, b3, ⟨n2, b4⟩, b5⟩ := small_args hfb
        have HPF := Lib.hid (show R = turnC q (sineF (fop .sub .f64 4598175219545276416 f)) (sineF f) by rw [HPH.out, hPf])
        have HI1 := Lib.hid a4
        have HI2 := Lib.hid b4
        have HG1 := Lib.hid (And.intro a1 (And.intro a2 a3))
        have HG2 := Lib.hid (And.intro b1 (And.intro b2 b3))
        have HNC := Lib.hid (nar_of_bd a5 (by omega))
        have HNS := Lib.hid (nar_of_bd b5 (by omega))
        have HNC0 := Lib.hid (nar_of_bd (sub_bd (c := 1118) (const_bd (e := 1023) (c := 0) (by omega) (by omega) (by omega)) a5 (by omega) (by omega) (by omega)) (by omega))
        have HNS0 := Lib.hid (nar_of_bd (sub_bd (c := 1118) (const_bd (e := 1023) (c := 0) (by omega) (by omega) (by omega)) b5 (by omega) (by omega) (by omega)) (by omega))
        clear hPf hfb hdb a1 a2 a3 a4 a5 b1 b2 b3 b4 b5 HI
        generalize hdd : fop .sub .f64 4598175219545276416 f = d at *
        clear hdd
        rcases (show q = 0 ∨ q = 1 ∨ q = 2 ∨ q = 3 ∨ q = 4 by omega) with rfl | rfl | rfl | rfl | rfl
        · clear hq4
          go_wp2_with (fail)
          refine (l01Sine_yes _ _ HI1.out HG1.out.1 HG1.out.2.1 HG1.out.2.2 _).mono ?_
          rintro e w' ⟨cc, rfl, hcc, m1, rfl⟩
          have HC := Lib.hid hcc
          clear hcc
          go_wp2_with (fail)
          refine (l01Sine_yes _ _ HI2.out HG2.out.1 HG2.out.2.1 HG2.out.2.2 _).mono ?_
          rintro e w' ⟨ss, rfl, hss, m2, rfl⟩
          have HS := Lib.hid hss
          clear hss
          go_wp2_with (go_at_call 61; refine (l01Narrow_any _ _).mono ?_; rintro e w' ⟨rfl, n, rfl⟩)
          go_ret
          refine ⟨_, _, rfl, ?_, ?_, by obtain ⟨c, h⟩ := HW.out; exact ⟨_, by rw [h]; simp only [World.drewN_drewN]; rfl⟩⟩
          · rw [HPF.out]; exact nar_sim _ HC.out HNC.out
          · rw [HPF.out]; exact nar_sim _ HS.out HNS.out
        · clear hq4
          go_wp2_with (fail)
          refine (l01Sine_yes _ _ HI1.out HG1.out.1 HG1.out.2.1 HG1.out.2.2 _).mono ?_
          rintro e w' ⟨cc, rfl, hcc, m1, rfl⟩
          have HC := Lib.hid hcc
          clear hcc
          go_wp2_with (fail)
          refine (l01Sine_yes _ _ HI2.out HG2.out.1 HG2.out.2.1 HG2.out.2.2 _).mono ?_
          rintro e w' ⟨ss, rfl, hss, m2, rfl⟩
          have HS := Lib.hid hss
          clear hss
          go_wp2_with (go_at_call 61; refine (l01Narrow_any _ _).mono ?_; rintro e w' ⟨rfl, n, rfl⟩)
          go_ret
          refine ⟨_, _, rfl, ?_, ?_, by obtain ⟨c, h⟩ := HW.out; exact ⟨_, by rw [h]; simp only [World.drewN_drewN]; rfl⟩⟩
          · rw [HPF.out]; exact nar_sim _ (fres_of _ (Sim.refl ..) HS.out) HNS0.out
          · rw [HPF.out]; exact nar_sim _ HC.out HNC.out
        · clear hq4
          go_wp2_with (fail)
          refine (l01Sine_yes _ _ HI1.out HG1.out.1 HG1.out.2.1 HG1.out.2.2 _).mono ?_
          rintro e w' ⟨cc, rfl, hcc, m1, rfl⟩
          have HC := Lib.hid hcc
          clear hcc
          go_wp2_with (fail)
          refine (l01Sine_yes _ _ HI2.out HG2.out.1 HG2.out.2.1 HG2.out.2.2 _).mono ?_
          rintro e w' ⟨ss, rfl, hss, m2, rfl⟩
          have HS := Lib.hid hss
          clear hss
          go_wp2_with (go_at_call 61; refine (l01Narrow_any _ _).mono ?_; rintro e w' ⟨rfl, n, rfl⟩)
          go_ret
          refine ⟨_, _, rfl, ?_, ?_, by obtain ⟨c, h⟩ := HW.out; exact ⟨_, by rw [h]; simp only [World.drewN_drewN]; rfl⟩⟩
          · rw [HPF.out]; exact nar_sim _ (fres_of _ (Sim.refl ..) HC.out) HNC0.out
          · rw [HPF.out]; exact nar_sim _ (fres_of _ (Sim.refl ..) HS.out) HNS0.out
        · clear hq4
          go_wp2_with (fail)
          refine (l01Sine_yes _ _ HI1.out HG1.out.1 HG1.out.2.1 HG1.out.2.2 _).mono ?_
          rintro e w' ⟨cc, rfl, hcc, m1, rfl⟩
          have HC := Lib.hid hcc
          clear hcc
          go_wp2_with (fail)
          refine (l01Sine_yes _ _ HI2.out HG2.out.1 HG2.out.2.1 HG2.out.2.2 _).mono ?_
          rintro e w' ⟨ss, rfl, hss, m2, rfl⟩
          have HS := Lib.hid hss
          clear hss
          go_wp2_with (go_at_call 61; refine (l01Narrow_any _ _).mono ?_; rintro e w' ⟨rfl, n, rfl⟩)
          go_ret
          refine ⟨_, _, rfl, ?_, ?_, by obtain ⟨c, h⟩ := HW.out; exact ⟨_, by rw [h]; simp only [World.drewN_drewN]; rfl⟩⟩
          · rw [HPF.out]; exact nar_sim _ HS.out HNS.out
          · rw [HPF.out]; exact nar_sim _ (fres_of _ (Sim.refl ..) HC.out) HNC0.out
        · clear hq4
          go_wp2_with (fail)
          refine (l01Sine_yes _ _ HI1.out HG1.out.1 HG1.out.2.1 HG1.out.2.2 _).mono ?_
          rintro e w' ⟨cc, rfl, hcc, m1, rfl⟩
          have HC := Lib.hid hcc
          clear hcc
          go_wp2_with (fail)
          refine (l01Sine_yes _ _ HI2.out HG2.out.1 HG2.out.2.1 HG2.out.2.2 _).mono ?_
          rintro e w' ⟨ss, rfl, hss, m2, rfl⟩
          have HS := Lib.hid hss
          clear hss
          go_wp2_with (go_at_call 61; refine (l01Narrow_any _ _).mono ?_; rintro e w' ⟨rfl, n, rfl⟩)
          go_ret
          refine ⟨_, _, rfl, ?_, ?_, by obtain ⟨c, h⟩ := HW.out; exact ⟨_, by rw [h]; simp only [World.drewN_drewN]; rfl⟩⟩
          · rw [HPF.out]; exact nar_sim _ HC.out HNC.out
          · rw [HPF.out]; exact nar_sim _ HS.out HNS.out
  case true =>
    have hF : fracF y = (fop .add .f64 (fop .sub .f64 y (floatOfInt .f64 n)) 4607182418800017408) := by unfold fracF; rw [hw, hg]; rfl
    have HF := Lib.hid hF
    clear hF hw hb hn
    go_enter Try.func47, Try.ntmps47
    go_wp2
    generalize hvv : (fop .add .f64 (fop .sub .f64 y (floatOfInt .f64 n)) 4607182418800017408) = v
    have HV := Lib.hid (show fracF y = v by rw [HF.out, hvv])
    clear hvv
    have hv0 := HV.out
    subst hv0
    clear HV
    go_loopw [3, 4] (fun v4 v5 w' => ∃ (f q : Nat), v4 = .float .f64 f ∧ v5 = .int .i64 q ∧ RowKit.Hid (q ≤ 4 ∧ Quart (4 - q) f ∧ P = ph (4 - q) f q) ∧ RowKit.Hid (∃ c, w' = w.drewN c)) (fun _ v5 _ => 4 - (intOf v5).toNat)
    case atStart => exact ⟨fracF y, 0, rfl, rfl, (show _ ∧ _ ∧ _ from ⟨by omega, HQ4.out, HP.out⟩), (show ∃ c, _ = w.drewN c from ⟨_, rfl⟩)⟩
    case round =>
      obtain ⟨f, q, rfl, rfl, HI, HW⟩ := hrel
      cases g : (FloatKind.f64.format.order f 4598175219545276416 == some .gt || FloatKind.f64.format.order f 4598175219545276416 == some .eq)
      case true =>
        obtain ⟨hq1, hq2⟩ := HI.out.2.1.less (by omega) g
        have hq3 : q < 4 := by omega
        obtain ⟨f', hf'⟩ : ∃ f', f' = fop .sub .f64 f 4598175219545276416 := ⟨_, rfl⟩
        have hf : ∀ w, fres .sub .f64 f 4598175219545276416 w = f' := fun w => (fres_bd w (hq2.bd (by omega))).trans hf'.symm
        have HN2 : RowKit.Hid (q + 1 ≤ 4 ∧ Quart (4 - (q + 1)) f' ∧ P = ph (4 - (q + 1)) f' (q + 1)) := by
          refine (show _ ∧ _ ∧ _ from ⟨by omega, ?_, ?_⟩)
          · rw [hf', show 4 - (q + 1) = 4 - q - 1 by omega]; exact hq2
          · rw [hf']
            have := HI.out.2.2
            rw [show 4 - q = 4 - (q + 1) + 1 by omega, ph_step g] at this
            exact this
        clear hf' hq2
        go_wp2
        go_roundw
        case rel => exact ⟨f', q + 1, rfl, by go_num, HN2, (by obtain ⟨c, h⟩ := HW.out; exact ⟨_, by rw [h]; simp only [World.drewN_drewN]; rfl⟩)⟩
        case measure => simp [intOf]; omega
      case false =>
        have hPf : P = (f, q) := by rw [HI.out.2.2]; exact ph_stop g
        have hq4 := HI.out.1
        have hfb : Bd 1024 f := (HI.out.2.1.bd (by omega)).mono (by omega)
        have hdb : Bd 1024 (fop .sub .f64 quart64 f) := sub_bd (const_bd (e := 1023) (by rw [B64]; decide) (by omega) (by omega)) (HI.out.2.1.bd (by omega)) (by omega) (by omega) (by omega)
        have hd : ∀ w, fres .sub .f64 4598175219545276416 f w = fop .sub .f64 4598175219545276416 f := fun w => fres_bd w hdb
        obtain ⟨a1, a2, a3, ⟨n1, a4⟩, a5⟩ := small_args hdb
        obtain ⟨b1, b2, b3, ⟨n2, b4⟩, b5⟩ := small_args hfb
        have HPF := Lib.hid (show R = turnC q (sineF (fop .sub .f64 4598175219545276416 f)) (sineF f) by rw [HPH.out, hPf])
        have HI1 := Lib.hid a4
        have HI2 := Lib.hid b4
        have HG1 := Lib.hid (And.intro a1 (And.intro a2 a3))
        have HG2 := Lib.hid (And.intro b1 (And.intro b2 b3))
        have HNC := Lib.hid (nar_of_bd a5 (by omega))
        have HNS := Lib.hid (nar_of_bd b5 (by omega))
        have HNC0 := Lib.hid (nar_of_bd (sub_bd (c := 1118) (const_bd (e := 1023) (c := 0) (by omega) (by omega) (by omega)) a5 (by omega) (by omega) (by omega)) (by omega))
        have HNS0 := Lib.hid (nar_of_bd (sub_bd (c := 1118) (const_bd (e := 1023) (c := 0) (by omega) (by omega) (by omega)) b5 (by omega) (by omega) (by omega)) (by omega))
        clear hPf hfb hdb a1 a2 a3 a4 a5 b1 b2 b3 b4 b5 HI
        generalize hdd : fop .sub .f64 4598175219545276416 f = d at *
        clear hdd
        rcases (show q = 0 ∨ q = 1 ∨ q = 2 ∨ q = 3 ∨ q = 4 by omega) with rfl | rfl | rfl | rfl | rfl
        · clear hq4
          go_wp2_with (fail)
          refine (l01Sine_yes _ _ HI1.out HG1.out.1 HG1.out.2.1 HG1.out.2.2 _).mono ?_
          rintro e w' ⟨cc, rfl, hcc, m1, rfl⟩
          have HC := Lib.hid hcc
          clear hcc
          go_wp2_with (fail)
          refine (l01Sine_yes _ _ HI2.out HG2.out.1 HG2.out.2.1 HG2.out.2.2 _).mono ?_
          rintro e w' ⟨ss, rfl, hss, m2, rfl⟩
          have HS := Lib.hid hss
          clear hss
          go_wp2_with (go_at_call 61; refine (l01Narrow_any _ _).mono ?_; rintro e w' ⟨rfl, n, rfl⟩)
          go_ret
          refine ⟨_, _, rfl, ?_, ?_, by obtain ⟨c, h⟩ := HW.out; exact ⟨_, by rw [h]; simp only [World.drewN_drewN]; rfl⟩⟩
          · rw [HPF.out]; exact nar_sim _ HC.out HNC.out
          · rw [HPF.out]; exact nar_sim _ HS.out HNS.out
        · clear hq4
          go_wp2_with (fail)
          refine (l01Sine_yes _ _ HI1.out HG1.out.1 HG1.out.2.1 HG1.out.2.2 _).mono ?_
          rintro e w' ⟨cc, rfl, hcc, m1, rfl⟩
          have HC := Lib.hid hcc
          clear hcc
          go_wp2_with (fail)
          refine (l01Sine_yes _ _ HI2.out HG2.out.1 HG2.out.2.1 HG2.out.2.2 _).mono ?_
          rintro e w' ⟨ss, rfl, hss, m2, rfl⟩
          have HS := Lib.hid hss
          clear hss
          go_wp2_with (go_at_call 61; refine (l01Narrow_any _ _).mono ?_; rintro e w' ⟨rfl, n, rfl⟩)
          go_ret
          refine ⟨_, _, rfl, ?_, ?_, by obtain ⟨c, h⟩ := HW.out; exact ⟨_, by rw [h]; simp only [World.drewN_drewN]; rfl⟩⟩
          · rw [HPF.out]; exact nar_sim _ (fres_of _ (Sim.refl ..) HS.out) HNS0.out
          · rw [HPF.out]; exact nar_sim _ HC.out HNC.out
        · clear hq4
          go_wp2_with (fail)
          refine (l01Sine_yes _ _ HI1.out HG1.out.1 HG1.out.2.1 HG1.out.2.2 _).mono ?_
          rintro e w' ⟨cc, rfl, hcc, m1, rfl⟩
          have HC := Lib.hid hcc
          clear hcc
          go_wp2_with (fail)
          refine (l01Sine_yes _ _ HI2.out HG2.out.1 HG2.out.2.1 HG2.out.2.2 _).mono ?_
          rintro e w' ⟨ss, rfl, hss, m2, rfl⟩
          have HS := Lib.hid hss
          clear hss
          go_wp2_with (go_at_call 61; refine (l01Narrow_any _ _).mono ?_; rintro e w' ⟨rfl, n, rfl⟩)
          go_ret
          refine ⟨_, _, rfl, ?_, ?_, by obtain ⟨c, h⟩ := HW.out; exact ⟨_, by rw [h]; simp only [World.drewN_drewN]; rfl⟩⟩
          · rw [HPF.out]; exact nar_sim _ (fres_of _ (Sim.refl ..) HC.out) HNC0.out
          · rw [HPF.out]; exact nar_sim _ (fres_of _ (Sim.refl ..) HS.out) HNS0.out
        · clear hq4
          go_wp2_with (fail)
          refine (l01Sine_yes _ _ HI1.out HG1.out.1 HG1.out.2.1 HG1.out.2.2 _).mono ?_
          rintro e w' ⟨cc, rfl, hcc, m1, rfl⟩
          have HC := Lib.hid hcc
          clear hcc
          go_wp2_with (fail)
          refine (l01Sine_yes _ _ HI2.out HG2.out.1 HG2.out.2.1 HG2.out.2.2 _).mono ?_
          rintro e w' ⟨ss, rfl, hss, m2, rfl⟩
          have HS := Lib.hid hss
          clear hss
          go_wp2_with (go_at_call 61; refine (l01Narrow_any _ _).mono ?_; rintro e w' ⟨rfl, n, rfl⟩)
          go_ret
          refine ⟨_, _, rfl, ?_, ?_, by obtain ⟨c, h⟩ := HW.out; exact ⟨_, by rw [h]; simp only [World.drewN_drewN]; rfl⟩⟩
          · rw [HPF.out]; exact nar_sim _ HS.out HNS.out
          · rw [HPF.out]; exact nar_sim _ (fres_of _ (Sim.refl ..) HC.out) HNC0.out
        · clear hq4
          go_wp2_with (fail)
          refine (l01Sine_yes _ _ HI1.out HG1.out.1 HG1.out.2.1 HG1.out.2.2 _).mono ?_
          rintro e w' ⟨cc, rfl, hcc, m1, rfl⟩
          have HC := Lib.hid hcc
          clear hcc
          go_wp2_with (fail)
          refine (l01Sine_yes _ _ HI2.out HG2.out.1 HG2.out.2.1 HG2.out.2.2 _).mono ?_
          rintro e w' ⟨ss, rfl, hss, m2, rfl⟩
          have HS := Lib.hid hss
          clear hss
          go_wp2_with (go_at_call 61; refine (l01Narrow_any _ _).mono ?_; rintro e w' ⟨rfl, n, rfl⟩)
          go_ret
          refine ⟨_, _, rfl, ?_, ?_, by obtain ⟨c, h⟩ := HW.out; exact ⟨_, by rw [h]; simp only [World.drewN_drewN]; rfl⟩⟩
          · rw [HPF.out]; exact nar_sim _ HC.out HNC.out
          · rw [HPF.out]; exact nar_sim _ HS.out HNS.out
end Go.Proofs.Ytpjgodeabdcdcaa
