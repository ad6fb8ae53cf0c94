/- The sine of some turns in 64 bits: a pure form, its bound, and that the program's and the reference's walks compute it. No condition but the number's range. -/
import Derived.Test.YtpjgodeabdcdcaaFrac
import Derived.Test.YtpjgodeabdcdcaaChecked
namespace Go.Proofs.Ytpjgodeabdcdcaa
open Go.RowKit Fl Ieee
namespace Fl
@[go_sem] theorem unary_neg_float (k : FloatKind) (b : Nat) : Op.unary .neg (.float k b) = pure (.float k (Op.negFloat k b)) := rfl
attribute [go_sem] fop_fres_l fop_fres_r
abbrev one64 : Nat := 4607182418800017408
abbrev half64 : Nat := 4602678819172646912
abbrev quart64 : Nat := 4598175219545276416
abbrev turn64 : Nat := 4618760256179416344
/-- a finite number of turns without whole ones -/
def fracF (y : Nat) : Nat := if FloatKind.f64.format.order (fop .sub .f64 y (wholeF y)) 0 == some .lt then fop .add .f64 (fop .sub .f64 y (wholeF y)) one64 else fop .sub .f64 y (wholeF y)
def den (j : Nat) : Nat := floatOfInt .f64 (2 * (8 - j) * (2 * (8 - j) + 1))
def kF (j : Nat) : Nat := floatOfInt .f64 (8 - j)
def pS (u : Nat) : Nat → Nat
  | 0 => one64
  | j + 1 => fop .sub .f64 one64 (fop .quo .f64 (fop .mul .f64 u (pS u j)) (den j))
def turned (f : Nat) : Bool := FloatKind.f64.format.order f half64 == some .gt || FloatKind.f64.format.order f half64 == some .eq
def fold1 (f : Nat) : Nat := if turned f then fop .sub .f64 f half64 else f
def fold2 (f : Nat) : Nat := if FloatKind.f64.format.order f quart64 == some .gt then fop .sub .f64 half64 f else f
def foldF (f : Nat) : Nat := fold2 (fold1 f)
def zF (f : Nat) : Nat := fop .mul .f64 (foldF f) turn64
def wF (f : Nat) : Nat := fop .mul .f64 (zF f) (pS (fop .mul .f64 (zF f) (zF f)) 8)
def sinF (f : Nat) : Nat := if turned f then Op.negFloat .f64 (wF f) else wF f
def sineF (y : Nat) : Nat := sinF (fracF y)

theorem lb_of {e c : Nat} (h : e * double.binade ≤ c) (h1 : 1 ≤ e) (h2 : c < double.infRung) : Lb e c := by
  refine ⟨c, (word_false _).symm, h2, ?_⟩
  rw [← mval_pow h1]; exact mval_le h
theorem den_lb : ∀ j, j < 8 → Lb 1025 (den j) := by
  have h : ∀ j : Fin 8, den j.val < double.infRung ∧ 1025 * double.binade ≤ den j.val := by decide +kernel
  intro j hj
  obtain ⟨h1, h2⟩ := h ⟨j, hj⟩
  exact lb_of h2 (by omega) h1
theorem const_bd {e c : Nat} (h : c ≤ e * double.binade) (h1 : 1 ≤ e) (h2 : e ≤ 2046) : Bd e c := by
  refine ⟨false, c, (word_false _).symm, Nat.lt_of_le_of_lt h (pow_rung_lt h2), ?_⟩
  rw [← mval_pow h1]; exact mval_le h
theorem one_bd : Bd 1023 one64 := const_bd (by rw [B64]; decide) (by omega) (by omega)
theorem half_bd : Bd 1023 half64 := const_bd (by rw [B64]; decide) (by omega) (by omega)
theorem turn_bd : Bd 1026 turn64 := const_bd (by rw [B64]; decide) (by omega) (by omega)
theorem pS_bd {u : Nat} (hu : Bd 1035 u) : ∀ j, j ≤ 8 → Bd (1023 + 11 * j) (pS u j)
  | 0, _ => one_bd
  | j + 1, h => by
    have ih := pS_bd hu j (by omega)
    unfold pS
    have h1 := mul_bd (c := 1035 + 11 * j) hu ih (by omega) (by omega) (by omega)
    have h2 := quo_bd (c := 1033 + 11 * j) h1 (den_lb j (by omega)) (by omega) (by omega) (by omega)
    exact sub_bd (c := 1023 + 11 * (j + 1)) one_bd h2 (by omega) (by omega) (by omega)
theorem frac_bd {s : Bool} {r K : Nat} (hK : K = 1074) (hr : r < double.infRung) (h : mval double r < 4503599627370496 * 2 ^ K) : Bd 1024 (fracF (double.word s r)) := by
  have h1 := rest_bd s hK hr h
  unfold fracF
  split
  · exact add_bd h1 one_bd (by omega) (by omega) (by omega)
  · exact h1.mono (by omega)
theorem fold_bd {f : Nat} (h : Bd 1024 f) : Bd 1026 (foldF f) := by
  have h1 : Bd 1025 (fold1 f) := by
    unfold fold1; split
    · exact sub_bd h half_bd (by omega) (by omega) (by omega)
    · exact h.mono (by omega)
  unfold foldF fold2; split
  · exact sub_bd half_bd h1 (by omega) (by omega) (by omega)
  · exact h1.mono (by omega)
theorem w_bd {f : Nat} (h : Bd 1024 f) : Bd 1149 (wF f) := by
  have hz : Bd 1029 (zF f) := mul_bd (fold_bd h) turn_bd (by omega) (by omega) (by omega)
  have hu := mul_bd (c := 1035) hz hz (by omega) (by omega) (by omega)
  have hp := pS_bd hu 8 (by omega)
  unfold wF
  exact mul_bd hz hp (by omega) (by omega) (by omega)
theorem sin_bd {f : Nat} (h : Bd 1024 f) : Bd 1149 (sinF f) := by
  unfold sinF; split
  · exact neg_bd (w_bd h)
  · exact w_bd h
theorem bd_lt {e x : Nat} (h : Bd e x) : x < 18446744073709551616 := by
  obtain ⟨s, r, rfl, hr, _⟩ := h
  rw [I64] at hr
  cases s
  · rw [word_false]; omega
  · rw [word_true]; omega
theorem bd_isN {e x : Nat} (h : Bd e x) : isN .f64 x = false := by
  obtain ⟨s, r, rfl, hr, _⟩ := h
  exact isN_word .f64 s (Nat.le_of_lt hr)
/-- what is the same as a number is it -/
theorem Sim.eq_bd {e x y : Nat} (h : Sim .f64 x y) (hy : Bd e y) : x = y := by
  rcases h with rfl | ⟨_, b⟩
  · rfl
  · rw [bd_isN hy] at b; cases b
theorem fres_bd {op : BinOp} {x y e : Nat} (w : World) (h : Bd e (fop op .f64 x y)) : fres op .f64 x y w = fop op .f64 x y := (fres_sim op .f64 x y w).eq_bd h

theorem kd_dec : ∀ j, j < 8 → floatBits .sub .f64 (kF j) one64 = some (kF (j + 1)) := by
  have h : ∀ j : Fin 8, floatBits .sub .f64 (kF j.val) one64 = some (kF (j.val + 1)) := by decide +kernel
  intro j hj; exact h ⟨j, hj⟩
theorem kd_den : ∀ j, j < 8 → fop .mul .f64 (fop .mul .f64 4611686018427387904 (kF j)) (fop .add .f64 (fop .mul .f64 4611686018427387904 (kF j)) one64) = den j := by
  have h : ∀ j : Fin 8, fop .mul .f64 (fop .mul .f64 4611686018427387904 (kF j.val)) (fop .add .f64 (fop .mul .f64 4611686018427387904 (kF j.val)) one64) = den j.val := by decide +kernel
  intro j hj; exact h ⟨j, hj⟩
theorem kd_on : ∀ j, j < 8 → (FloatKind.f64.format.order (kF j) one64 == some .gt || FloatKind.f64.format.order (kF j) one64 == some .eq) = true := by
  have h : ∀ j : Fin 8, (FloatKind.f64.format.order (kF j.val) one64 == some .gt || FloatKind.f64.format.order (kF j.val) one64 == some .eq) = true := by decide +kernel
  intro j hj; exact h ⟨j, hj⟩
theorem kd_off : (FloatKind.f64.format.order (kF 8) one64 == some .gt || FloatKind.f64.format.order (kF 8) one64 == some .eq) = false := by decide +kernel
theorem kd_lt : ∀ j, j < 8 → kF (j + 1) < kF j := by
  have h : ∀ j : Fin 8, kF (j.val + 1) < kF j.val := by decide +kernel
  intro j hj; exact h ⟨j, hj⟩
theorem kd_zero : 4620693217682128896 = kF 0 := by decide +kernel
def bitsOf : Value → Nat
  | .float _ b => b
  | _ => 0
end Fl

theorem fraction_any (y : Nat) (n : Int) (hn : floatToIntVal .f64 y .i64 = some n) (w : World) : Calls Try.prog 49 #[.float .f64 y] w fun e w' => ∃ r, e = .returned (.float .f64 r) ∧ Sim .f64 r (fracF y) ∧ ∃ n, w' = w.drewN n := by
  have hw : wholeF y = floatOfInt .f64 n := by unfold wholeF; rw [hn]; rfl
  have hi : ∀ w, ires .f64 y .i64 w = n := fun w => ires_some w hn
  cases hg : (FloatKind.f64.format.order (fop .sub .f64 y (floatOfInt .f64 n)) 0 == some .lt) with
  | true =>
    have h2 : fracF y = fop .add .f64 (fop .sub .f64 y (floatOfInt .f64 n)) one64 := by unfold fracF; rw [hw, hg, if_pos rfl]
    have H2 := Lib.hid h2
    clear hn hw h2
    go_enter Try.func49, Try.ntmps49
    go_wp2
    go_ret
    exact ⟨_, rfl, by rw [H2.out]; exact fres_of _ (fres_sim ..) (Sim.refl ..), _, rfl⟩
  | false =>
    have h2 : fracF y = fop .sub .f64 y (floatOfInt .f64 n) := by unfold fracF; rw [hw, hg, if_neg (by decide)]
    have H2 := Lib.hid h2
    clear hn hw h2
    go_enter Try.func49, Try.ntmps49
    go_wp2
    go_ret
    exact ⟨_, rfl, by rw [H2.out]; exact fres_sim .., _, rfl⟩
set_option maxHeartbeats 1000000 in
set_option maxRecDepth 100000 in
theorem sine_any (y : Nat) (n : Int) (hn : floatToIntVal .f64 y .i64 = some n) (w : World) : Calls Try.prog 43 #[.float .f64 y] w fun e w' => ∃ r, e = .returned (.float .f64 r) ∧ Sim .f64 r (sineF y) ∧ ∃ n, w' = w.drewN n := by
  have HN := Lib.hid hn
  have HP := Lib.hid (show sineF y = sinF (fracF y) from rfl)
  generalize sineF y = P at *
  obtain ⟨F, hF⟩ : ∃ F, F = fracF y := ⟨_, rfl⟩
  have HF := Lib.hid hF
  clear hF hn
  cases hg1 : turned F <;> cases hg2 : (FloatKind.f64.format.order (fold1 F) quart64 == some .gt)
  case false.false =>
    have HZ := Lib.hid (show zF F = fop .mul .f64 F turn64 by unfold zF foldF fold2; rw [hg2]; unfold fold1; rw [hg1]; rfl)
    have HE := Lib.hid (show sinF F = wF F by unfold sinF; rw [hg1]; rfl)
    have HG1 := Lib.hid hg1
    have HG2 := Lib.hid (show (FloatKind.f64.format.order F quart64 == some .gt) = false by unfold fold1 at hg2; rw [hg1] at hg2; exact hg2)
    clear hg1 hg2
    go_enter Try.func43, Try.ntmps43
    go_wp2_with (fail)
    refine (fraction_any y n HN.out _).mono ?_
    rintro e w' ⟨f, rfl, hs, m, rfl⟩
    rw [← HF.out] at hs
    have g1 : (FloatKind.f64.format.order f 4602678819172646912 == some .gt || FloatKind.f64.format.order f 4602678819172646912 == some .eq) = false := by rw [order_congr hs (Sim.refl .f64 4602678819172646912)]; exact HG1.out
    have g2 : (FloatKind.f64.format.order f 4598175219545276416 == some .gt) = false := by rw [order_congr hs (Sim.refl .f64 4598175219545276416)]; exact HG2.out
    have HS := Lib.hid hs
    clear hs
    go_wp2
    generalize hz : fres .mul .f64 _ 4618760256179416344 _ = z
    have HZS : RowKit.Hid (Sim .f64 z (zF F)) := by rw [HZ.out, ← hz]; exact fres_of _ HS.out (Sim.refl ..)
    clear hz
    generalize hu : fres .mul .f64 z z _ = u
    have HU : RowKit.Hid (Sim .f64 u (fop .mul .f64 (zF F) (zF F))) := by rw [← hu]; exact fres_of _ HZS.out HZS.out
    clear hu
    go_loopw [7, 8] (fun v7 v8 w' => ∃ (p k j : Nat), v7 = .float .f64 p ∧ v8 = .float .f64 k ∧ RowKit.Hid (j ≤ 8) ∧ RowKit.Hid (k = kF j) ∧ RowKit.Hid (Sim .f64 p (pS (fop .mul .f64 (zF F) (zF F)) j)) ∧ RowKit.Hid (∃ c, w' = w.drewN c)) (fun _ v8 _ => bitsOf v8)
    case atStart => exact ⟨4607182418800017408, 4620693217682128896, 0, rfl, rfl, Nat.zero_le 8, kd_zero, Sim.refl .f64 _, (show ∃ c, _ = w.drewN c from ⟨_, rfl⟩)⟩
    case round =>
      obtain ⟨p, k, j, rfl, rfl, HJ, HK, HPS, HW⟩ := hrel
      by_cases hlt : j < 8
      · have gk : (FloatKind.f64.format.order k 4607182418800017408 == some .gt || FloatKind.f64.format.order k 4607182418800017408 == some .eq) = true := by rw [HK.out]; exact kd_on j hlt
        have HLT := Lib.hid hlt
        clear hlt
        go_wp2
        go_roundw
        case rel =>
          refine ⟨_, _, j + 1, rfl, rfl, HLT.out, ?_, ?_, ?_⟩
          · exact fres_some _ (by rw [HK.out]; exact kd_dec j HLT.out)
          · show Sim .f64 _ (fop .sub .f64 one64 (fop .quo .f64 (fop .mul .f64 (fop .mul .f64 (zF F) (zF F)) (pS (fop .mul .f64 (zF F) (zF F)) j)) (den j)))
            rw [← kd_den j HLT.out, ← HK.out]
            exact fres_of _ (Sim.refl ..) (fres_of _ (fres_of _ HU.out HPS.out) (fres_of _ (fres_sim ..) (fres_of _ (fres_sim ..) (Sim.refl ..))))
          · obtain ⟨c, e⟩ := HW.out; exact ⟨_, by rw [e]; simp only [World.drewN_drewN]; rfl⟩
        case measure =>
          show fres .sub .f64 k one64 _ < k
          rw [fres_some _ (by rw [HK.out]; exact kd_dec j HLT.out), HK.out]
          exact kd_lt j HLT.out
      · obtain rfl : j = 8 := by have := HJ.out; omega
        have gk : (FloatKind.f64.format.order k 4607182418800017408 == some .gt || FloatKind.f64.format.order k 4607182418800017408 == some .eq) = false := by rw [HK.out]; exact kd_off
        clear hlt
        go_wp2
        go_ret
        refine ⟨_, rfl, ?_, by obtain ⟨c, e⟩ := HW.out; exact ⟨_, by rw [e]; simp only [World.drewN_drewN]; rfl⟩⟩
        rw [HP.out, ← HF.out, HE.out]
        exact fres_of _ HZS.out HPS.out
  case false.true =>
    have HZ := Lib.hid (show zF F = fop .mul .f64 (fop .sub .f64 half64 F) turn64 by unfold zF foldF fold2; rw [hg2]; unfold fold1; rw [hg1]; rfl)
    have HE := Lib.hid (show sinF F = wF F by unfold sinF; rw [hg1]; rfl)
    have HG1 := Lib.hid hg1
    have HG2 := Lib.hid (show (FloatKind.f64.format.order F quart64 == some .gt) = true by unfold fold1 at hg2; rw [hg1] at hg2; exact hg2)
    clear hg1 hg2
    go_enter Try.func43, Try.ntmps43
    go_wp2_with (fail)
    refine (fraction_any y n HN.out _).mono ?_
    rintro e w' ⟨f, rfl, hs, m, rfl⟩
    rw [← HF.out] at hs
    have g1 : (FloatKind.f64.format.order f 4602678819172646912 == some .gt || FloatKind.f64.format.order f 4602678819172646912 == some .eq) = false := by rw [order_congr hs (Sim.refl .f64 4602678819172646912)]; exact HG1.out
    have g2 : (FloatKind.f64.format.order f 4598175219545276416 == some .gt) = true := by rw [order_congr hs (Sim.refl .f64 4598175219545276416)]; exact HG2.out
    have HS := Lib.hid hs
    clear hs
    go_wp2
    generalize hz : fres .mul .f64 _ 4618760256179416344 _ = z
    have HZS : RowKit.Hid (Sim .f64 z (zF F)) := by rw [HZ.out, ← hz]; exact fres_of _ (fres_of _ (Sim.refl ..) HS.out) (Sim.refl ..)
    clear hz
    generalize hu : fres .mul .f64 z z _ = u
    have HU : RowKit.Hid (Sim .f64 u (fop .mul .f64 (zF F) (zF F))) := by rw [← hu]; exact fres_of _ HZS.out HZS.out
    clear hu
    go_loopw [7, 8] (fun v7 v8 w' => ∃ (p k j : Nat), v7 = .float .f64 p ∧ v8 = .float .f64 k ∧ RowKit.Hid (j ≤ 8) ∧ RowKit.Hid (k = kF j) ∧ RowKit.Hid (Sim .f64 p (pS (fop .mul .f64 (zF F) (zF F)) j)) ∧ RowKit.Hid (∃ c, w' = w.drewN c)) (fun _ v8 _ => bitsOf v8)
    case atStart => exact ⟨4607182418800017408, 4620693217682128896, 0, rfl, rfl, Nat.zero_le 8, kd_zero, Sim.refl .f64 _, (show ∃ c, _ = w.drewN c from ⟨_, rfl⟩)⟩
    case round =>
      obtain ⟨p, k, j, rfl, rfl, HJ, HK, HPS, HW⟩ := hrel
      by_cases hlt : j < 8
      · have gk : (FloatKind.f64.format.order k 4607182418800017408 == some .gt || FloatKind.f64.format.order k 4607182418800017408 == some .eq) = true := by rw [HK.out]; exact kd_on j hlt
        have HLT := Lib.hid hlt
        clear hlt
        go_wp2
        go_roundw
        case rel =>
          refine ⟨_, _, j + 1, rfl, rfl, HLT.out, ?_, ?_, ?_⟩
          · exact fres_some _ (by rw [HK.out]; exact kd_dec j HLT.out)
          · show Sim .f64 _ (fop .sub .f64 one64 (fop .quo .f64 (fop .mul .f64 (fop .mul .f64 (zF F) (zF F)) (pS (fop .mul .f64 (zF F) (zF F)) j)) (den j)))
            rw [← kd_den j HLT.out, ← HK.out]
            exact fres_of _ (Sim.refl ..) (fres_of _ (fres_of _ HU.out HPS.out) (fres_of _ (fres_sim ..) (fres_of _ (fres_sim ..) (Sim.refl ..))))
          · obtain ⟨c, e⟩ := HW.out; exact ⟨_, by rw [e]; simp only [World.drewN_drewN]; rfl⟩
        case measure =>
          show fres .sub .f64 k one64 _ < k
          rw [fres_some _ (by rw [HK.out]; exact kd_dec j HLT.out), HK.out]
          exact kd_lt j HLT.out
      · obtain rfl : j = 8 := by have := HJ.out; omega
        have gk : (FloatKind.f64.format.order k 4607182418800017408 == some .gt || FloatKind.f64.format.order k 4607182418800017408 == some .eq) = false := by rw [HK.out]; exact kd_off
        clear hlt
        go_wp2
        go_ret
        refine ⟨_, rfl, ?_, by obtain ⟨c, e⟩ := HW.out; exact ⟨_, by rw [e]; simp only [World.drewN_drewN]; rfl⟩⟩
        rw [HP.out, ← HF.out, HE.out]
        exact fres_of _ HZS.out HPS.out
  case true.false =>
    have HZ := Lib.hid (show zF F = fop .mul .f64 (fop .sub .f64 F half64) turn64 by unfold zF foldF fold2; rw [hg2]; unfold fold1; rw [hg1]; rfl)
    have HE := Lib.hid (show sinF F = Op.negFloat .f64 (wF F) by unfold sinF; rw [hg1]; rfl)
    have HG1 := Lib.hid hg1
    have HG2 := Lib.hid (show (FloatKind.f64.format.order (fop .sub .f64 F half64) quart64 == some .gt) = false by unfold fold1 at hg2; rw [hg1] at hg2; exact hg2)
    clear hg1 hg2
    go_enter Try.func43, Try.ntmps43
    go_wp2_with (fail)
    refine (fraction_any y n HN.out _).mono ?_
    rintro e w' ⟨f, rfl, hs, m, rfl⟩
    rw [← HF.out] at hs
    have g1 : (FloatKind.f64.format.order f 4602678819172646912 == some .gt || FloatKind.f64.format.order f 4602678819172646912 == some .eq) = true := by rw [order_congr hs (Sim.refl .f64 4602678819172646912)]; exact HG1.out
    have g2 : (FloatKind.f64.format.order (fop .sub .f64 f 4602678819172646912) 4598175219545276416 == some .gt) = false := by rw [fop_congr hs (Sim.refl .f64 4602678819172646912)]; exact HG2.out
    have HS := Lib.hid hs
    clear hs
    go_wp2
    generalize hz : fres .mul .f64 _ 4618760256179416344 _ = z
    have HZS : RowKit.Hid (Sim .f64 z (zF F)) := by rw [HZ.out, ← hz]; exact fres_of _ (fres_of _ HS.out (Sim.refl ..)) (Sim.refl ..)
    clear hz
    generalize hu : fres .mul .f64 z z _ = u
    have HU : RowKit.Hid (Sim .f64 u (fop .mul .f64 (zF F) (zF F))) := by rw [← hu]; exact fres_of _ HZS.out HZS.out
    clear hu
    go_loopw [7, 8] (fun v7 v8 w' => ∃ (p k j : Nat), v7 = .float .f64 p ∧ v8 = .float .f64 k ∧ RowKit.Hid (j ≤ 8) ∧ RowKit.Hid (k = kF j) ∧ RowKit.Hid (Sim .f64 p (pS (fop .mul .f64 (zF F) (zF F)) j)) ∧ RowKit.Hid (∃ c, w' = w.drewN c)) (fun _ v8 _ => bitsOf v8)
    case atStart => exact ⟨4607182418800017408, 4620693217682128896, 0, rfl, rfl, Nat.zero_le 8, kd_zero, Sim.refl .f64 _, (show ∃ c, _ = w.drewN c from ⟨_, rfl⟩)⟩
    case round =>
      obtain ⟨p, k, j, rfl, rfl, HJ, HK, HPS, HW⟩ := hrel
      by_cases hlt : j < 8
      · have gk : (FloatKind.f64.format.order k 4607182418800017408 == some .gt || FloatKind.f64.format.order k 4607182418800017408 == some .eq) = true := by rw [HK.out]; exact kd_on j hlt
        have HLT := Lib.hid hlt
        clear hlt
        go_wp2
        go_roundw
        case rel =>
          refine ⟨_, _, j + 1, rfl, rfl, HLT.out, ?_, ?_, ?_⟩
          · exact fres_some _ (by rw [HK.out]; exact kd_dec j HLT.out)
          · show Sim .f64 _ (fop .sub .f64 one64 (fop .quo .f64 (fop .mul .f64 (fop .mul .f64 (zF F) (zF F)) (pS (fop .mul .f64 (zF F) (zF F)) j)) (den j)))
            rw [← kd_den j HLT.out, ← HK.out]
            exact fres_of _ (Sim.refl ..) (fres_of _ (fres_of _ HU.out HPS.out) (fres_of _ (fres_sim ..) (fres_of _ (fres_sim ..) (Sim.refl ..))))
          · obtain ⟨c, e⟩ := HW.out; exact ⟨_, by rw [e]; simp only [World.drewN_drewN]; rfl⟩
        case measure =>
          show fres .sub .f64 k one64 _ < k
          rw [fres_some _ (by rw [HK.out]; exact kd_dec j HLT.out), HK.out]
          exact kd_lt j HLT.out
      · obtain rfl : j = 8 := by have := HJ.out; omega
        have gk : (FloatKind.f64.format.order k 4607182418800017408 == some .gt || FloatKind.f64.format.order k 4607182418800017408 == some .eq) = false := by rw [HK.out]; exact kd_off
        clear hlt
        go_wp2
        go_ret
        refine ⟨_, rfl, ?_, by obtain ⟨c, e⟩ := HW.out; exact ⟨_, by rw [e]; simp only [World.drewN_drewN]; rfl⟩⟩
        rw [HP.out, ← HF.out, HE.out]
        exact neg_sim (fres_lt ..) (fop_lt ..) (fres_of _ HZS.out HPS.out)
  case true.true =>
    have HZ := Lib.hid (show zF F = fop .mul .f64 (fop .sub .f64 half64 (fop .sub .f64 F half64)) turn64 by unfold zF foldF fold2; rw [hg2]; unfold fold1; rw [hg1]; rfl)
    have HE := Lib.hid (show sinF F = Op.negFloat .f64 (wF F) by unfold sinF; rw [hg1]; rfl)
    have HG1 := Lib.hid hg1
    have HG2 := Lib.hid (show (FloatKind.f64.format.order (fop .sub .f64 F half64) quart64 == some .gt) = true by unfold fold1 at hg2; rw [hg1] at hg2; exact hg2)
    clear hg1 hg2
    go_enter Try.func43, Try.ntmps43
    go_wp2_with (fail)
    refine (fraction_any y n HN.out _).mono ?_
    rintro e w' ⟨f, rfl, hs, m, rfl⟩
    rw [← HF.out] at hs
    have g1 : (FloatKind.f64.format.order f 4602678819172646912 == some .gt || FloatKind.f64.format.order f 4602678819172646912 == some .eq) = true := by rw [order_congr hs (Sim.refl .f64 4602678819172646912)]; exact HG1.out
    have g2 : (FloatKind.f64.format.order (fop .sub .f64 f 4602678819172646912) 4598175219545276416 == some .gt) = true := by rw [fop_congr hs (Sim.refl .f64 4602678819172646912)]; exact HG2.out
    have HS := Lib.hid hs
    clear hs
    go_wp2
    generalize hz : fres .mul .f64 _ 4618760256179416344 _ = z
    have HZS : RowKit.Hid (Sim .f64 z (zF F)) := by rw [HZ.out, ← hz]; exact fres_of _ (fres_of _ (Sim.refl ..) (fres_of _ HS.out (Sim.refl ..))) (Sim.refl ..)
    clear hz
    generalize hu : fres .mul .f64 z z _ = u
    have HU : RowKit.Hid (Sim .f64 u (fop .mul .f64 (zF F) (zF F))) := by rw [← hu]; exact fres_of _ HZS.out HZS.out
    clear hu
    go_loopw [7, 8] (fun v7 v8 w' => ∃ (p k j : Nat), v7 = .float .f64 p ∧ v8 = .float .f64 k ∧ RowKit.Hid (j ≤ 8) ∧ RowKit.Hid (k = kF j) ∧ RowKit.Hid (Sim .f64 p (pS (fop .mul .f64 (zF F) (zF F)) j)) ∧ RowKit.Hid (∃ c, w' = w.drewN c)) (fun _ v8 _ => bitsOf v8)
    case atStart => exact ⟨4607182418800017408, 4620693217682128896, 0, rfl, rfl, Nat.zero_le 8, kd_zero, Sim.refl .f64 _, (show ∃ c, _ = w.drewN c from ⟨_, rfl⟩)⟩
    case round =>
      obtain ⟨p, k, j, rfl, rfl, HJ, HK, HPS, HW⟩ := hrel
      by_cases hlt : j < 8
      · have gk : (FloatKind.f64.format.order k 4607182418800017408 == some .gt || FloatKind.f64.format.order k 4607182418800017408 == some .eq) = true := by rw [HK.out]; exact kd_on j hlt
        have HLT := Lib.hid hlt
        clear hlt
        go_wp2
        go_roundw
        case rel =>
          refine ⟨_, _, j + 1, rfl, rfl, HLT.out, ?_, ?_, ?_⟩
          · exact fres_some _ (by rw [HK.out]; exact kd_dec j HLT.out)
          · show Sim .f64 _ (fop .sub .f64 one64 (fop .quo .f64 (fop .mul .f64 (fop .mul .f64 (zF F) (zF F)) (pS (fop .mul .f64 (zF F) (zF F)) j)) (den j)))
            rw [← kd_den j HLT.out, ← HK.out]
            exact fres_of _ (Sim.refl ..) (fres_of _ (fres_of _ HU.out HPS.out) (fres_of _ (fres_sim ..) (fres_of _ (fres_sim ..) (Sim.refl ..))))
          · obtain ⟨c, e⟩ := HW.out; exact ⟨_, by rw [e]; simp only [World.drewN_drewN]; rfl⟩
        case measure =>
          show fres .sub .f64 k one64 _ < k
          rw [fres_some _ (by rw [HK.out]; exact kd_dec j HLT.out), HK.out]
          exact kd_lt j HLT.out
      · obtain rfl : j = 8 := by have := HJ.out; omega
        have gk : (FloatKind.f64.format.order k 4607182418800017408 == some .gt || FloatKind.f64.format.order k 4607182418800017408 == some .eq) = false := by rw [HK.out]; exact kd_off
        clear hlt
        go_wp2
        go_ret
        refine ⟨_, rfl, ?_, by obtain ⟨c, e⟩ := HW.out; exact ⟨_, by rw [e]; simp only [World.drewN_drewN]; rfl⟩⟩
        rw [HP.out, ← HF.out, HE.out]
        exact neg_sim (fres_lt ..) (fop_lt ..) (fres_of _ HZS.out HPS.out)
set_option maxHeartbeats 1000000 in
set_option maxRecDepth 100000 in
theorem l01Sine_yes (y : Nat) (n : Int) (hn : floatToIntVal .f64 y .i64 = some n) (g0 : (FloatKind.f64.format.order (fop .sub .f64 y y) 0 != some .eq) = false) (hbig : (FloatKind.f64.format.order y 4841369599423283200 == some .gt || FloatKind.f64.format.order y 4841369599423283200 == some .eq) = false) (hlow : (FloatKind.f64.format.order y 14064741636278059008 == some .lt || FloatKind.f64.format.order y 14064741636278059008 == some .eq) = false) (w : World) : Calls Try.prog 62 #[.float .f64 y] w fun e w' => ∃ r, e = .returned (.float .f64 r) ∧ Sim .f64 r (sineF y) ∧ ∃ n, w' = w.drewN n := by
  have hi : ∀ w, ires .f64 y .i64 w = n := fun w => ires_some w hn
  have HWH := Lib.hid (show wholeF y = floatOfInt .f64 n by unfold wholeF; rw [hn]; rfl)
  have HP := Lib.hid (show sineF y = sinF (fracF y) from rfl)
  generalize sineF y = P at *
  obtain ⟨F, hF⟩ : ∃ F, F = fracF y := ⟨_, rfl⟩
  have HF := Lib.hid hF
  clear hF hn
  cases hg1 : turned F <;> cases hg2 : (FloatKind.f64.format.order (fold1 F) quart64 == some .gt) <;> cases hg3 : (FloatKind.f64.format.order (fop .sub .f64 y (floatOfInt .f64 n)) 0 == some .lt)
  case false.false.false =>
    have HZ := Lib.hid (show zF F = fop .mul .f64 F turn64 by unfold zF foldF fold2; rw [hg2]; unfold fold1; rw [hg1]; rfl)
    have HE := Lib.hid (show sinF F = wF F by unfold sinF; rw [hg1]; rfl)
    have HG1 := Lib.hid hg1
    have HG2 := Lib.hid (show (FloatKind.f64.format.order F quart64 == some .gt) = false by unfold fold1 at hg2; rw [hg1] at hg2; exact hg2)
    clear hg1 hg2
    have HFE := Lib.hid (show F = (fop .sub .f64 y (floatOfInt .f64 n)) by rw [HF.out]; unfold fracF; rw [HWH.out, hg3]; rfl)
    have g1 : (FloatKind.f64.format.order (fop .sub .f64 y (floatOfInt .f64 n)) 4602678819172646912 == some .gt || FloatKind.f64.format.order (fop .sub .f64 y (floatOfInt .f64 n)) 4602678819172646912 == some .eq) = false := by rw [← HFE.out]; exact HG1.out
    have g2 : (FloatKind.f64.format.order (fop .sub .f64 y (floatOfInt .f64 n)) 4598175219545276416 == some .gt) = false := by rw [← HFE.out]; exact HG2.out
    go_enter Try.func62, Try.ntmps62
    go_wp2
    generalize hz : fres .mul .f64 _ 4618760256179416344 _ = z
    have HZS : RowKit.Hid (Sim .f64 z (zF F)) := by rw [HZ.out, ← hz, HFE.out]; exact fres_of _ (fres_sim ..) (Sim.refl ..)
    clear hz
    generalize hu : fres .mul .f64 z z _ = u
    have HU : RowKit.Hid (Sim .f64 u (fop .mul .f64 (zF F) (zF F))) := by rw [← hu]; exact fres_of _ HZS.out HZS.out
    clear hu
    go_loopw [7, 8] (fun v7 v8 w' => ∃ (p j : Nat) (k : Int), v7 = .float .f64 p ∧ v8 = .int .i64 k ∧ RowKit.Hid (j ≤ 8) ∧ RowKit.Hid (k = 8 - (j : Int)) ∧ RowKit.Hid (Sim .f64 p (pS (fop .mul .f64 (zF F) (zF F)) j)) ∧ RowKit.Hid (∃ c, w' = w.drewN c)) (fun _ v8 _ => (intOf v8).toNat)
    case atStart => exact ⟨4607182418800017408, 0, 8, rfl, rfl, Nat.zero_le 8, (show (8 : Int) = 8 - ((0 : Nat) : Int) by omega), Sim.refl .f64 _, (show ∃ c, _ = w.drewN c from ⟨_, rfl⟩)⟩
    case round =>
      obtain ⟨p, j, k, rfl, rfl, HJ, HK, HPS, HW⟩ := hrel
      by_cases hlt : j < 8
      · have hk1 : 1 ≤ k := by have := HK.out; omega
        have hk2 : k ≤ 8 := by have := HK.out; omega
        have HD := Lib.hid (show floatOfInt .f64 (2 * k * (2 * k + 1)) = den j by rw [HK.out]; rfl)
        have HLT := Lib.hid hlt
        clear hlt
        have hm1 : 2 * k * (2 * k + 1) ≤ 272 := by
          have h1 : 2 * k * (2 * k + 1) ≤ 16 * (2 * k + 1) := Int.mul_le_mul_of_nonneg_right (by omega) (by omega)
          omega
        have hm2 : 0 ≤ 2 * k * (2 * k + 1) := Int.mul_nonneg (by omega) (by omega)
        go_wp2
        go_roundw
        case rel =>
          refine ⟨_, j + 1, _, rfl, rfl, HLT.out, ?_, ?_, ?_⟩
          · show _ = (8 : Int) - ((j + 1 : Nat) : Int)
            rw [HK.out]; omega
          · show Sim .f64 _ (fop .sub .f64 one64 (fop .quo .f64 (fop .mul .f64 (fop .mul .f64 (zF F) (zF F)) (pS (fop .mul .f64 (zF F) (zF F)) j)) (den j)))
            rw [← HD.out]
            exact fres_of _ (Sim.refl ..) (fres_of _ (fres_of _ HU.out HPS.out) (Sim.refl ..))
          · obtain ⟨c, e⟩ := HW.out; exact ⟨_, by rw [e]; simp only [World.drewN_drewN]; rfl⟩
        case measure => simp [intOf]; omega
      · obtain rfl : j = 8 := by have := HJ.out; omega
        have hk0 : k = 0 := HK.out
        subst hk0
        clear hlt
        go_wp2
        go_ret
        refine ⟨_, rfl, ?_, by obtain ⟨c, e⟩ := HW.out; exact ⟨_, by rw [e]; simp only [World.drewN_drewN]; rfl⟩⟩
        rw [HP.out, ← HF.out, HE.out]
        exact fres_of _ HZS.out HPS.out
  case false.false.true =>
    have HZ := Lib.hid (show zF F = fop .mul .f64 F turn64 by unfold zF foldF fold2; rw [hg2]; unfold fold1; rw [hg1]; rfl)
    have HE := Lib.hid (show sinF F = wF F by unfold sinF; rw [hg1]; rfl)
    have HG1 := Lib.hid hg1
    have HG2 := Lib.hid (show (FloatKind.f64.format.order F quart64 == some .gt) = false by unfold fold1 at hg2; rw [hg1] at hg2; exact hg2)
    clear hg1 hg2
    have HFE := Lib.hid (show F = (fop .add .f64 (fop .sub .f64 y (floatOfInt .f64 n)) 4607182418800017408) by rw [HF.out]; unfold fracF; rw [HWH.out, hg3]; rfl)
    have g1 : (FloatKind.f64.format.order (fop .add .f64 (fop .sub .f64 y (floatOfInt .f64 n)) 4607182418800017408) 4602678819172646912 == some .gt || FloatKind.f64.format.order (fop .add .f64 (fop .sub .f64 y (floatOfInt .f64 n)) 4607182418800017408) 4602678819172646912 == some .eq) = false := by rw [← HFE.out]; exact HG1.out
    have g2 : (FloatKind.f64.format.order (fop .add .f64 (fop .sub .f64 y (floatOfInt .f64 n)) 4607182418800017408) 4598175219545276416 == some .gt) = false := by rw [← HFE.out]; exact HG2.out
    go_enter Try.func62, Try.ntmps62
    go_wp2
    generalize hz : fres .mul .f64 _ 4618760256179416344 _ = z
    have HZS : RowKit.Hid (Sim .f64 z (zF F)) := by rw [HZ.out, ← hz, HFE.out]; exact fres_of _ (fres_of _ (fres_sim ..) (Sim.refl ..)) (Sim.refl ..)
    clear hz
    generalize hu : fres .mul .f64 z z _ = u
    have HU : RowKit.Hid (Sim .f64 u (fop .mul .f64 (zF F) (zF F))) := by rw [← hu]; exact fres_of _ HZS.out HZS.out
    clear hu
    go_loopw [7, 8] (fun v7 v8 w' => ∃ (p j : Nat) (k : Int), v7 = .float .f64 p ∧ v8 = .int .i64 k ∧ RowKit.Hid (j ≤ 8) ∧ RowKit.Hid (k = 8 - (j : Int)) ∧ RowKit.Hid (Sim .f64 p (pS (fop .mul .f64 (zF F) (zF F)) j)) ∧ RowKit.Hid (∃ c, w' = w.drewN c)) (fun _ v8 _ => (intOf v8).toNat)
    case atStart => exact ⟨4607182418800017408, 0, 8, rfl, rfl, Nat.zero_le 8, (show (8 : Int) = 8 - ((0 : Nat) : Int) by omega), Sim.refl .f64 _, (show ∃ c, _ = w.drewN c from ⟨_, rfl⟩)⟩
    case round =>
      obtain ⟨p, j, k, rfl, rfl, HJ, HK, HPS, HW⟩ := hrel
      by_cases hlt : j < 8
      · have hk1 : 1 ≤ k := by have := HK.out; omega
        have hk2 : k ≤ 8 := by have := HK.out; omega
        have HD := Lib.hid (show floatOfInt .f64 (2 * k * (2 * k + 1)) = den j by rw [HK.out]; rfl)
        have HLT := Lib.hid hlt
        clear hlt
        have hm1 : 2 * k * (2 * k + 1) ≤ 272 := by
          have h1 : 2 * k * (2 * k + 1) ≤ 16 * (2 * k + 1) := Int.mul_le_mul_of_nonneg_right (by omega) (by omega)
          omega
        have hm2 : 0 ≤ 2 * k * (2 * k + 1) := Int.mul_nonneg (by omega) (by omega)
        go_wp2
        go_roundw
        case rel =>
          refine ⟨_, j + 1, _, rfl, rfl, HLT.out, ?_, ?_, ?_⟩
          · show _ = (8 : Int) - ((j + 1 : Nat) : Int)
            rw [HK.out]; omega
          · show Sim .f64 _ (fop .sub .f64 one64 (fop .quo .f64 (fop .mul .f64 (fop .mul .f64 (zF F) (zF F)) (pS (fop .mul .f64 (zF F) (zF F)) j)) (den j)))
            rw [← HD.out]
            exact fres_of _ (Sim.refl ..) (fres_of _ (fres_of _ HU.out HPS.out) (Sim.refl ..))
          · obtain ⟨c, e⟩ := HW.out; exact ⟨_, by rw [e]; simp only [World.drewN_drewN]; rfl⟩
        case measure => simp [intOf]; omega
      · obtain rfl : j = 8 := by have := HJ.out; omega
        have hk0 : k = 0 := HK.out
        subst hk0
        clear hlt
        go_wp2
        go_ret
        refine ⟨_, rfl, ?_, by obtain ⟨c, e⟩ := HW.out; exact ⟨_, by rw [e]; simp only [World.drewN_drewN]; rfl⟩⟩
        rw [HP.out, ← HF.out, HE.out]
        exact fres_of _ HZS.out HPS.out
  case false.true.false =>
    have HZ := Lib.hid (show zF F = fop .mul .f64 (fop .sub .f64 half64 F) turn64 by unfold zF foldF fold2; rw [hg2]; unfold fold1; rw [hg1]; rfl)
    have HE := Lib.hid (show sinF F = wF F by unfold sinF; rw [hg1]; rfl)
    have HG1 := Lib.hid hg1
    have HG2 := Lib.hid (show (FloatKind.f64.format.order F quart64 == some .gt) = true by unfold fold1 at hg2; rw [hg1] at hg2; exact hg2)
    clear hg1 hg2
    have HFE := Lib.hid (show F = (fop .sub .f64 y (floatOfInt .f64 n)) by rw [HF.out]; unfold fracF; rw [HWH.out, hg3]; rfl)
    have g1 : (FloatKind.f64.format.order (fop .sub .f64 y (floatOfInt .f64 n)) 4602678819172646912 == some .gt || FloatKind.f64.format.order (fop .sub .f64 y (floatOfInt .f64 n)) 4602678819172646912 == some .eq) = false := by rw [← HFE.out]; exact HG1.out
    have g2 : (FloatKind.f64.format.order (fop .sub .f64 y (floatOfInt .f64 n)) 4598175219545276416 == some .gt) = true := by rw [← HFE.out]; exact HG2.out
    go_enter Try.func62, Try.ntmps62
    go_wp2
    generalize hz : fres .mul .f64 _ 4618760256179416344 _ = z
    have HZS : RowKit.Hid (Sim .f64 z (zF F)) := by rw [HZ.out, ← hz, HFE.out]; exact fres_of _ (fres_of _ (Sim.refl ..) (fres_sim ..)) (Sim.refl ..)
    clear hz
    generalize hu : fres .mul .f64 z z _ = u
    have HU : RowKit.Hid (Sim .f64 u (fop .mul .f64 (zF F) (zF F))) := by rw [← hu]; exact fres_of _ HZS.out HZS.out
    clear hu
    go_loopw [7, 8] (fun v7 v8 w' => ∃ (p j : Nat) (k : Int), v7 = .float .f64 p ∧ v8 = .int .i64 k ∧ RowKit.Hid (j ≤ 8) ∧ RowKit.Hid (k = 8 - (j : Int)) ∧ RowKit.Hid (Sim .f64 p (pS (fop .mul .f64 (zF F) (zF F)) j)) ∧ RowKit.Hid (∃ c, w' = w.drewN c)) (fun _ v8 _ => (intOf v8).toNat)
    case atStart => exact ⟨4607182418800017408, 0, 8, rfl, rfl, Nat.zero_le 8, (show (8 : Int) = 8 - ((0 : Nat) : Int) by omega), Sim.refl .f64 _, (show ∃ c, _ = w.drewN c from ⟨_, rfl⟩)⟩
    case round =>
      obtain ⟨p, j, k, rfl, rfl, HJ, HK, HPS, HW⟩ := hrel
      by_cases hlt : j < 8
      · have hk1 : 1 ≤ k := by have := HK.out; omega
        have hk2 : k ≤ 8 := by have := HK.out; omega
        have HD := Lib.hid (show floatOfInt .f64 (2 * k * (2 * k + 1)) = den j by rw [HK.out]; rfl)
        have HLT := Lib.hid hlt
        clear hlt
        have hm1 : 2 * k * (2 * k + 1) ≤ 272 := by
          have h1 : 2 * k * (2 * k + 1) ≤ 16 * (2 * k + 1) := Int.mul_le_mul_of_nonneg_right (by omega) (by omega)
          omega
        have hm2 : 0 ≤ 2 * k * (2 * k + 1) := Int.mul_nonneg (by omega) (by omega)
        go_wp2
        go_roundw
        case rel =>
          refine ⟨_, j + 1, _, rfl, rfl, HLT.out, ?_, ?_, ?_⟩
          · show _ = (8 : Int) - ((j + 1 : Nat) : Int)
            rw [HK.out]; omega
          · show Sim .f64 _ (fop .sub .f64 one64 (fop .quo .f64 (fop .mul .f64 (fop .mul .f64 (zF F) (zF F)) (pS (fop .mul .f64 (zF F) (zF F)) j)) (den j)))
            rw [← HD.out]
            exact fres_of _ (Sim.refl ..) (fres_of _ (fres_of _ HU.out HPS.out) (Sim.refl ..))
          · obtain ⟨c, e⟩ := HW.out; exact ⟨_, by rw [e]; simp only [World.drewN_drewN]; rfl⟩
        case measure => simp [intOf]; omega
      · obtain rfl : j = 8 := by have := HJ.out; omega
        have hk0 : k = 0 := HK.out
        subst hk0
        clear hlt
        go_wp2
        go_ret
        refine ⟨_, rfl, ?_, by obtain ⟨c, e⟩ := HW.out; exact ⟨_, by rw [e]; simp only [World.drewN_drewN]; rfl⟩⟩
        rw [HP.out, ← HF.out, HE.out]
        exact fres_of _ HZS.out HPS.out
  case false.true.true =>
    have HZ := Lib.hid (show zF F = fop .mul .f64 (fop .sub .f64 half64 F) turn64 by unfold zF foldF fold2; rw [hg2]; unfold fold1; rw [hg1]; rfl)
    have HE := Lib.hid (show sinF F = wF F by unfold sinF; rw [hg1]; rfl)
    have HG1 := Lib.hid hg1
    have HG2 := Lib.hid (show (FloatKind.f64.format.order F quart64 == some .gt) = true by unfold fold1 at hg2; rw [hg1] at hg2; exact hg2)
    clear hg1 hg2
    have HFE := Lib.hid (show F = (fop .add .f64 (fop .sub .f64 y (floatOfInt .f64 n)) 4607182418800017408) by rw [HF.out]; unfold fracF; rw [HWH.out, hg3]; rfl)
    have g1 : (FloatKind.f64.format.order (fop .add .f64 (fop .sub .f64 y (floatOfInt .f64 n)) 4607182418800017408) 4602678819172646912 == some .gt || FloatKind.f64.format.order (fop .add .f64 (fop .sub .f64 y (floatOfInt .f64 n)) 4607182418800017408) 4602678819172646912 == some .eq) = false := by rw [← HFE.out]; exact HG1.out
    have g2 : (FloatKind.f64.format.order (fop .add .f64 (fop .sub .f64 y (floatOfInt .f64 n)) 4607182418800017408) 4598175219545276416 == some .gt) = true := by rw [← HFE.out]; exact HG2.out
    go_enter Try.func62, Try.ntmps62
    go_wp2
    generalize hz : fres .mul .f64 _ 4618760256179416344 _ = z
    have HZS : RowKit.Hid (Sim .f64 z (zF F)) := by rw [HZ.out, ← hz, HFE.out]; exact fres_of _ (fres_of _ (Sim.refl ..) (fres_of _ (fres_sim ..) (Sim.refl ..))) (Sim.refl ..)
    clear hz
    generalize hu : fres .mul .f64 z z _ = u
    have HU : RowKit.Hid (Sim .f64 u (fop .mul .f64 (zF F) (zF F))) := by rw [← hu]; exact fres_of _ HZS.out HZS.out
    clear hu
    go_loopw [7, 8] (fun v7 v8 w' => ∃ (p j : Nat) (k : Int), v7 = .float .f64 p ∧ v8 = .int .i64 k ∧ RowKit.Hid (j ≤ 8) ∧ RowKit.Hid (k = 8 - (j : Int)) ∧ RowKit.Hid (Sim .f64 p (pS (fop .mul .f64 (zF F) (zF F)) j)) ∧ RowKit.Hid (∃ c, w' = w.drewN c)) (fun _ v8 _ => (intOf v8).toNat)
    case atStart => exact ⟨4607182418800017408, 0, 8, rfl, rfl, Nat.zero_le 8, (show (8 : Int) = 8 - ((0 : Nat) : Int) by omega), Sim.refl .f64 _, (show ∃ c, _ = w.drewN c from ⟨_, rfl⟩)⟩
    case round =>
      obtain ⟨p, j, k, rfl, rfl, HJ, HK, HPS, HW⟩ := hrel
      by_cases hlt : j < 8
      · have hk1 : 1 ≤ k := by have := HK.out; omega
        have hk2 : k ≤ 8 := by have := HK.out; omega
        have HD := Lib.hid (show floatOfInt .f64 (2 * k * (2 * k + 1)) = den j by rw [HK.out]; rfl)
        have HLT := Lib.hid hlt
        clear hlt
        have hm1 : 2 * k * (2 * k + 1) ≤ 272 := by
          have h1 : 2 * k * (2 * k + 1) ≤ 16 * (2 * k + 1) := Int.mul_le_mul_of_nonneg_right (by omega) (by omega)
          omega
        have hm2 : 0 ≤ 2 * k * (2 * k + 1) := Int.mul_nonneg (by omega) (by omega)
        go_wp2
        go_roundw
        case rel =>
          refine ⟨_, j + 1, _, rfl, rfl, HLT.out, ?_, ?_, ?_⟩
          · show _ = (8 : Int) - ((j + 1 : Nat) : Int)
            rw [HK.out]; omega
          · show Sim .f64 _ (fop .sub .f64 one64 (fop .quo .f64 (fop .mul .f64 (fop .mul .f64 (zF F) (zF F)) (pS (fop .mul .f64 (zF F) (zF F)) j)) (den j)))
            rw [← HD.out]
            exact fres_of _ (Sim.refl ..) (fres_of _ (fres_of _ HU.out HPS.out) (Sim.refl ..))
          · obtain ⟨c, e⟩ := HW.out; exact ⟨_, by rw [e]; simp only [World.drewN_drewN]; rfl⟩
        case measure => simp [intOf]; omega
      · obtain rfl : j = 8 := by have := HJ.out; omega
        have hk0 : k = 0 := HK.out
        subst hk0
        clear hlt
        go_wp2
        go_ret
        refine ⟨_, rfl, ?_, by obtain ⟨c, e⟩ := HW.out; exact ⟨_, by rw [e]; simp only [World.drewN_drewN]; rfl⟩⟩
        rw [HP.out, ← HF.out, HE.out]
        exact fres_of _ HZS.out HPS.out
  case true.false.false =>
    have HZ := Lib.hid (show zF F = fop .mul .f64 (fop .sub .f64 F half64) turn64 by unfold zF foldF fold2; rw [hg2]; unfold fold1; rw [hg1]; rfl)
    have HE := Lib.hid (show sinF F = Op.negFloat .f64 (wF F) by unfold sinF; rw [hg1]; rfl)
    have HG1 := Lib.hid hg1
    have HG2 := Lib.hid (show (FloatKind.f64.format.order (fop .sub .f64 F half64) quart64 == some .gt) = false by unfold fold1 at hg2; rw [hg1] at hg2; exact hg2)
    clear hg1 hg2
    have HFE := Lib.hid (show F = (fop .sub .f64 y (floatOfInt .f64 n)) by rw [HF.out]; unfold fracF; rw [HWH.out, hg3]; rfl)
    have g1 : (FloatKind.f64.format.order (fop .sub .f64 y (floatOfInt .f64 n)) 4602678819172646912 == some .gt || FloatKind.f64.format.order (fop .sub .f64 y (floatOfInt .f64 n)) 4602678819172646912 == some .eq) = true := by rw [← HFE.out]; exact HG1.out
    have g2 : (FloatKind.f64.format.order (fop .sub .f64 (fop .sub .f64 y (floatOfInt .f64 n)) 4602678819172646912) 4598175219545276416 == some .gt) = false := by rw [← HFE.out]; exact HG2.out
    go_enter Try.func62, Try.ntmps62
    go_wp2
    generalize hz : fres .mul .f64 _ 4618760256179416344 _ = z
    have HZS : RowKit.Hid (Sim .f64 z (zF F)) := by rw [HZ.out, ← hz, HFE.out]; exact fres_of _ (fres_of _ (fres_sim ..) (Sim.refl ..)) (Sim.refl ..)
    clear hz
    generalize hu : fres .mul .f64 z z _ = u
    have HU : RowKit.Hid (Sim .f64 u (fop .mul .f64 (zF F) (zF F))) := by rw [← hu]; exact fres_of _ HZS.out HZS.out
    clear hu
    go_loopw [7, 8] (fun v7 v8 w' => ∃ (p j : Nat) (k : Int), v7 = .float .f64 p ∧ v8 = .int .i64 k ∧ RowKit.Hid (j ≤ 8) ∧ RowKit.Hid (k = 8 - (j : Int)) ∧ RowKit.Hid (Sim .f64 p (pS (fop .mul .f64 (zF F) (zF F)) j)) ∧ RowKit.Hid (∃ c, w' = w.drewN c)) (fun _ v8 _ => (intOf v8).toNat)
    case atStart => exact ⟨4607182418800017408, 0, 8, rfl, rfl, Nat.zero_le 8, (show (8 : Int) = 8 - ((0 : Nat) : Int) by omega), Sim.refl .f64 _, (show ∃ c, _ = w.drewN c from ⟨_, rfl⟩)⟩
    case round =>
      obtain ⟨p, j, k, rfl, rfl, HJ, HK, HPS, HW⟩ := hrel
      by_cases hlt : j < 8
      · have hk1 : 1 ≤ k := by have := HK.out; omega
        have hk2 : k ≤ 8 := by have := HK.out; omega
        have HD := Lib.hid (show floatOfInt .f64 (2 * k * (2 * k + 1)) = den j by rw [HK.out]; rfl)
        have HLT := Lib.hid hlt
        clear hlt
        have hm1 : 2 * k * (2 * k + 1) ≤ 272 := by
          have h1 : 2 * k * (2 * k + 1) ≤ 16 * (2 * k + 1) := Int.mul_le_mul_of_nonneg_right (by omega) (by omega)
          omega
        have hm2 : 0 ≤ 2 * k * (2 * k + 1) := Int.mul_nonneg (by omega) (by omega)
        go_wp2
        go_roundw
        case rel =>
          refine ⟨_, j + 1, _, rfl, rfl, HLT.out, ?_, ?_, ?_⟩
          · show _ = (8 : Int) - ((j + 1 : Nat) : Int)
            rw [HK.out]; omega
          · show Sim .f64 _ (fop .sub .f64 one64 (fop .quo .f64 (fop .mul .f64 (fop .mul .f64 (zF F) (zF F)) (pS (fop .mul .f64 (zF F) (zF F)) j)) (den j)))
            rw [← HD.out]
            exact fres_of _ (Sim.refl ..) (fres_of _ (fres_of _ HU.out HPS.out) (Sim.refl ..))
          · obtain ⟨c, e⟩ := HW.out; exact ⟨_, by rw [e]; simp only [World.drewN_drewN]; rfl⟩
        case measure => simp [intOf]; omega
      · obtain rfl : j = 8 := by have := HJ.out; omega
        have hk0 : k = 0 := HK.out
        subst hk0
        clear hlt
        go_wp2
        go_ret
        refine ⟨_, rfl, ?_, by obtain ⟨c, e⟩ := HW.out; exact ⟨_, by rw [e]; simp only [World.drewN_drewN]; rfl⟩⟩
        rw [HP.out, ← HF.out, HE.out]
        exact neg_sim (fres_lt ..) (fop_lt ..) (fres_of _ HZS.out HPS.out)
  case true.false.true =>
    have HZ := Lib.hid (show zF F = fop .mul .f64 (fop .sub .f64 F half64) turn64 by unfold zF foldF fold2; rw [hg2]; unfold fold1; rw [hg1]; rfl)
    have HE := Lib.hid (show sinF F = Op.negFloat .f64 (wF F) by unfold sinF; rw [hg1]; rfl)
    have HG1 := Lib.hid hg1
    have HG2 := Lib.hid (show (FloatKind.f64.format.order (fop .sub .f64 F half64) quart64 == some .gt) = false by unfold fold1 at hg2; rw [hg1] at hg2; exact hg2)
    clear hg1 hg2
    have HFE := Lib.hid (show F = (fop .add .f64 (fop .sub .f64 y (floatOfInt .f64 n)) 4607182418800017408) by rw [HF.out]; unfold fracF; rw [HWH.out, hg3]; rfl)
    have g1 : (FloatKind.f64.format.order (fop .add .f64 (fop .sub .f64 y (floatOfInt .f64 n)) 4607182418800017408) 4602678819172646912 == some .gt || FloatKind.f64.format.order (fop .add .f64 (fop .sub .f64 y (floatOfInt .f64 n)) 4607182418800017408) 4602678819172646912 == some .eq) = true := by rw [← HFE.out]; exact HG1.out
    have g2 : (FloatKind.f64.format.order (fop .sub .f64 (fop .add .f64 (fop .sub .f64 y (floatOfInt .f64 n)) 4607182418800017408) 4602678819172646912) 4598175219545276416 == some .gt) = false := by rw [← HFE.out]; exact HG2.out
    go_enter Try.func62, Try.ntmps62
    go_wp2
    generalize hz : fres .mul .f64 _ 4618760256179416344 _ = z
    have HZS : RowKit.Hid (Sim .f64 z (zF F)) := by rw [HZ.out, ← hz, HFE.out]; exact fres_of _ (fres_of _ (fres_of _ (fres_sim ..) (Sim.refl ..)) (Sim.refl ..)) (Sim.refl ..)
    clear hz
    generalize hu : fres .mul .f64 z z _ = u
    have HU : RowKit.Hid (Sim .f64 u (fop .mul .f64 (zF F) (zF F))) := by rw [← hu]; exact fres_of _ HZS.out HZS.out
    clear hu
    go_loopw [7, 8] (fun v7 v8 w' => ∃ (p j : Nat) (k : Int), v7 = .float .f64 p ∧ v8 = .int .i64 k ∧ RowKit.Hid (j ≤ 8) ∧ RowKit.Hid (k = 8 - (j : Int)) ∧ RowKit.Hid (Sim .f64 p (pS (fop .mul .f64 (zF F) (zF F)) j)) ∧ RowKit.Hid (∃ c, w' = w.drewN c)) (fun _ v8 _ => (intOf v8).toNat)
    case atStart => exact ⟨4607182418800017408, 0, 8, rfl, rfl, Nat.zero_le 8, (show (8 : Int) = 8 - ((0 : Nat) : Int) by omega), Sim.refl .f64 _, (show ∃ c, _ = w.drewN c from ⟨_, rfl⟩)⟩
    case round =>
      obtain ⟨p, j, k, rfl, rfl, HJ, HK, HPS, HW⟩ := hrel
      by_cases hlt : j < 8
      · have hk1 : 1 ≤ k := by have := HK.out; omega
        have hk2 : k ≤ 8 := by have := HK.out; omega
        have HD := Lib.hid (show floatOfInt .f64 (2 * k * (2 * k + 1)) = den j by rw [HK.out]; rfl)
        have HLT := Lib.hid hlt
        clear hlt
        have hm1 : 2 * k * (2 * k + 1) ≤ 272 := by
          have h1 : 2 * k * (2 * k + 1) ≤ 16 * (2 * k + 1) := Int.mul_le_mul_of_nonneg_right (by omega) (by omega)
          omega
        have hm2 : 0 ≤ 2 * k * (2 * k + 1) := Int.mul_nonneg (by omega) (by omega)
        go_wp2
        go_roundw
        case rel =>
          refine ⟨_, j + 1, _, rfl, rfl, HLT.out, ?_, ?_, ?_⟩
          · show _ = (8 : Int) - ((j + 1 : Nat) : Int)
            rw [HK.out]; omega
          · show Sim .f64 _ (fop .sub .f64 one64 (fop .quo .f64 (fop .mul .f64 (fop .mul .f64 (zF F) (zF F)) (pS (fop .mul .f64 (zF F) (zF F)) j)) (den j)))
            rw [← HD.out]
            exact fres_of _ (Sim.refl ..) (fres_of _ (fres_of _ HU.out HPS.out) (Sim.refl ..))
          · obtain ⟨c, e⟩ := HW.out; exact ⟨_, by rw [e]; simp only [World.drewN_drewN]; rfl⟩
        case measure => simp [intOf]; omega
      · obtain rfl : j = 8 := by have := HJ.out; omega
        have hk0 : k = 0 := HK.out
        subst hk0
        clear hlt
        go_wp2
        go_ret
        refine ⟨_, rfl, ?_, by obtain ⟨c, e⟩ := HW.out; exact ⟨_, by rw [e]; simp only [World.drewN_drewN]; rfl⟩⟩
        rw [HP.out, ← HF.out, HE.out]
        exact neg_sim (fres_lt ..) (fop_lt ..) (fres_of _ HZS.out HPS.out)
  case true.true.false =>
    have HZ := Lib.hid (show zF F = fop .mul .f64 (fop .sub .f64 half64 (fop .sub .f64 F half64)) turn64 by unfold zF foldF fold2; rw [hg2]; unfold fold1; rw [hg1]; rfl)
    have HE := Lib.hid (show sinF F = Op.negFloat .f64 (wF F) by unfold sinF; rw [hg1]; rfl)
    have HG1 := Lib.hid hg1
    have HG2 := Lib.hid (show (FloatKind.f64.format.order (fop .sub .f64 F half64) quart64 == some .gt) = true by unfold fold1 at hg2; rw [hg1] at hg2; exact hg2)
    clear hg1 hg2
    have HFE := Lib.hid (show F = (fop .sub .f64 y (floatOfInt .f64 n)) by rw [HF.out]; unfold fracF; rw [HWH.out, hg3]; rfl)
    have g1 : (FloatKind.f64.format.order (fop .sub .f64 y (floatOfInt .f64 n)) 4602678819172646912 == some .gt || FloatKind.f64.format.order (fop .sub .f64 y (floatOfInt .f64 n)) 4602678819172646912 == some .eq) = true := by rw [← HFE.out]; exact HG1.out
    have g2 : (FloatKind.f64.format.order (fop .sub .f64 (fop .sub .f64 y (floatOfInt .f64 n)) 4602678819172646912) 4598175219545276416 == some .gt) = true := by rw [← HFE.out]; exact HG2.out
    go_enter Try.func62, Try.ntmps62
    go_wp2
    generalize hz : fres .mul .f64 _ 4618760256179416344 _ = z
    have HZS : RowKit.Hid (Sim .f64 z (zF F)) := by rw [HZ.out, ← hz, HFE.out]; exact fres_of _ (fres_of _ (Sim.refl ..) (fres_of _ (fres_sim ..) (Sim.refl ..))) (Sim.refl ..)
    clear hz
    generalize hu : fres .mul .f64 z z _ = u
    have HU : RowKit.Hid (Sim .f64 u (fop .mul .f64 (zF F) (zF F))) := by rw [← hu]; exact fres_of _ HZS.out HZS.out
    clear hu
    go_loopw [7, 8] (fun v7 v8 w' => ∃ (p j : Nat) (k : Int), v7 = .float .f64 p ∧ v8 = .int .i64 k ∧ RowKit.Hid (j ≤ 8) ∧ RowKit.Hid (k = 8 - (j : Int)) ∧ RowKit.Hid (Sim .f64 p (pS (fop .mul .f64 (zF F) (zF F)) j)) ∧ RowKit.Hid (∃ c, w' = w.drewN c)) (fun _ v8 _ => (intOf v8).toNat)
    case atStart => exact ⟨4607182418800017408, 0, 8, rfl, rfl, Nat.zero_le 8, (show (8 : Int) = 8 - ((0 : Nat) : Int) by omega), Sim.refl .f64 _, (show ∃ c, _ = w.drewN c from ⟨_, rfl⟩)⟩
    case round =>
      obtain ⟨p, j, k, rfl, rfl, HJ, HK, HPS, HW⟩ := hrel
      by_cases hlt : j < 8
      · have hk1 : 1 ≤ k := by have := HK.out; omega
        have hk2 : k ≤ 8 := by have := HK.out; omega
        have HD := Lib.hid (show floatOfInt .f64 (2 * k * (2 * k + 1)) = den j by rw [HK.out]; rfl)
        have HLT := Lib.hid hlt
        clear hlt
        have hm1 : 2 * k * (2 * k + 1) ≤ 272 := by
          have h1 : 2 * k * (2 * k + 1) ≤ 16 * (2 * k + 1) := Int.mul_le_mul_of_nonneg_right (by omega) (by omega)
          omega
        have hm2 : 0 ≤ 2 * k * (2 * k + 1) := Int.mul_nonneg (by omega) (by omega)
        go_wp2
        go_roundw
        case rel =>
          refine ⟨_, j + 1, _, rfl, rfl, HLT.out, ?_, ?_, ?_⟩
          · show _ = (8 : Int) - ((j + 1 : Nat) : Int)
            rw [HK.out]; omega
          · show Sim .f64 _ (fop .sub .f64 one64 (fop .quo .f64 (fop .mul .f64 (fop .mul .f64 (zF F) (zF F)) (pS (fop .mul .f64 (zF F) (zF F)) j)) (den j)))
            rw [← HD.out]
            exact fres_of _ (Sim.refl ..) (fres_of _ (fres_of _ HU.out HPS.out) (Sim.refl ..))
          · obtain ⟨c, e⟩ := HW.out; exact ⟨_, by rw [e]; simp only [World.drewN_drewN]; rfl⟩
        case measure => simp [intOf]; omega
      · obtain rfl : j = 8 := by have := HJ.out; omega
        have hk0 : k = 0 := HK.out
        subst hk0
        clear hlt
        go_wp2
        go_ret
        refine ⟨_, rfl, ?_, by obtain ⟨c, e⟩ := HW.out; exact ⟨_, by rw [e]; simp only [World.drewN_drewN]; rfl⟩⟩
        rw [HP.out, ← HF.out, HE.out]
        exact neg_sim (fres_lt ..) (fop_lt ..) (fres_of _ HZS.out HPS.out)
  case true.true.true =>
    have HZ := Lib.hid (show zF F = fop .mul .f64 (fop .sub .f64 half64 (fop .sub .f64 F half64)) turn64 by unfold zF foldF fold2; rw [hg2]; unfold fold1; rw [hg1]; rfl)
    have HE := Lib.hid (show sinF F = Op.negFloat .f64 (wF F) by unfold sinF; rw [hg1]; rfl)
    have HG1 := Lib.hid hg1
    have HG2 := Lib.hid (show (FloatKind.f64.format.order (fop .sub .f64 F half64) quart64 == some .gt) = true by unfold fold1 at hg2; rw [hg1] at hg2; exact hg2)
    clear hg1 hg2
    have HFE := Lib.hid (show F = (fop .add .f64 (fop .sub .f64 y (floatOfInt .f64 n)) 4607182418800017408) by rw [HF.out]; unfold fracF; rw [HWH.out, hg3]; rfl)
    have g1 : (FloatKind.f64.format.order (fop .add .f64 (fop .sub .f64 y (floatOfInt .f64 n)) 4607182418800017408) 4602678819172646912 == some .gt || FloatKind.f64.format.order (fop .add .f64 (fop .sub .f64 y (floatOfInt .f64 n)) 4607182418800017408) 4602678819172646912 == some .eq) = true := by rw [← HFE.out]; exact HG1.out
    have g2 : (FloatKind.f64.format.order (fop .sub .f64 (fop .add .f64 (fop .sub .f64 y (floatOfInt .f64 n)) 4607182418800017408) 4602678819172646912) 4598175219545276416 == some .gt) = true := by rw [← HFE.out]; exact HG2.out
    go_enter Try.func62, Try.ntmps62
    go_wp2
    generalize hz : fres .mul .f64 _ 4618760256179416344 _ = z
    have HZS : RowKit.Hid (Sim .f64 z (zF F)) := by rw [HZ.out, ← hz, HFE.out]; exact fres_of _ (fres_of _ (Sim.refl ..) (fres_of _ (fres_of _ (fres_sim ..) (Sim.refl ..)) (Sim.refl ..))) (Sim.refl ..)
    clear hz
    generalize hu : fres .mul .f64 z z _ = u
    have HU : RowKit.Hid (Sim .f64 u (fop .mul .f64 (zF F) (zF F))) := by rw [← hu]; exact fres_of _ HZS.out HZS.out
    clear hu
    go_loopw [7, 8] (fun v7 v8 w' => ∃ (p j : Nat) (k : Int), v7 = .float .f64 p ∧ v8 = .int .i64 k ∧ RowKit.Hid (j ≤ 8) ∧ RowKit.Hid (k = 8 - (j : Int)) ∧ RowKit.Hid (Sim .f64 p (pS (fop .mul .f64 (zF F) (zF F)) j)) ∧ RowKit.Hid (∃ c, w' = w.drewN c)) (fun _ v8 _ => (intOf v8).toNat)
    case atStart => exact ⟨4607182418800017408, 0, 8, rfl, rfl, Nat.zero_le 8, (show (8 : Int) = 8 - ((0 : Nat) : Int) by omega), Sim.refl .f64 _, (show ∃ c, _ = w.drewN c from ⟨_, rfl⟩)⟩
    case round =>
      obtain ⟨p, j, k, rfl, rfl, HJ, HK, HPS, HW⟩ := hrel
      by_cases hlt : j < 8
      · have hk1 : 1 ≤ k := by have := HK.out; omega
        have hk2 : k ≤ 8 := by have := HK.out; omega
        have HD := Lib.hid (show floatOfInt .f64 (2 * k * (2 * k + 1)) = den j by rw [HK.out]; rfl)
        have HLT := Lib.hid hlt
        clear hlt
        have hm1 : 2 * k * (2 * k + 1) ≤ 272 := by
          have h1 : 2 * k * (2 * k + 1) ≤ 16 * (2 * k + 1) := Int.mul_le_mul_of_nonneg_right (by omega) (by omega)
          omega
        have hm2 : 0 ≤ 2 * k * (2 * k + 1) := Int.mul_nonneg (by omega) (by omega)
        go_wp2
        go_roundw
        case rel =>
          refine ⟨_, j + 1, _, rfl, rfl, HLT.out, ?_, ?_, ?_⟩
          · show _ = (8 : Int) - ((j + 1 : Nat) : Int)
            rw [HK.out]; omega
          · show Sim .f64 _ (fop .sub .f64 one64 (fop .quo .f64 (fop .mul .f64 (fop .mul .f64 (zF F) (zF F)) (pS (fop .mul .f64 (zF F) (zF F)) j)) (den j)))
            rw [← HD.out]
            exact fres_of _ (Sim.refl ..) (fres_of _ (fres_of _ HU.out HPS.out) (Sim.refl ..))
          · obtain ⟨c, e⟩ := HW.out; exact ⟨_, by rw [e]; simp only [World.drewN_drewN]; rfl⟩
        case measure => simp [intOf]; omega
      · obtain rfl : j = 8 := by have := HJ.out; omega
        have hk0 : k = 0 := HK.out
        subst hk0
        clear hlt
        go_wp2
        go_ret
        refine ⟨_, rfl, ?_, by obtain ⟨c, e⟩ := HW.out; exact ⟨_, by rw [e]; simp only [World.drewN_drewN]; rfl⟩⟩
        rw [HP.out, ← HF.out, HE.out]
        exact neg_sim (fres_lt ..) (fop_lt ..) (fres_of _ HZS.out HPS.out)
end Go.Proofs.Ytpjgodeabdcdcaa
