/- The power of e in 64 bits: a pure form, and that the program's walk computes it at numbers of the size of 200 or less. -/
import Derived.Test.YtpjgodeabdcdcaaLog
import Derived.Test.YtpjgodeabdcdcaaChecked
namespace Go.Proofs.Ytpjgodeabdcdcaa
open Go.RowKit Fl Ieee
namespace Fl
def kE (j : Nat) : Nat := floatOfInt .f64 (12 - j)
def tE (y : Nat) : Nat := fop .quo .f64 y 4643211215818981376
def pE (t : Nat) : Nat → Nat
  | 0 => one64
  | j + 1 => fop .add .f64 one64 (fop .quo .f64 (fop .mul .f64 t (pE t j)) (kE j))
def sqE (p : Nat) : Nat → Nat
  | 0 => p
  | j + 1 => fop .mul .f64 (sqE p j) (sqE p j)
def expF (y : Nat) : Nat := sqE (pE (tE y) 12) 8
theorem kE_dec : ∀ j, j < 12 → floatBits .sub .f64 (kE j) one64 = some (kE (j + 1)) := by
  have h : ∀ j : Fin 12, floatBits .sub .f64 (kE j.val) one64 = some (kE (j.val + 1)) := by decide +kernel
  intro j hj; exact h ⟨j, hj⟩
theorem kE_on : ∀ j, j < 12 → (FloatKind.f64.format.order (kE j) one64 == some .gt || FloatKind.f64.format.order (kE j) one64 == some .eq) = true := by
  have h : ∀ j : Fin 12, (FloatKind.f64.format.order (kE j.val) one64 == some .gt || FloatKind.f64.format.order (kE j.val) one64 == some .eq) = true := by decide +kernel
  intro j hj; exact h ⟨j, hj⟩
theorem kE_off : (FloatKind.f64.format.order (kE 12) one64 == some .gt || FloatKind.f64.format.order (kE 12) one64 == some .eq) = false := by decide +kernel
theorem kE_fall : ∀ j, j < 12 → fall (kE (j + 1)) < fall (kE j) := by
  have h : ∀ j : Fin 12, fall (kE (j.val + 1)) < fall (kE j.val) := by decide +kernel
  intro j hj; exact h ⟨j, hj⟩
theorem kE_zero : 4622945017495814144 = kE 0 := by decide +kernel
end Fl

set_option maxHeartbeats 1000000 in
set_option maxRecDepth 100000 in
theorem expWide_any (y : Nat) (g1 : (FloatKind.f64.format.order y 4641240890982006784 == some .gt) = false) (g2 : (FloatKind.f64.format.order y 13864612927836782592 == some .lt) = false) (w : World) : Calls Try.prog 59 #[.float .f64 y] w fun e w' => ∃ r, e = .returned (.float .f64 r) ∧ Sim .f64 r (expF y) ∧ ∃ n, w' = w.drewN n := by
  go_enter Try.func59, Try.ntmps59
  go_wp2
  generalize ht : fres .quo .f64 y _ _ = t
  have HT : RowKit.Hid (Sim .f64 t (tE y)) := by rw [← ht]; exact fres_sim ..
  clear ht
  go_loopw [4, 5] (fun v4 v5 w' => ∃ (p k m : Nat), v4 = .float .f64 p ∧ v5 = .float .f64 k ∧ RowKit.Hid (m ≤ 12) ∧ RowKit.Hid (k = kE m) ∧ RowKit.Hid (Sim .f64 p (pE (tE y) m)) ∧ RowKit.Hid (∃ c, w' = w.drewN c)) (fun _ v5 _ => fallL v5)
  case atStart => exact ⟨4607182418800017408, 4622945017495814144, 0, rfl, rfl, Nat.zero_le 12, kE_zero, Sim.refl .f64 _, (show ∃ c, _ = w.drewN c from ⟨_, rfl⟩)⟩
  case round =>
    obtain ⟨p, k, m, rfl, rfl, HM, HK, HP, HW⟩ := hrel
    by_cases hm : m < 12
    · have gk : (FloatKind.f64.format.order k 4607182418800017408 == some .gt || FloatKind.f64.format.order k 4607182418800017408 == some .eq) = true := by rw [HK.out]; exact kE_on m hm
      have HMM := Lib.hid hm
      clear hm
      go_wp2
      go_roundw
      case rel =>
        refine ⟨_, _, m + 1, rfl, rfl, HMM.out, ?_, ?_, ?_⟩
        · exact fres_some _ (by rw [HK.out]; exact kE_dec m HMM.out)
        · show Sim .f64 _ (fop .add .f64 one64 (fop .quo .f64 (fop .mul .f64 (tE y) (pE (tE y) m)) (kE m)))
          rw [← HK.out]
          exact fres_of _ (Sim.refl ..) (fres_of _ (fres_of _ HT.out HP.out) (Sim.refl ..))
        · obtain ⟨c, h⟩ := HW.out; exact ⟨_, by rw [h]; simp only [World.drewN_drewN]; rfl⟩
      case measure =>
        show fall (fres .sub .f64 k one64 _) < fall k
        rw [fres_some _ (by rw [HK.out]; exact kE_dec m HMM.out), HK.out]
        exact kE_fall m HMM.out
    · obtain rfl : m = 12 := by have := HM.out; omega
      have gk : (FloatKind.f64.format.order k 4607182418800017408 == some .gt || FloatKind.f64.format.order k 4607182418800017408 == some .eq) = false := by rw [HK.out]; exact kE_off
      clear hm
      go_wp2
      go_loopw [4, 25] (fun v4 vc w' => ∃ (q j : Nat), v4 = .float .f64 q ∧ vc = .int .i64 j ∧ RowKit.Hid (j ≤ 8) ∧ RowKit.Hid (Sim .f64 q (sqE (pE (tE y) 12) j)) ∧ RowKit.Hid (∃ c, w' = w.drewN c)) (fun _ vc _ => 8 - (intOf vc).toNat)
      case atStart => exact ⟨p, 0, rfl, rfl, Nat.zero_le 8, HP, HW⟩
      case round =>
        obtain ⟨q, j, rfl, rfl, HJ, HQ, HV⟩ := hrel
        by_cases hj : j < 8
        · have HJJ := Lib.hid hj
          go_wp2
          go_roundw
          case rel =>
            refine ⟨_, j + 1, rfl, by go_num, HJJ.out, ?_, by obtain ⟨c, h⟩ := HV.out; exact ⟨_, by rw [h]; simp only [World.drewN_drewN]; rfl⟩⟩
            show Sim .f64 _ (fop .mul .f64 (sqE (pE (tE y) 12) j) (sqE (pE (tE y) 12) j))
            exact fres_of _ HQ.out HQ.out
          case measure => simp [intOf]; omega
        · obtain rfl : j = 8 := by have := HJ.out; omega
          clear hj
          go_wp2
          go_ret
          exact ⟨_, rfl, HQ.out, by obtain ⟨c, h⟩ := HV.out; exact ⟨_, by rw [h]⟩⟩
/-- a number and what its power is, narrowed -/
theorem expOf_any (x X : Nat) (hc : ∀ w, cres .f32 x .f64 w = X) (g1 : (FloatKind.f64.format.order X 4641240890982006784 == some .gt) = false) (g2 : (FloatKind.f64.format.order X 13864612927836782592 == some .lt) = false) (w : World) : Calls Try.prog 36 #[.float .f32 x] w fun e w' => ∃ r, e = .returned (.float .f64 r) ∧ Sim .f64 r (expF X) ∧ ∃ n, w' = w.drewN n := by
  have G1 := Lib.hid g1
  have G2 := Lib.hid g2
  clear g1 g2
  go_enter Try.func36, Try.ntmps36
  go_wp2_with (go_at_call 59; refine (expWide_any _ G1.out G2.out _).mono ?_; rintro e w' ⟨r, rfl, hr, n, rfl⟩)
  go_ret
  exact ⟨_, rfl, hr, _, rfl⟩
theorem Fl.exact_of {v T E : Nat} (h : Sim .f64 v T) (hE : floatToFloatBits .f64 T .f32 = some E) (w : World) : cres .f64 v .f32 w = E := by
  rcases h with rfl | ⟨_, b⟩
  · exact cres_some w hE
  · exfalso
    obtain ⟨s, t, he⟩ := (isN_iff _ _).1 b
    unfold floatToFloatBits at hE; rw [if_neg (by decide), he] at hE; cases hE
theorem ExpNumber_at (x X E : Nat) (hc : ∀ w, cres .f32 x .f64 w = X) (g1 : (FloatKind.f64.format.order X 4641240890982006784 == some .gt) = false) (g2 : (FloatKind.f64.format.order X 13864612927836782592 == some .lt) = false) (hE : floatToFloatBits .f64 (expF X) .f32 = some E) (w : World) : Calls Try.prog 14 #[.float .f32 x] w fun e w' => e = .returned (.float .f32 E) ∧ ∃ n, w' = w.drewN n := by
  have HO := Lib.hid (expOf_any x X hc g1 g2)
  have HE := Lib.hid hE
  clear hc g1 g2 hE
  go_enter Try.func14, Try.ntmps14
  go_wp2_with (go_at_call 36; refine (HO.out _).mono ?_; rintro e w' ⟨r, rfl, hr, n, rfl⟩)
  have hx := fun w => exact_of hr HE.out w
  simp only [hx]
  go_ret
  exact ⟨rfl, _, rfl⟩
theorem LogNumber_at (x y L : Nat) (hc : ∀ w, cres .f32 x .f64 w = y) (h1 : 3936146074321813504 ≤ y) (h2 : y ≤ 5183643171103440896) (g1 : (FloatKind.f32.format.order x 0 == some .eq) = false) (g2 : (FloatKind.f32.format.order x 0 == some .lt) = false) (g3 : (FloatKind.f32.format.order x x != some .eq) = false) (hf : finB x = true) (hL : floatToFloatBits .f64 (logF y) .f32 = some L) (w : World) :
    Calls Try.prog 16 #[.float .f32 x] w fun e w' => e = .returned (.float .f32 L) ∧ ∃ n, w' = w.drewN n := by
  have H1 := Lib.hid h1
  have H2 := Lib.hid h2
  have HL := Lib.hid hL
  clear h1 h2 hL
  go_enter Try.func16, Try.ntmps16
  go_wp2_with (first | (go_at_call 39; refine (IsFinite_any _ _).mono ?_; rintro e w' ⟨rfl, n, rfl⟩) | (go_at_call 40; refine (naturalLog_any _ H1.out H2.out _).mono ?_; rintro e w' ⟨v, rfl, hv, n, rfl⟩))
  have hx := fun w => exact_of hv HL.out w
  simp only [hx]
  go_ret
  exact ⟨rfl, _, rfl⟩
end Go.Proofs.Ytpjgodeabdcdcaa
