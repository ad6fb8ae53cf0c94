/- The angle of a point: the walks of both sides, where both coordinates are finite and not both zero. -/
import Derived.Test.YtpjgodeabdcdcaaAngB
import Derived.Test.YtpjgodeabdcdcaaChecked
namespace Go.Proofs.Ytpjgodeabdcdcaa
open Go.RowKit Fl Ieee
set_option maxHeartbeats 2000000 in
set_option maxRecDepth 100000 in
theorem AngleTurns_yes (y x Y X A B : Nat) (zx zy o bx b2 : Bool) (hz : (zx && zy) = false) (hf1 : finB x = true) (hf2 : finB y = true) (hzx : (FloatKind.f32.format.order x 0 == some .eq) = zx) (hzy : (FloatKind.f32.format.order y 0 == some .eq) = zy) (hX : X < 18446744073709551616) (hY : Y < 18446744073709551616)
    (hcx : ∀ w, cres .f32 x .f64 w = X) (hcy : ∀ w, cres .f32 y .f64 w = Y) (hA : Y % 9223372036854775808 = A) (hB : X % 9223372036854775808 = B) (ho : (FloatKind.f64.format.order A B == some .gt) = o) (hbx : (FloatKind.f32.format.order x 0 == some .lt) = bx) (hby : (FloatKind.f32.format.order y 0 == some .lt) = b2) (hN : Nar (ang3 o bx b2 (tN (tA A B) 3))) (w : World) :
    Calls Try.prog 29 #[.float .f32 y, .float .f32 x] w fun e w' => ∃ r, e = .returned (.float .f32 r) ∧ Sim .f32 r (cop .f64 (ang3 o bx b2 (tN (tA A B) 3)) .f32) ∧ ∃ n, w' = w.drewN n := by
  have HN := Lib.hid hN
  have HX := Lib.hid hX
  have HY := Lib.hid hY
  have HT0 := Lib.hid (show tA A B = if o then fop .quo .f64 B A else fop .quo .f64 A B by rw [← ho]; rfl)
  clear hX hY hN
  obtain ⟨T0, hT0⟩ : ∃ T0, T0 = tA A B := ⟨_, rfl⟩
  have HTT := Lib.hid hT0
  rw [← hT0] at HN HT0 ⊢
  clear hT0
  cases zx <;> cases zy <;> cases o
  case false.false.false =>
    clear hz
    go_enter Try.func29, Try.ntmps29
    go_wp2_with (first | (go_at_call 39; refine (IsFinite_any _ _).mono ?_; rintro e w' ⟨rfl, n, rfl⟩) | (go_at_call 42; first | (refine (Abs_any _ HX.out _).mono ?_; rintro e w' ⟨rfl, rfl⟩) | (refine (Abs_any _ HY.out _).mono ?_; rintro e w' ⟨rfl, rfl⟩)))
    generalize ht : fres .quo .f64 A B _ = t
    have HT1 : RowKit.Hid (Sim .f64 t (tN T0 0)) := by show Sim .f64 t T0; rw [HT0.out, ← ht]; exact fres_sim ..
    clear ht
    go_loopw [7, 43] (fun vt vc w' => ∃ (t j : Nat), vt = .float .f64 t ∧ vc = .int .i64 j ∧ RowKit.Hid (j ≤ 3) ∧ RowKit.Hid (Sim .f64 t (tN T0 j)) ∧ RowKit.Hid (∃ c, w' = w.drewN c)) (fun _ vc _ => 3 - (intOf vc).toNat)
    case atStart => exact ⟨t, 0, rfl, rfl, Nat.zero_le 3, HT1, (show ∃ c, _ = w.drewN c from ⟨_, rfl⟩)⟩
    case round =>
      obtain ⟨t, j, rfl, rfl, HJ, HT, HW⟩ := hrel
      by_cases hj : j < 3
      · have HJJ := Lib.hid hj
        go_wp2_with (go_at_call 45; refine (Sqrt_any _ _).mono ?_; rintro e w' ⟨rfl, rfl⟩)
        go_roundw
        case rel =>
          refine ⟨_, j + 1, rfl, by go_num, HJJ.out, ?_, by obtain ⟨c, h⟩ := HW.out; exact ⟨_, by rw [h]; simp only [World.drewN_drewN]; rfl⟩⟩
          show Sim .f64 _ (fop .quo .f64 (tN T0 j) (fop .add .f64 one64 (sop (fop .add .f64 one64 (fop .mul .f64 (tN T0 j) (tN T0 j))))))
          exact fres_of _ HT.out (fres_of _ (Sim.refl ..) (sres_of _ (fres_of _ (Sim.refl ..) (fres_of _ HT.out HT.out))))
        case measure => simp [intOf]; omega
      · obtain rfl : j = 3 := by have := HJ.out; omega
        clear hj
        go_wp2
        generalize hu : fres .mul .f64 t t _ = u
        have HU : RowKit.Hid (Sim .f64 u (fop .mul .f64 (tN T0 3) (tN T0 3))) := by rw [← hu]; exact fres_of _ HT.out HT.out
        clear hu
        go_loopw [9, 10] (fun v9 v10 w' => ∃ (p k m : Nat), v9 = .float .f64 p ∧ v10 = .float .f64 k ∧ RowKit.Hid (m ≤ 8) ∧ RowKit.Hid (k = kA m) ∧ RowKit.Hid (Sim .f64 p (pA (fop .mul .f64 (tN T0 3) (tN T0 3)) m)) ∧ RowKit.Hid (∃ c, w' = w.drewN c)) (fun _ v10 _ => fallL v10)
        case atStart => exact ⟨0, 4624633867356078080, 0, rfl, rfl, Nat.zero_le 8, kA_zero, Sim.refl .f64 _, (by obtain ⟨c, h⟩ := HW.out; exact ⟨_, by rw [h]; simp only [World.drewN_drewN]; rfl⟩)⟩
        case round =>
          obtain ⟨p, k, m, rfl, rfl, HM, HK, HP, HW2⟩ := hrel
          by_cases hm : m < 8
          · have gk : (FloatKind.f64.format.order k 4607182418800017408 == some .gt || FloatKind.f64.format.order k 4607182418800017408 == some .eq) = true := by rw [HK.out]; exact kA_on m hm
            have HMM := Lib.hid hm
            clear hm
            go_wp2
            go_roundw
            case rel =>
              refine ⟨_, _, m + 1, rfl, rfl, HMM.out, ?_, ?_, ?_⟩
              · exact fres_some _ (by rw [HK.out]; exact kA_dec m HMM.out)
              · show Sim .f64 _ (fop .sub .f64 (fop .quo .f64 one64 (kA m)) (fop .mul .f64 (fop .mul .f64 (tN T0 3) (tN T0 3)) (pA (fop .mul .f64 (tN T0 3) (tN T0 3)) m)))
                rw [← HK.out]
                exact fres_of _ (fres_sim ..) (fres_of _ HU.out HP.out)
              · obtain ⟨c, h⟩ := HW2.out; exact ⟨_, by rw [h]; simp only [World.drewN_drewN]; rfl⟩
            case measure =>
              show fall (fres .sub .f64 k two64 _) < fall k
              rw [fres_some _ (by rw [HK.out]; exact kA_dec m HMM.out), HK.out]
              exact kA_fall m HMM.out
          · obtain rfl : m = 8 := by have := HM.out; omega
            have gk : (FloatKind.f64.format.order k 4607182418800017408 == some .gt || FloatKind.f64.format.order k 4607182418800017408 == some .eq) = false := by rw [HK.out]; exact kA_off
            clear hm
            cases bx <;> cases b2
            case false.false =>
              go_wp2
              go_ret
              refine ⟨_, rfl, nar_sim _ ?_ HN.out, by obtain ⟨c, h⟩ := HW2.out; exact ⟨_, by rw [h]; simp only [World.drewN_drewN]; rfl⟩⟩
              exact (fres_of _ (fres_of _ (Sim.refl ..) (fres_of _ HT.out HP.out)) (Sim.refl ..))
            case false.true =>
              go_wp2
              go_ret
              refine ⟨_, rfl, nar_sim _ ?_ HN.out, by obtain ⟨c, h⟩ := HW2.out; exact ⟨_, by rw [h]; simp only [World.drewN_drewN]; rfl⟩⟩
              exact (neg_sim (fres_lt ..) (fop_lt ..) (fres_of _ (fres_of _ (Sim.refl ..) (fres_of _ HT.out HP.out)) (Sim.refl ..)))
            case true.false =>
              go_wp2
              go_ret
              refine ⟨_, rfl, nar_sim _ ?_ HN.out, by obtain ⟨c, h⟩ := HW2.out; exact ⟨_, by rw [h]; simp only [World.drewN_drewN]; rfl⟩⟩
              exact (fres_of _ (Sim.refl ..) (fres_of _ (fres_of _ (Sim.refl ..) (fres_of _ HT.out HP.out)) (Sim.refl ..)))
            case true.true =>
              go_wp2
              go_ret
              refine ⟨_, rfl, nar_sim _ ?_ HN.out, by obtain ⟨c, h⟩ := HW2.out; exact ⟨_, by rw [h]; simp only [World.drewN_drewN]; rfl⟩⟩
              exact (neg_sim (fres_lt ..) (fop_lt ..) (fres_of _ (Sim.refl ..) (fres_of _ (fres_of _ (Sim.refl ..) (fres_of _ HT.out HP.out)) (Sim.refl ..))))
  case false.false.true =>
    clear hz
    go_enter Try.func29, Try.ntmps29
    go_wp2_with (first | (go_at_call 39; refine (IsFinite_any _ _).mono ?_; rintro e w' ⟨rfl, n, rfl⟩) | (go_at_call 42; first | (refine (Abs_any _ HX.out _).mono ?_; rintro e w' ⟨rfl, rfl⟩) | (refine (Abs_any _ HY.out _).mono ?_; rintro e w' ⟨rfl, rfl⟩)))
    generalize ht : fres .quo .f64 B A _ = t
    have HT1 : RowKit.Hid (Sim .f64 t (tN T0 0)) := by show Sim .f64 t T0; rw [HT0.out, ← ht]; exact fres_sim ..
    clear ht
    go_loopw [7, 43] (fun vt vc w' => ∃ (t j : Nat), vt = .float .f64 t ∧ vc = .int .i64 j ∧ RowKit.Hid (j ≤ 3) ∧ RowKit.Hid (Sim .f64 t (tN T0 j)) ∧ RowKit.Hid (∃ c, w' = w.drewN c)) (fun _ vc _ => 3 - (intOf vc).toNat)
    case atStart => exact ⟨t, 0, rfl, rfl, Nat.zero_le 3, HT1, (show ∃ c, _ = w.drewN c from ⟨_, rfl⟩)⟩
    case round =>
      obtain ⟨t, j, rfl, rfl, HJ, HT, HW⟩ := hrel
      by_cases hj : j < 3
      · have HJJ := Lib.hid hj
        go_wp2_with (go_at_call 45; refine (Sqrt_any _ _).mono ?_; rintro e w' ⟨rfl, rfl⟩)
        go_roundw
        case rel =>
          refine ⟨_, j + 1, rfl, by go_num, HJJ.out, ?_, by obtain ⟨c, h⟩ := HW.out; exact ⟨_, by rw [h]; simp only [World.drewN_drewN]; rfl⟩⟩
          show Sim .f64 _ (fop .quo .f64 (tN T0 j) (fop .add .f64 one64 (sop (fop .add .f64 one64 (fop .mul .f64 (tN T0 j) (tN T0 j))))))
          exact fres_of _ HT.out (fres_of _ (Sim.refl ..) (sres_of _ (fres_of _ (Sim.refl ..) (fres_of _ HT.out HT.out))))
        case measure => simp [intOf]; omega
      · obtain rfl : j = 3 := by have := HJ.out; omega
        clear hj
        go_wp2
        generalize hu : fres .mul .f64 t t _ = u
        have HU : RowKit.Hid (Sim .f64 u (fop .mul .f64 (tN T0 3) (tN T0 3))) := by rw [← hu]; exact fres_of _ HT.out HT.out
        clear hu
        go_loopw [9, 10] (fun v9 v10 w' => ∃ (p k m : Nat), v9 = .float .f64 p ∧ v10 = .float .f64 k ∧ RowKit.Hid (m ≤ 8) ∧ RowKit.Hid (k = kA m) ∧ RowKit.Hid (Sim .f64 p (pA (fop .mul .f64 (tN T0 3) (tN T0 3)) m)) ∧ RowKit.Hid (∃ c, w' = w.drewN c)) (fun _ v10 _ => fallL v10)
        case atStart => exact ⟨0, 4624633867356078080, 0, rfl, rfl, Nat.zero_le 8, kA_zero, Sim.refl .f64 _, (by obtain ⟨c, h⟩ := HW.out; exact ⟨_, by rw [h]; simp only [World.drewN_drewN]; rfl⟩)⟩
        case round =>
          obtain ⟨p, k, m, rfl, rfl, HM, HK, HP, HW2⟩ := hrel
          by_cases hm : m < 8
          · have gk : (FloatKind.f64.format.order k 4607182418800017408 == some .gt || FloatKind.f64.format.order k 4607182418800017408 == some .eq) = true := by rw [HK.out]; exact kA_on m hm
            have HMM := Lib.hid hm
            clear hm
            go_wp2
            go_roundw
            case rel =>
              refine ⟨_, _, m + 1, rfl, rfl, HMM.out, ?_, ?_, ?_⟩
              · exact fres_some _ (by rw [HK.out]; exact kA_dec m HMM.out)
              · show Sim .f64 _ (fop .sub .f64 (fop .quo .f64 one64 (kA m)) (fop .mul .f64 (fop .mul .f64 (tN T0 3) (tN T0 3)) (pA (fop .mul .f64 (tN T0 3) (tN T0 3)) m)))
                rw [← HK.out]
                exact fres_of _ (fres_sim ..) (fres_of _ HU.out HP.out)
              · obtain ⟨c, h⟩ := HW2.out; exact ⟨_, by rw [h]; simp only [World.drewN_drewN]; rfl⟩
            case measure =>
              show fall (fres .sub .f64 k two64 _) < fall k
              rw [fres_some _ (by rw [HK.out]; exact kA_dec m HMM.out), HK.out]
              exact kA_fall m HMM.out
          · obtain rfl : m = 8 := by have := HM.out; omega
            have gk : (FloatKind.f64.format.order k 4607182418800017408 == some .gt || FloatKind.f64.format.order k 4607182418800017408 == some .eq) = false := by rw [HK.out]; exact kA_off
            clear hm
            cases bx <;> cases b2
            case false.false =>
              go_wp2
              go_ret
              refine ⟨_, rfl, nar_sim _ ?_ HN.out, by obtain ⟨c, h⟩ := HW2.out; exact ⟨_, by rw [h]; simp only [World.drewN_drewN]; rfl⟩⟩
              exact (fres_of _ (Sim.refl ..) (fres_of _ (fres_of _ (Sim.refl ..) (fres_of _ HT.out HP.out)) (Sim.refl ..)))
            case false.true =>
              go_wp2
              go_ret
              refine ⟨_, rfl, nar_sim _ ?_ HN.out, by obtain ⟨c, h⟩ := HW2.out; exact ⟨_, by rw [h]; simp only [World.drewN_drewN]; rfl⟩⟩
              exact (neg_sim (fres_lt ..) (fop_lt ..) (fres_of _ (Sim.refl ..) (fres_of _ (fres_of _ (Sim.refl ..) (fres_of _ HT.out HP.out)) (Sim.refl ..))))
            case true.false =>
              go_wp2
              go_ret
              refine ⟨_, rfl, nar_sim _ ?_ HN.out, by obtain ⟨c, h⟩ := HW2.out; exact ⟨_, by rw [h]; simp only [World.drewN_drewN]; rfl⟩⟩
              exact (fres_of _ (Sim.refl ..) (fres_of _ (Sim.refl ..) (fres_of _ (fres_of _ (Sim.refl ..) (fres_of _ HT.out HP.out)) (Sim.refl ..))))
            case true.true =>
              go_wp2
              go_ret
              refine ⟨_, rfl, nar_sim _ ?_ HN.out, by obtain ⟨c, h⟩ := HW2.out; exact ⟨_, by rw [h]; simp only [World.drewN_drewN]; rfl⟩⟩
              exact (neg_sim (fres_lt ..) (fop_lt ..) (fres_of _ (Sim.refl ..) (fres_of _ (Sim.refl ..) (fres_of _ (fres_of _ (Sim.refl ..) (fres_of _ HT.out HP.out)) (Sim.refl ..)))))
  case false.true.false =>
    clear hz
    go_enter Try.func29, Try.ntmps29
    go_wp2_with (first | (go_at_call 39; refine (IsFinite_any _ _).mono ?_; rintro e w' ⟨rfl, n, rfl⟩) | (go_at_call 42; first | (refine (Abs_any _ HX.out _).mono ?_; rintro e w' ⟨rfl, rfl⟩) | (refine (Abs_any _ HY.out _).mono ?_; rintro e w' ⟨rfl, rfl⟩)))
    generalize ht : fres .quo .f64 A B _ = t
    have HT1 : RowKit.Hid (Sim .f64 t (tN T0 0)) := by show Sim .f64 t T0; rw [HT0.out, ← ht]; exact fres_sim ..
    clear ht
    go_loopw [7, 43] (fun vt vc w' => ∃ (t j : Nat), vt = .float .f64 t ∧ vc = .int .i64 j ∧ RowKit.Hid (j ≤ 3) ∧ RowKit.Hid (Sim .f64 t (tN T0 j)) ∧ RowKit.Hid (∃ c, w' = w.drewN c)) (fun _ vc _ => 3 - (intOf vc).toNat)
    case atStart => exact ⟨t, 0, rfl, rfl, Nat.zero_le 3, HT1, (show ∃ c, _ = w.drewN c from ⟨_, rfl⟩)⟩
    case round =>
      obtain ⟨t, j, rfl, rfl, HJ, HT, HW⟩ := hrel
      by_cases hj : j < 3
      · have HJJ := Lib.hid hj
        go_wp2_with (go_at_call 45; refine (Sqrt_any _ _).mono ?_; rintro e w' ⟨rfl, rfl⟩)
        go_roundw
        case rel =>
          refine ⟨_, j + 1, rfl, by go_num, HJJ.out, ?_, by obtain ⟨c, h⟩ := HW.out; exact ⟨_, by rw [h]; simp only [World.drewN_drewN]; rfl⟩⟩
          show Sim .f64 _ (fop .quo .f64 (tN T0 j) (fop .add .f64 one64 (sop (fop .add .f64 one64 (fop .mul .f64 (tN T0 j) (tN T0 j))))))
          exact fres_of _ HT.out (fres_of _ (Sim.refl ..) (sres_of _ (fres_of _ (Sim.refl ..) (fres_of _ HT.out HT.out))))
        case measure => simp [intOf]; omega
      · obtain rfl : j = 3 := by have := HJ.out; omega
        clear hj
        go_wp2
        generalize hu : fres .mul .f64 t t _ = u
        have HU : RowKit.Hid (Sim .f64 u (fop .mul .f64 (tN T0 3) (tN T0 3))) := by rw [← hu]; exact fres_of _ HT.out HT.out
        clear hu
        go_loopw [9, 10] (fun v9 v10 w' => ∃ (p k m : Nat), v9 = .float .f64 p ∧ v10 = .float .f64 k ∧ RowKit.Hid (m ≤ 8) ∧ RowKit.Hid (k = kA m) ∧ RowKit.Hid (Sim .f64 p (pA (fop .mul .f64 (tN T0 3) (tN T0 3)) m)) ∧ RowKit.Hid (∃ c, w' = w.drewN c)) (fun _ v10 _ => fallL v10)
        case atStart => exact ⟨0, 4624633867356078080, 0, rfl, rfl, Nat.zero_le 8, kA_zero, Sim.refl .f64 _, (by obtain ⟨c, h⟩ := HW.out; exact ⟨_, by rw [h]; simp only [World.drewN_drewN]; rfl⟩)⟩
        case round =>
          obtain ⟨p, k, m, rfl, rfl, HM, HK, HP, HW2⟩ := hrel
          by_cases hm : m < 8
          · have gk : (FloatKind.f64.format.order k 4607182418800017408 == some .gt || FloatKind.f64.format.order k 4607182418800017408 == some .eq) = true := by rw [HK.out]; exact kA_on m hm
            have HMM := Lib.hid hm
            clear hm
            go_wp2
            go_roundw
            case rel =>
              refine ⟨_, _, m + 1, rfl, rfl, HMM.out, ?_, ?_, ?_⟩
              · exact fres_some _ (by rw [HK.out]; exact kA_dec m HMM.out)
              · show Sim .f64 _ (fop .sub .f64 (fop .quo .f64 one64 (kA m)) (fop .mul .f64 (fop .mul .f64 (tN T0 3) (tN T0 3)) (pA (fop .mul .f64 (tN T0 3) (tN T0 3)) m)))
                rw [← HK.out]
                exact fres_of _ (fres_sim ..) (fres_of _ HU.out HP.out)
              · obtain ⟨c, h⟩ := HW2.out; exact ⟨_, by rw [h]; simp only [World.drewN_drewN]; rfl⟩
            case measure =>
              show fall (fres .sub .f64 k two64 _) < fall k
              rw [fres_some _ (by rw [HK.out]; exact kA_dec m HMM.out), HK.out]
              exact kA_fall m HMM.out
          · obtain rfl : m = 8 := by have := HM.out; omega
            have gk : (FloatKind.f64.format.order k 4607182418800017408 == some .gt || FloatKind.f64.format.order k 4607182418800017408 == some .eq) = false := by rw [HK.out]; exact kA_off
            clear hm
            cases bx <;> cases b2
            case false.false =>
              go_wp2
              go_ret
              refine ⟨_, rfl, nar_sim _ ?_ HN.out, by obtain ⟨c, h⟩ := HW2.out; exact ⟨_, by rw [h]; simp only [World.drewN_drewN]; rfl⟩⟩
              exact (fres_of _ (fres_of _ (Sim.refl ..) (fres_of _ HT.out HP.out)) (Sim.refl ..))
            case false.true =>
              go_wp2
              go_ret
              refine ⟨_, rfl, nar_sim _ ?_ HN.out, by obtain ⟨c, h⟩ := HW2.out; exact ⟨_, by rw [h]; simp only [World.drewN_drewN]; rfl⟩⟩
              exact (neg_sim (fres_lt ..) (fop_lt ..) (fres_of _ (fres_of _ (Sim.refl ..) (fres_of _ HT.out HP.out)) (Sim.refl ..)))
            case true.false =>
              go_wp2
              go_ret
              refine ⟨_, rfl, nar_sim _ ?_ HN.out, by obtain ⟨c, h⟩ := HW2.out; exact ⟨_, by rw [h]; simp only [World.drewN_drewN]; rfl⟩⟩
              exact (fres_of _ (Sim.refl ..) (fres_of _ (fres_of _ (Sim.refl ..) (fres_of _ HT.out HP.out)) (Sim.refl ..)))
            case true.true =>
              go_wp2
              go_ret
              refine ⟨_, rfl, nar_sim _ ?_ HN.out, by obtain ⟨c, h⟩ := HW2.out; exact ⟨_, by rw [h]; simp only [World.drewN_drewN]; rfl⟩⟩
              exact (neg_sim (fres_lt ..) (fop_lt ..) (fres_of _ (Sim.refl ..) (fres_of _ (fres_of _ (Sim.refl ..) (fres_of _ HT.out HP.out)) (Sim.refl ..))))
  case false.true.true =>
    clear hz
    go_enter Try.func29, Try.ntmps29
    go_wp2_with (first | (go_at_call 39; refine (IsFinite_any _ _).mono ?_; rintro e w' ⟨rfl, n, rfl⟩) | (go_at_call 42; first | (refine (Abs_any _ HX.out _).mono ?_; rintro e w' ⟨rfl, rfl⟩) | (refine (Abs_any _ HY.out _).mono ?_; rintro e w' ⟨rfl, rfl⟩)))
    generalize ht : fres .quo .f64 B A _ = t
    have HT1 : RowKit.Hid (Sim .f64 t (tN T0 0)) := by show Sim .f64 t T0; rw [HT0.out, ← ht]; exact fres_sim ..
    clear ht
    go_loopw [7, 43] (fun vt vc w' => ∃ (t j : Nat), vt = .float .f64 t ∧ vc = .int .i64 j ∧ RowKit.Hid (j ≤ 3) ∧ RowKit.Hid (Sim .f64 t (tN T0 j)) ∧ RowKit.Hid (∃ c, w' = w.drewN c)) (fun _ vc _ => 3 - (intOf vc).toNat)
    case atStart => exact ⟨t, 0, rfl, rfl, Nat.zero_le 3, HT1, (show ∃ c, _ = w.drewN c from ⟨_, rfl⟩)⟩
    case round =>
      obtain ⟨t, j, rfl, rfl, HJ, HT, HW⟩ := hrel
      by_cases hj : j < 3
      · have HJJ := Lib.hid hj
        go_wp2_with (go_at_call 45; refine (Sqrt_any _ _).mono ?_; rintro e w' ⟨rfl, rfl⟩)
        go_roundw
        case rel =>
          refine ⟨_, j + 1, rfl, by go_num, HJJ.out, ?_, by obtain ⟨c, h⟩ := HW.out; exact ⟨_, by rw [h]; simp only [World.drewN_drewN]; rfl⟩⟩
          show Sim .f64 _ (fop .quo .f64 (tN T0 j) (fop .add .f64 one64 (sop (fop .add .f64 one64 (fop .mul .f64 (tN T0 j) (tN T0 j))))))
          exact fres_of _ HT.out (fres_of _ (Sim.refl ..) (sres_of _ (fres_of _ (Sim.refl ..) (fres_of _ HT.out HT.out))))
        case measure => simp [intOf]; omega
      · obtain rfl : j = 3 := by have := HJ.out; omega
        clear hj
        go_wp2
        generalize hu : fres .mul .f64 t t _ = u
        have HU : RowKit.Hid (Sim .f64 u (fop .mul .f64 (tN T0 3) (tN T0 3))) := by rw [← hu]; exact fres_of _ HT.out HT.out
        clear hu
        go_loopw [9, 10] (fun v9 v10 w' => ∃ (p k m : Nat), v9 = .float .f64 p ∧ v10 = .float .f64 k ∧ RowKit.Hid (m ≤ 8) ∧ RowKit.Hid (k = kA m) ∧ RowKit.Hid (Sim .f64 p (pA (fop .mul .f64 (tN T0 3) (tN T0 3)) m)) ∧ RowKit.Hid (∃ c, w' = w.drewN c)) (fun _ v10 _ => fallL v10)
        case atStart => exact ⟨0, 4624633867356078080, 0, rfl, rfl, Nat.zero_le 8, kA_zero, Sim.refl .f64 _, (by obtain ⟨c, h⟩ := HW.out; exact ⟨_, by rw [h]; simp only [World.drewN_drewN]; rfl⟩)⟩
        case round =>
          obtain ⟨p, k, m, rfl, rfl, HM, HK, HP, HW2⟩ := hrel
          by_cases hm : m < 8
          · have gk : (FloatKind.f64.format.order k 4607182418800017408 == some .gt || FloatKind.f64.format.order k 4607182418800017408 == some .eq) = true := by rw [HK.out]; exact kA_on m hm
            have HMM := Lib.hid hm
            clear hm
            go_wp2
            go_roundw
            case rel =>
              refine ⟨_, _, m + 1, rfl, rfl, HMM.out, ?_, ?_, ?_⟩
              · exact fres_some _ (by rw [HK.out]; exact kA_dec m HMM.out)
              · show Sim .f64 _ (fop .sub .f64 (fop .quo .f64 one64 (kA m)) (fop .mul .f64 (fop .mul .f64 (tN T0 3) (tN T0 3)) (pA (fop .mul .f64 (tN T0 3) (tN T0 3)) m)))
                rw [← HK.out]
                exact fres_of _ (fres_sim ..) (fres_of _ HU.out HP.out)
              · obtain ⟨c, h⟩ := HW2.out; exact ⟨_, by rw [h]; simp only [World.drewN_drewN]; rfl⟩
            case measure =>
              show fall (fres .sub .f64 k two64 _) < fall k
              rw [fres_some _ (by rw [HK.out]; exact kA_dec m HMM.out), HK.out]
              exact kA_fall m HMM.out
          · obtain rfl : m = 8 := by have := HM.out; omega
            have gk : (FloatKind.f64.format.order k 4607182418800017408 == some .gt || FloatKind.f64.format.order k 4607182418800017408 == some .eq) = false := by rw [HK.out]; exact kA_off
            clear hm
            cases bx <;> cases b2
            case false.false =>
              go_wp2
              go_ret
              refine ⟨_, rfl, nar_sim _ ?_ HN.out, by obtain ⟨c, h⟩ := HW2.out; exact ⟨_, by rw [h]; simp only [World.drewN_drewN]; rfl⟩⟩
              exact (fres_of _ (Sim.refl ..) (fres_of _ (fres_of _ (Sim.refl ..) (fres_of _ HT.out HP.out)) (Sim.refl ..)))
            case false.true =>
              go_wp2
              go_ret
              refine ⟨_, rfl, nar_sim _ ?_ HN.out, by obtain ⟨c, h⟩ := HW2.out; exact ⟨_, by rw [h]; simp only [World.drewN_drewN]; rfl⟩⟩
              exact (neg_sim (fres_lt ..) (fop_lt ..) (fres_of _ (Sim.refl ..) (fres_of _ (fres_of _ (Sim.refl ..) (fres_of _ HT.out HP.out)) (Sim.refl ..))))
            case true.false =>
              go_wp2
              go_ret
              refine ⟨_, rfl, nar_sim _ ?_ HN.out, by obtain ⟨c, h⟩ := HW2.out; exact ⟨_, by rw [h]; simp only [World.drewN_drewN]; rfl⟩⟩
              exact (fres_of _ (Sim.refl ..) (fres_of _ (Sim.refl ..) (fres_of _ (fres_of _ (Sim.refl ..) (fres_of _ HT.out HP.out)) (Sim.refl ..))))
            case true.true =>
              go_wp2
              go_ret
              refine ⟨_, rfl, nar_sim _ ?_ HN.out, by obtain ⟨c, h⟩ := HW2.out; exact ⟨_, by rw [h]; simp only [World.drewN_drewN]; rfl⟩⟩
              exact (neg_sim (fres_lt ..) (fop_lt ..) (fres_of _ (Sim.refl ..) (fres_of _ (Sim.refl ..) (fres_of _ (fres_of _ (Sim.refl ..) (fres_of _ HT.out HP.out)) (Sim.refl ..)))))
  case true.false.false =>
    clear hz
    go_enter Try.func29, Try.ntmps29
    go_wp2_with (first | (go_at_call 39; refine (IsFinite_any _ _).mono ?_; rintro e w' ⟨rfl, n, rfl⟩) | (go_at_call 42; first | (refine (Abs_any _ HX.out _).mono ?_; rintro e w' ⟨rfl, rfl⟩) | (refine (Abs_any _ HY.out _).mono ?_; rintro e w' ⟨rfl, rfl⟩)))
    generalize ht : fres .quo .f64 A B _ = t
    have HT1 : RowKit.Hid (Sim .f64 t (tN T0 0)) := by show Sim .f64 t T0; rw [HT0.out, ← ht]; exact fres_sim ..
    clear ht
    go_loopw [7, 43] (fun vt vc w' => ∃ (t j : Nat), vt = .float .f64 t ∧ vc = .int .i64 j ∧ RowKit.Hid (j ≤ 3) ∧ RowKit.Hid (Sim .f64 t (tN T0 j)) ∧ RowKit.Hid (∃ c, w' = w.drewN c)) (fun _ vc _ => 3 - (intOf vc).toNat)
    case atStart => exact ⟨t, 0, rfl, rfl, Nat.zero_le 3, HT1, (show ∃ c, _ = w.drewN c from ⟨_, rfl⟩)⟩
    case round =>
      obtain ⟨t, j, rfl, rfl, HJ, HT, HW⟩ := hrel
      by_cases hj : j < 3
      · have HJJ := Lib.hid hj
        go_wp2_with (go_at_call 45; refine (Sqrt_any _ _).mono ?_; rintro e w' ⟨rfl, rfl⟩)
        go_roundw
        case rel =>
          refine ⟨_, j + 1, rfl, by go_num, HJJ.out, ?_, by obtain ⟨c, h⟩ := HW.out; exact ⟨_, by rw [h]; simp only [World.drewN_drewN]; rfl⟩⟩
          show Sim .f64 _ (fop .quo .f64 (tN T0 j) (fop .add .f64 one64 (sop (fop .add .f64 one64 (fop .mul .f64 (tN T0 j) (tN T0 j))))))
          exact fres_of _ HT.out (fres_of _ (Sim.refl ..) (sres_of _ (fres_of _ (Sim.refl ..) (fres_of _ HT.out HT.out))))
        case measure => simp [intOf]; omega
      · obtain rfl : j = 3 := by have := HJ.out; omega
        clear hj
        go_wp2
        generalize hu : fres .mul .f64 t t _ = u
        have HU : RowKit.Hid (Sim .f64 u (fop .mul .f64 (tN T0 3) (tN T0 3))) := by rw [← hu]; exact fres_of _ HT.out HT.out
        clear hu
        go_loopw [9, 10] (fun v9 v10 w' => ∃ (p k m : Nat), v9 = .float .f64 p ∧ v10 = .float .f64 k ∧ RowKit.Hid (m ≤ 8) ∧ RowKit.Hid (k = kA m) ∧ RowKit.Hid (Sim .f64 p (pA (fop .mul .f64 (tN T0 3) (tN T0 3)) m)) ∧ RowKit.Hid (∃ c, w' = w.drewN c)) (fun _ v10 _ => fallL v10)
        case atStart => exact ⟨0, 4624633867356078080, 0, rfl, rfl, Nat.zero_le 8, kA_zero, Sim.refl .f64 _, (by obtain ⟨c, h⟩ := HW.out; exact ⟨_, by rw [h]; simp only [World.drewN_drewN]; rfl⟩)⟩
        case round =>
          obtain ⟨p, k, m, rfl, rfl, HM, HK, HP, HW2⟩ := hrel
          by_cases hm : m < 8
          · have gk : (FloatKind.f64.format.order k 4607182418800017408 == some .gt || FloatKind.f64.format.order k 4607182418800017408 == some .eq) = true := by rw [HK.out]; exact kA_on m hm
            have HMM := Lib.hid hm
            clear hm
            go_wp2
            go_roundw
            case rel =>
              refine ⟨_, _, m + 1, rfl, rfl, HMM.out, ?_, ?_, ?_⟩
              · exact fres_some _ (by rw [HK.out]; exact kA_dec m HMM.out)
              · show Sim .f64 _ (fop .sub .f64 (fop .quo .f64 one64 (kA m)) (fop .mul .f64 (fop .mul .f64 (tN T0 3) (tN T0 3)) (pA (fop .mul .f64 (tN T0 3) (tN T0 3)) m)))
                rw [← HK.out]
                exact fres_of _ (fres_sim ..) (fres_of _ HU.out HP.out)
              · obtain ⟨c, h⟩ := HW2.out; exact ⟨_, by rw [h]; simp only [World.drewN_drewN]; rfl⟩
            case measure =>
              show fall (fres .sub .f64 k two64 _) < fall k
              rw [fres_some _ (by rw [HK.out]; exact kA_dec m HMM.out), HK.out]
              exact kA_fall m HMM.out
          · obtain rfl : m = 8 := by have := HM.out; omega
            have gk : (FloatKind.f64.format.order k 4607182418800017408 == some .gt || FloatKind.f64.format.order k 4607182418800017408 == some .eq) = false := by rw [HK.out]; exact kA_off
            clear hm
            cases bx <;> cases b2
            case false.false =>
              go_wp2
              go_ret
              refine ⟨_, rfl, nar_sim _ ?_ HN.out, by obtain ⟨c, h⟩ := HW2.out; exact ⟨_, by rw [h]; simp only [World.drewN_drewN]; rfl⟩⟩
              exact (fres_of _ (fres_of _ (Sim.refl ..) (fres_of _ HT.out HP.out)) (Sim.refl ..))
            case false.true =>
              go_wp2
              go_ret
              refine ⟨_, rfl, nar_sim _ ?_ HN.out, by obtain ⟨c, h⟩ := HW2.out; exact ⟨_, by rw [h]; simp only [World.drewN_drewN]; rfl⟩⟩
              exact (neg_sim (fres_lt ..) (fop_lt ..) (fres_of _ (fres_of _ (Sim.refl ..) (fres_of _ HT.out HP.out)) (Sim.refl ..)))
            case true.false =>
              go_wp2
              go_ret
              refine ⟨_, rfl, nar_sim _ ?_ HN.out, by obtain ⟨c, h⟩ := HW2.out; exact ⟨_, by rw [h]; simp only [World.drewN_drewN]; rfl⟩⟩
              exact (fres_of _ (Sim.refl ..) (fres_of _ (fres_of _ (Sim.refl ..) (fres_of _ HT.out HP.out)) (Sim.refl ..)))
            case true.true =>
              go_wp2
              go_ret
              refine ⟨_, rfl, nar_sim _ ?_ HN.out, by obtain ⟨c, h⟩ := HW2.out; exact ⟨_, by rw [h]; simp only [World.drewN_drewN]; rfl⟩⟩
              exact (neg_sim (fres_lt ..) (fop_lt ..) (fres_of _ (Sim.refl ..) (fres_of _ (fres_of _ (Sim.refl ..) (fres_of _ HT.out HP.out)) (Sim.refl ..))))
  case true.false.true =>
    clear hz
    go_enter Try.func29, Try.ntmps29
    go_wp2_with (first | (go_at_call 39; refine (IsFinite_any _ _).mono ?_; rintro e w' ⟨rfl, n, rfl⟩) | (go_at_call 42; first | (refine (Abs_any _ HX.out _).mono ?_; rintro e w' ⟨rfl, rfl⟩) | (refine (Abs_any _ HY.out _).mono ?_; rintro e w' ⟨rfl, rfl⟩)))
    generalize ht : fres .quo .f64 B A _ = t
    have HT1 : RowKit.Hid (Sim .f64 t (tN T0 0)) := by show Sim .f64 t T0; rw [HT0.out, ← ht]; exact fres_sim ..
    clear ht
    go_loopw [7, 43] (fun vt vc w' => ∃ (t j : Nat), vt = .float .f64 t ∧ vc = .int .i64 j ∧ RowKit.Hid (j ≤ 3) ∧ RowKit.Hid (Sim .f64 t (tN T0 j)) ∧ RowKit.Hid (∃ c, w' = w.drewN c)) (fun _ vc _ => 3 - (intOf vc).toNat)
    case atStart => exact ⟨t, 0, rfl, rfl, Nat.zero_le 3, HT1, (show ∃ c, _ = w.drewN c from ⟨_, rfl⟩)⟩
    case round =>
      obtain ⟨t, j, rfl, rfl, HJ, HT, HW⟩ := hrel
      by_cases hj : j < 3
      · have HJJ := Lib.hid hj
        go_wp2_with (go_at_call 45; refine (Sqrt_any _ _).mono ?_; rintro e w' ⟨rfl, rfl⟩)
        go_roundw
        case rel =>
          refine ⟨_, j + 1, rfl, by go_num, HJJ.out, ?_, by obtain ⟨c, h⟩ := HW.out; exact ⟨_, by rw [h]; simp only [World.drewN_drewN]; rfl⟩⟩
          show Sim .f64 _ (fop .quo .f64 (tN T0 j) (fop .add .f64 one64 (sop (fop .add .f64 one64 (fop .mul .f64 (tN T0 j) (tN T0 j))))))
          exact fres_of _ HT.out (fres_of _ (Sim.refl ..) (sres_of _ (fres_of _ (Sim.refl ..) (fres_of _ HT.out HT.out))))
        case measure => simp [intOf]; omega
      · obtain rfl : j = 3 := by have := HJ.out; omega
        clear hj
        go_wp2
        generalize hu : fres .mul .f64 t t _ = u
        have HU : RowKit.Hid (Sim .f64 u (fop .mul .f64 (tN T0 3) (tN T0 3))) := by rw [← hu]; exact fres_of _ HT.out HT.out
        clear hu
        go_loopw [9, 10] (fun v9 v10 w' => ∃ (p k m : Nat), v9 = .float .f64 p ∧ v10 = .float .f64 k ∧ RowKit.Hid (m ≤ 8) ∧ RowKit.Hid (k = kA m) ∧ RowKit.Hid (Sim .f64 p (pA (fop .mul .f64 (tN T0 3) (tN T0 3)) m)) ∧ RowKit.Hid (∃ c, w' = w.drewN c)) (fun _ v10 _ => fallL v10)
        case atStart => exact ⟨0, 4624633867356078080, 0, rfl, rfl, Nat.zero_le 8, kA_zero, Sim.refl .f64 _, (by obtain ⟨c, h⟩ := HW.out; exact ⟨_, by rw [h]; simp only [World.drewN_drewN]; rfl⟩)⟩
        case round =>
          obtain ⟨p, k, m, rfl, rfl, HM, HK, HP, HW2⟩ := hrel
          by_cases hm : m < 8
          · have gk : (FloatKind.f64.format.order k 4607182418800017408 == some .gt || FloatKind.f64.format.order k 4607182418800017408 == some .eq) = true := by rw [HK.out]; exact kA_on m hm
            have HMM := Lib.hid hm
            clear hm
            go_wp2
            go_roundw
            case rel =>
              refine ⟨_, _, m + 1, rfl, rfl, HMM.out, ?_, ?_, ?_⟩
              · exact fres_some _ (by rw [HK.out]; exact kA_dec m HMM.out)
              · show Sim .f64 _ (fop .sub .f64 (fop .quo .f64 one64 (kA m)) (fop .mul .f64 (fop .mul .f64 (tN T0 3) (tN T0 3)) (pA (fop .mul .f64 (tN T0 3) (tN T0 3)) m)))
                rw [← HK.out]
                exact fres_of _ (fres_sim ..) (fres_of _ HU.out HP.out)
              · obtain ⟨c, h⟩ := HW2.out; exact ⟨_, by rw [h]; simp only [World.drewN_drewN]; rfl⟩
            case measure =>
              show fall (fres .sub .f64 k two64 _) < fall k
              rw [fres_some _ (by rw [HK.out]; exact kA_dec m HMM.out), HK.out]
              exact kA_fall m HMM.out
          · obtain rfl : m = 8 := by have := HM.out; omega
            have gk : (FloatKind.f64.format.order k 4607182418800017408 == some .gt || FloatKind.f64.format.order k 4607182418800017408 == some .eq) = false := by rw [HK.out]; exact kA_off
            clear hm
            cases bx <;> cases b2
            case false.false =>
              go_wp2
              go_ret
              refine ⟨_, rfl, nar_sim _ ?_ HN.out, by obtain ⟨c, h⟩ := HW2.out; exact ⟨_, by rw [h]; simp only [World.drewN_drewN]; rfl⟩⟩
              exact (fres_of _ (Sim.refl ..) (fres_of _ (fres_of _ (Sim.refl ..) (fres_of _ HT.out HP.out)) (Sim.refl ..)))
            case false.true =>
              go_wp2
              go_ret
              refine ⟨_, rfl, nar_sim _ ?_ HN.out, by obtain ⟨c, h⟩ := HW2.out; exact ⟨_, by rw [h]; simp only [World.drewN_drewN]; rfl⟩⟩
              exact (neg_sim (fres_lt ..) (fop_lt ..) (fres_of _ (Sim.refl ..) (fres_of _ (fres_of _ (Sim.refl ..) (fres_of _ HT.out HP.out)) (Sim.refl ..))))
            case true.false =>
              go_wp2
              go_ret
              refine ⟨_, rfl, nar_sim _ ?_ HN.out, by obtain ⟨c, h⟩ := HW2.out; exact ⟨_, by rw [h]; simp only [World.drewN_drewN]; rfl⟩⟩
              exact (fres_of _ (Sim.refl ..) (fres_of _ (Sim.refl ..) (fres_of _ (fres_of _ (Sim.refl ..) (fres_of _ HT.out HP.out)) (Sim.refl ..))))
            case true.true =>
              go_wp2
              go_ret
              refine ⟨_, rfl, nar_sim _ ?_ HN.out, by obtain ⟨c, h⟩ := HW2.out; exact ⟨_, by rw [h]; simp only [World.drewN_drewN]; rfl⟩⟩
              exact (neg_sim (fres_lt ..) (fop_lt ..) (fres_of _ (Sim.refl ..) (fres_of _ (Sim.refl ..) (fres_of _ (fres_of _ (Sim.refl ..) (fres_of _ HT.out HP.out)) (Sim.refl ..)))))
  case true.true.false =>
    cases hz
  case true.true.true =>
    cases hz
set_option maxHeartbeats 2000000 in
set_option maxRecDepth 100000 in
theorem l01Angle_yes (Y X A B : Nat) (zx zy o bx b2 : Bool) (hz : (zx && zy) = false) (hf1 : (FloatKind.f64.format.order (fop .sub .f64 X X) 0 != some .eq) = false) (hf2 : (FloatKind.f64.format.order (fop .sub .f64 Y Y) 0 != some .eq) = false) (hzx : (FloatKind.f64.format.order X 0 == some .eq) = zx) (hzy : (FloatKind.f64.format.order Y 0 == some .eq) = zy) (hX : X < 18446744073709551616) (hY : Y < 18446744073709551616)
    (hA : Y % 9223372036854775808 = A) (hB : X % 9223372036854775808 = B) (ho : (FloatKind.f64.format.order A B == some .gt) = o) (hbx : (FloatKind.f64.format.order X 0 == some .lt) = bx) (hby : (FloatKind.f64.format.order Y 0 == some .lt) = b2) (w : World) :
    Calls Try.prog 69 #[.float .f64 Y, .float .f64 X] w fun e w' => ∃ r, e = .returned (.float .f64 r) ∧ Sim .f64 r (ang3 o bx b2 (tN (tA A B) 3)) ∧ ∃ n, w' = w.drewN n := by
  have HX := Lib.hid hX
  have HY := Lib.hid hY
  have HT0 := Lib.hid (show tA A B = if o then fop .quo .f64 B A else fop .quo .f64 A B by rw [← ho]; rfl)
  clear hX hY
  obtain ⟨T0, hT0⟩ : ∃ T0, T0 = tA A B := ⟨_, rfl⟩
  have HTT := Lib.hid hT0
  rw [← hT0] at HT0 ⊢
  clear hT0
  cases zx <;> cases zy <;> cases o
  case false.false.false =>
    clear hz
    go_enter Try.func69, Try.ntmps69
    go_wp2_with (go_at_call 42; first | (refine (Abs_any _ HX.out _).mono ?_; rintro e w' ⟨rfl, rfl⟩) | (refine (Abs_any _ HY.out _).mono ?_; rintro e w' ⟨rfl, rfl⟩))
    generalize ht : fres .quo .f64 A B _ = t
    have HT1 : RowKit.Hid (Sim .f64 t (tN T0 0)) := by show Sim .f64 t T0; rw [HT0.out, ← ht]; exact fres_sim ..
    clear ht
    go_loopw [8, 9] (fun vt vc w' => ∃ (t j : Nat), vt = .float .f64 t ∧ vc = .int .i64 j ∧ RowKit.Hid (j ≤ 3) ∧ RowKit.Hid (Sim .f64 t (tN T0 j)) ∧ RowKit.Hid (∃ c, w' = w.drewN c)) (fun _ vc _ => 3 - (intOf vc).toNat)
    case atStart => exact ⟨t, 0, rfl, rfl, Nat.zero_le 3, HT1, (show ∃ c, _ = w.drewN c from ⟨_, rfl⟩)⟩
    case round =>
      obtain ⟨t, j, rfl, rfl, HJ, HT, HW⟩ := hrel
      by_cases hj : j < 3
      · have HJJ := Lib.hid hj
        go_wp2_with (go_at_call 45; refine (Sqrt_any _ _).mono ?_; rintro e w' ⟨rfl, rfl⟩)
        go_roundw
        case rel =>
          refine ⟨_, j + 1, rfl, by go_num, HJJ.out, ?_, by obtain ⟨c, h⟩ := HW.out; exact ⟨_, by rw [h]; simp only [World.drewN_drewN]; rfl⟩⟩
          show Sim .f64 _ (fop .quo .f64 (tN T0 j) (fop .add .f64 one64 (sop (fop .add .f64 one64 (fop .mul .f64 (tN T0 j) (tN T0 j))))))
          exact fres_of _ HT.out (fres_of _ (Sim.refl ..) (sres_of _ (fres_of _ (Sim.refl ..) (fres_of _ HT.out HT.out))))
        case measure => simp [intOf]; omega
      · obtain rfl : j = 3 := by have := HJ.out; omega
        clear hj
        go_wp2
        generalize hu : fres .mul .f64 t t _ = u
        have HU : RowKit.Hid (Sim .f64 u (fop .mul .f64 (tN T0 3) (tN T0 3))) := by rw [← hu]; exact fres_of _ HT.out HT.out
        clear hu
        go_loopw [11, 12] (fun v9 v10 w' => ∃ (p m : Nat) (k : Int), v9 = .float .f64 p ∧ v10 = .int .i64 k ∧ RowKit.Hid (m ≤ 8) ∧ RowKit.Hid (k = 15 - 2 * (m : Int)) ∧ RowKit.Hid (Sim .f64 p (pA (fop .mul .f64 (tN T0 3) (tN T0 3)) m)) ∧ RowKit.Hid (∃ c, w' = w.drewN c)) (fun _ v10 _ => (intOf v10 + 1).toNat)
        case atStart => exact ⟨0, 0, 15, rfl, rfl, Nat.zero_le 8, (show (15 : Int) = 15 - 2 * ((0 : Nat) : Int) by omega), Sim.refl .f64 _, (by obtain ⟨c, h⟩ := HW.out; exact ⟨_, by rw [h]; simp only [World.drewN_drewN]; rfl⟩)⟩
        case round =>
          obtain ⟨p, m, k, rfl, rfl, HM, HK, HP, HW2⟩ := hrel
          by_cases hm : m < 8
          · have hk1 : 1 ≤ k := by have := HK.out; omega
            have hk2 : k ≤ 15 := by have := HK.out; omega
            have HMM := Lib.hid hm
            clear hm
            go_wp2
            go_roundw
            case rel =>
              refine ⟨_, m + 1, _, rfl, rfl, HMM.out, ?_, ?_, ?_⟩
              · show _ = (15 : Int) - 2 * ((m + 1 : Nat) : Int)
                rw [HK.out]; omega
              · show Sim .f64 _ (fop .sub .f64 (fop .quo .f64 one64 (floatOfInt .f64 (15 - 2 * (m : Int)))) (fop .mul .f64 (fop .mul .f64 (tN T0 3) (tN T0 3)) (pA (fop .mul .f64 (tN T0 3) (tN T0 3)) m)))
                rw [← HK.out]
                exact fres_of _ (fres_sim ..) (fres_of _ HU.out HP.out)
              · obtain ⟨c, h⟩ := HW2.out; exact ⟨_, by rw [h]; simp only [World.drewN_drewN]; rfl⟩
            case measure => simp [intOf]; omega
          · obtain rfl : m = 8 := by have := HM.out; omega
            have hk : k = -1 := by have := HK.out; omega
            subst hk
            clear hm
            cases bx <;> cases b2
            case false.false =>
              go_wp2
              go_ret
              refine ⟨_, rfl, ?_, by obtain ⟨c, h⟩ := HW2.out; exact ⟨_, by rw [h]; simp only [World.drewN_drewN]; rfl⟩⟩
              exact (fres_of _ (fres_of _ (Sim.refl ..) (fres_of _ HT.out HP.out)) (Sim.refl ..))
            case false.true =>
              go_wp2
              go_ret
              refine ⟨_, rfl, ?_, by obtain ⟨c, h⟩ := HW2.out; exact ⟨_, by rw [h]; simp only [World.drewN_drewN]; rfl⟩⟩
              exact (neg_sim (fres_lt ..) (fop_lt ..) (fres_of _ (fres_of _ (Sim.refl ..) (fres_of _ HT.out HP.out)) (Sim.refl ..)))
            case true.false =>
              go_wp2
              go_ret
              refine ⟨_, rfl, ?_, by obtain ⟨c, h⟩ := HW2.out; exact ⟨_, by rw [h]; simp only [World.drewN_drewN]; rfl⟩⟩
              exact (fres_of _ (Sim.refl ..) (fres_of _ (fres_of _ (Sim.refl ..) (fres_of _ HT.out HP.out)) (Sim.refl ..)))
            case true.true =>
              go_wp2
              go_ret
              refine ⟨_, rfl, ?_, by obtain ⟨c, h⟩ := HW2.out; exact ⟨_, by rw [h]; simp only [World.drewN_drewN]; rfl⟩⟩
              exact (neg_sim (fres_lt ..) (fop_lt ..) (fres_of _ (Sim.refl ..) (fres_of _ (fres_of _ (Sim.refl ..) (fres_of _ HT.out HP.out)) (Sim.refl ..))))
  case false.false.true =>
    clear hz
    go_enter Try.func69, Try.ntmps69
    go_wp2_with (go_at_call 42; first | (refine (Abs_any _ HX.out _).mono ?_; rintro e w' ⟨rfl, rfl⟩) | (refine (Abs_any _ HY.out _).mono ?_; rintro e w' ⟨rfl, rfl⟩))
    generalize ht : fres .quo .f64 B A _ = t
    have HT1 : RowKit.Hid (Sim .f64 t (tN T0 0)) := by show Sim .f64 t T0; rw [HT0.out, ← ht]; exact fres_sim ..
    clear ht
    go_loopw [8, 9] (fun vt vc w' => ∃ (t j : Nat), vt = .float .f64 t ∧ vc = .int .i64 j ∧ RowKit.Hid (j ≤ 3) ∧ RowKit.Hid (Sim .f64 t (tN T0 j)) ∧ RowKit.Hid (∃ c, w' = w.drewN c)) (fun _ vc _ => 3 - (intOf vc).toNat)
    case atStart => exact ⟨t, 0, rfl, rfl, Nat.zero_le 3, HT1, (show ∃ c, _ = w.drewN c from ⟨_, rfl⟩)⟩
    case round =>
      obtain ⟨t, j, rfl, rfl, HJ, HT, HW⟩ := hrel
      by_cases hj : j < 3
      · have HJJ := Lib.hid hj
        go_wp2_with (go_at_call 45; refine (Sqrt_any _ _).mono ?_; rintro e w' ⟨rfl, rfl⟩)
        go_roundw
        case rel =>
          refine ⟨_, j + 1, rfl, by go_num, HJJ.out, ?_, by obtain ⟨c, h⟩ := HW.out; exact ⟨_, by rw [h]; simp only [World.drewN_drewN]; rfl⟩⟩
          show Sim .f64 _ (fop .quo .f64 (tN T0 j) (fop .add .f64 one64 (sop (fop .add .f64 one64 (fop .mul .f64 (tN T0 j) (tN T0 j))))))
          exact fres_of _ HT.out (fres_of _ (Sim.refl ..) (sres_of _ (fres_of _ (Sim.refl ..) (fres_of _ HT.out HT.out))))
        case measure => simp [intOf]; omega
      · obtain rfl : j = 3 := by have := HJ.out; omega
        clear hj
        go_wp2
        generalize hu : fres .mul .f64 t t _ = u
        have HU : RowKit.Hid (Sim .f64 u (fop .mul .f64 (tN T0 3) (tN T0 3))) := by rw [← hu]; exact fres_of _ HT.out HT.out
        clear hu
        go_loopw [11, 12] (fun v9 v10 w' => ∃ (p m : Nat) (k : Int), v9 = .float .f64 p ∧ v10 = .int .i64 k ∧ RowKit.Hid (m ≤ 8) ∧ RowKit.Hid (k = 15 - 2 * (m : Int)) ∧ RowKit.Hid (Sim .f64 p (pA (fop .mul .f64 (tN T0 3) (tN T0 3)) m)) ∧ RowKit.Hid (∃ c, w' = w.drewN c)) (fun _ v10 _ => (intOf v10 + 1).toNat)
        case atStart => exact ⟨0, 0, 15, rfl, rfl, Nat.zero_le 8, (show (15 : Int) = 15 - 2 * ((0 : Nat) : Int) by omega), Sim.refl .f64 _, (by obtain ⟨c, h⟩ := HW.out; exact ⟨_, by rw [h]; simp only [World.drewN_drewN]; rfl⟩)⟩
        case round =>
          obtain ⟨p, m, k, rfl, rfl, HM, HK, HP, HW2⟩ := hrel
          by_cases hm : m < 8
          · have hk1 : 1 ≤ k := by have := HK.out; omega
            have hk2 : k ≤ 15 := by have := HK.out; omega
            have HMM := Lib.hid hm
            clear hm
            go_wp2
            go_roundw
            case rel =>
              refine ⟨_, m + 1, _, rfl, rfl, HMM.out, ?_, ?_, ?_⟩
              · show _ = (15 : Int) - 2 * ((m + 1 : Nat) : Int)
                rw [HK.out]; omega
              · show Sim .f64 _ (fop .sub .f64 (fop .quo .f64 one64 (floatOfInt .f64 (15 - 2 * (m : Int)))) (fop .mul .f64 (fop .mul .f64 (tN T0 3) (tN T0 3)) (pA (fop .mul .f64 (tN T0 3) (tN T0 3)) m)))
                rw [← HK.out]
                exact fres_of _ (fres_sim ..) (fres_of _ HU.out HP.out)
              · obtain ⟨c, h⟩ := HW2.out; exact ⟨_, by rw [h]; simp only [World.drewN_drewN]; rfl⟩
            case measure => simp [intOf]; omega
          · obtain rfl : m = 8 := by have := HM.out; omega
            have hk : k = -1 := by have := HK.out; omega
            subst hk
            clear hm
            cases bx <;> cases b2
            case false.false =>
              go_wp2
              go_ret
              refine ⟨_, rfl, ?_, by obtain ⟨c, h⟩ := HW2.out; exact ⟨_, by rw [h]; simp only [World.drewN_drewN]; rfl⟩⟩
              exact (fres_of _ (Sim.refl ..) (fres_of _ (fres_of _ (Sim.refl ..) (fres_of _ HT.out HP.out)) (Sim.refl ..)))
            case false.true =>
              go_wp2
              go_ret
              refine ⟨_, rfl, ?_, by obtain ⟨c, h⟩ := HW2.out; exact ⟨_, by rw [h]; simp only [World.drewN_drewN]; rfl⟩⟩
              exact (neg_sim (fres_lt ..) (fop_lt ..) (fres_of _ (Sim.refl ..) (fres_of _ (fres_of _ (Sim.refl ..) (fres_of _ HT.out HP.out)) (Sim.refl ..))))
            case true.false =>
              go_wp2
              go_ret
              refine ⟨_, rfl, ?_, by obtain ⟨c, h⟩ := HW2.out; exact ⟨_, by rw [h]; simp only [World.drewN_drewN]; rfl⟩⟩
              exact (fres_of _ (Sim.refl ..) (fres_of _ (Sim.refl ..) (fres_of _ (fres_of _ (Sim.refl ..) (fres_of _ HT.out HP.out)) (Sim.refl ..))))
            case true.true =>
              go_wp2
              go_ret
              refine ⟨_, rfl, ?_, by obtain ⟨c, h⟩ := HW2.out; exact ⟨_, by rw [h]; simp only [World.drewN_drewN]; rfl⟩⟩
              exact (neg_sim (fres_lt ..) (fop_lt ..) (fres_of _ (Sim.refl ..) (fres_of _ (Sim.refl ..) (fres_of _ (fres_of _ (Sim.refl ..) (fres_of _ HT.out HP.out)) (Sim.refl ..)))))
  case false.true.false =>
    clear hz
    go_enter Try.func69, Try.ntmps69
    go_wp2_with (go_at_call 42; first | (refine (Abs_any _ HX.out _).mono ?_; rintro e w' ⟨rfl, rfl⟩) | (refine (Abs_any _ HY.out _).mono ?_; rintro e w' ⟨rfl, rfl⟩))
    generalize ht : fres .quo .f64 A B _ = t
    have HT1 : RowKit.Hid (Sim .f64 t (tN T0 0)) := by show Sim .f64 t T0; rw [HT0.out, ← ht]; exact fres_sim ..
    clear ht
    go_loopw [8, 9] (fun vt vc w' => ∃ (t j : Nat), vt = .float .f64 t ∧ vc = .int .i64 j ∧ RowKit.Hid (j ≤ 3) ∧ RowKit.Hid (Sim .f64 t (tN T0 j)) ∧ RowKit.Hid (∃ c, w' = w.drewN c)) (fun _ vc _ => 3 - (intOf vc).toNat)
    case atStart => exact ⟨t, 0, rfl, rfl, Nat.zero_le 3, HT1, (show ∃ c, _ = w.drewN c from ⟨_, rfl⟩)⟩
    case round =>
      obtain ⟨t, j, rfl, rfl, HJ, HT, HW⟩ := hrel
      by_cases hj : j < 3
      · have HJJ := Lib.hid hj
        go_wp2_with (go_at_call 45; refine (Sqrt_any _ _).mono ?_; rintro e w' ⟨rfl, rfl⟩)
        go_roundw
        case rel =>
          refine ⟨_, j + 1, rfl, by go_num, HJJ.out, ?_, by obtain ⟨c, h⟩ := HW.out; exact ⟨_, by rw [h]; simp only [World.drewN_drewN]; rfl⟩⟩
          show Sim .f64 _ (fop .quo .f64 (tN T0 j) (fop .add .f64 one64 (sop (fop .add .f64 one64 (fop .mul .f64 (tN T0 j) (tN T0 j))))))
          exact fres_of _ HT.out (fres_of _ (Sim.refl ..) (sres_of _ (fres_of _ (Sim.refl ..) (fres_of _ HT.out HT.out))))
        case measure => simp [intOf]; omega
      · obtain rfl : j = 3 := by have := HJ.out; omega
        clear hj
        go_wp2
        generalize hu : fres .mul .f64 t t _ = u
        have HU : RowKit.Hid (Sim .f64 u (fop .mul .f64 (tN T0 3) (tN T0 3))) := by rw [← hu]; exact fres_of _ HT.out HT.out
        clear hu
        go_loopw [11, 12] (fun v9 v10 w' => ∃ (p m : Nat) (k : Int), v9 = .float .f64 p ∧ v10 = .int .i64 k ∧ RowKit.Hid (m ≤ 8) ∧ RowKit.Hid (k = 15 - 2 * (m : Int)) ∧ RowKit.Hid (Sim .f64 p (pA (fop .mul .f64 (tN T0 3) (tN T0 3)) m)) ∧ RowKit.Hid (∃ c, w' = w.drewN c)) (fun _ v10 _ => (intOf v10 + 1).toNat)
        case atStart => exact ⟨0, 0, 15, rfl, rfl, Nat.zero_le 8, (show (15 : Int) = 15 - 2 * ((0 : Nat) : Int) by omega), Sim.refl .f64 _, (by obtain ⟨c, h⟩ := HW.out; exact ⟨_, by rw [h]; simp only [World.drewN_drewN]; rfl⟩)⟩
        case round =>
          obtain ⟨p, m, k, rfl, rfl, HM, HK, HP, HW2⟩ := hrel
          by_cases hm : m < 8
          · have hk1 : 1 ≤ k := by have := HK.out; omega
            have hk2 : k ≤ 15 := by have := HK.out; omega
            have HMM := Lib.hid hm
            clear hm
            go_wp2
            go_roundw
            case rel =>
              refine ⟨_, m + 1, _, rfl, rfl, HMM.out, ?_, ?_, ?_⟩
              · show _ = (15 : Int) - 2 * ((m + 1 : Nat) : Int)
                rw [HK.out]; omega
              · show Sim .f64 _ (fop .sub .f64 (fop .quo .f64 one64 (floatOfInt .f64 (15 - 2 * (m : Int)))) (fop .mul .f64 (fop .mul .f64 (tN T0 3) (tN T0 3)) (pA (fop .mul .f64 (tN T0 3) (tN T0 3)) m)))
                rw [← HK.out]
                exact fres_of _ (fres_sim ..) (fres_of _ HU.out HP.out)
              · obtain ⟨c, h⟩ := HW2.out; exact ⟨_, by rw [h]; simp only [World.drewN_drewN]; rfl⟩
            case measure => simp [intOf]; omega
          · obtain rfl : m = 8 := by have := HM.out; omega
            have hk : k = -1 := by have := HK.out; omega
            subst hk
            clear hm
            cases bx <;> cases b2
            case false.false =>
              go_wp2
              go_ret
              refine ⟨_, rfl, ?_, by obtain ⟨c, h⟩ := HW2.out; exact ⟨_, by rw [h]; simp only [World.drewN_drewN]; rfl⟩⟩
              exact (fres_of _ (fres_of _ (Sim.refl ..) (fres_of _ HT.out HP.out)) (Sim.refl ..))
            case false.true =>
              go_wp2
              go_ret
              refine ⟨_, rfl, ?_, by obtain ⟨c, h⟩ := HW2.out; exact ⟨_, by rw [h]; simp only [World.drewN_drewN]; rfl⟩⟩
              exact (neg_sim (fres_lt ..) (fop_lt ..) (fres_of _ (fres_of _ (Sim.refl ..) (fres_of _ HT.out HP.out)) (Sim.refl ..)))
            case true.false =>
              go_wp2
              go_ret
              refine ⟨_, rfl, ?_, by obtain ⟨c, h⟩ := HW2.out; exact ⟨_, by rw [h]; simp only [World.drewN_drewN]; rfl⟩⟩
              exact (fres_of _ (Sim.refl ..) (fres_of _ (fres_of _ (Sim.refl ..) (fres_of _ HT.out HP.out)) (Sim.refl ..)))
            case true.true =>
              go_wp2
              go_ret
              refine ⟨_, rfl, ?_, by obtain ⟨c, h⟩ := HW2.out; exact ⟨_, by rw [h]; simp only [World.drewN_drewN]; rfl⟩⟩
              exact (neg_sim (fres_lt ..) (fop_lt ..) (fres_of _ (Sim.refl ..) (fres_of _ (fres_of _ (Sim.refl ..) (fres_of _ HT.out HP.out)) (Sim.refl ..))))
  case false.true.true =>
    clear hz
    go_enter Try.func69, Try.ntmps69
    go_wp2_with (go_at_call 42; first | (refine (Abs_any _ HX.out _).mono ?_; rintro e w' ⟨rfl, rfl⟩) | (refine (Abs_any _ HY.out _).mono ?_; rintro e w' ⟨rfl, rfl⟩))
    generalize ht : fres .quo .f64 B A _ = t
    have HT1 : RowKit.Hid (Sim .f64 t (tN T0 0)) := by show Sim .f64 t T0; rw [HT0.out, ← ht]; exact fres_sim ..
    clear ht
    go_loopw [8, 9] (fun vt vc w' => ∃ (t j : Nat), vt = .float .f64 t ∧ vc = .int .i64 j ∧ RowKit.Hid (j ≤ 3) ∧ RowKit.Hid (Sim .f64 t (tN T0 j)) ∧ RowKit.Hid (∃ c, w' = w.drewN c)) (fun _ vc _ => 3 - (intOf vc).toNat)
    case atStart => exact ⟨t, 0, rfl, rfl, Nat.zero_le 3, HT1, (show ∃ c, _ = w.drewN c from ⟨_, rfl⟩)⟩
    case round =>
      obtain ⟨t, j, rfl, rfl, HJ, HT, HW⟩ := hrel
      by_cases hj : j < 3
      · have HJJ := Lib.hid hj
        go_wp2_with (go_at_call 45; refine (Sqrt_any _ _).mono ?_; rintro e w' ⟨rfl, rfl⟩)
        go_roundw
        case rel =>
          refine ⟨_, j + 1, rfl, by go_num, HJJ.out, ?_, by obtain ⟨c, h⟩ := HW.out; exact ⟨_, by rw [h]; simp only [World.drewN_drewN]; rfl⟩⟩
          show Sim .f64 _ (fop .quo .f64 (tN T0 j) (fop .add .f64 one64 (sop (fop .add .f64 one64 (fop .mul .f64 (tN T0 j) (tN T0 j))))))
          exact fres_of _ HT.out (fres_of _ (Sim.refl ..) (sres_of _ (fres_of _ (Sim.refl ..) (fres_of _ HT.out HT.out))))
        case measure => simp [intOf]; omega
      · obtain rfl : j = 3 := by have := HJ.out; omega
        clear hj
        go_wp2
        generalize hu : fres .mul .f64 t t _ = u
        have HU : RowKit.Hid (Sim .f64 u (fop .mul .f64 (tN T0 3) (tN T0 3))) := by rw [← hu]; exact fres_of _ HT.out HT.out
        clear hu
        go_loopw [11, 12] (fun v9 v10 w' => ∃ (p m : Nat) (k : Int), v9 = .float .f64 p ∧ v10 = .int .i64 k ∧ RowKit.Hid (m ≤ 8) ∧ RowKit.Hid (k = 15 - 2 * (m : Int)) ∧ RowKit.Hid (Sim .f64 p (pA (fop .mul .f64 (tN T0 3) (tN T0 3)) m)) ∧ RowKit.Hid (∃ c, w' = w.drewN c)) (fun _ v10 _ => (intOf v10 + 1).toNat)
        case atStart => exact ⟨0, 0, 15, rfl, rfl, Nat.zero_le 8, (show (15 : Int) = 15 - 2 * ((0 : Nat) : Int) by omega), Sim.refl .f64 _, (by obtain ⟨c, h⟩ := HW.out; exact ⟨_, by rw [h]; simp only [World.drewN_drewN]; rfl⟩)⟩
        case round =>
          obtain ⟨p, m, k, rfl, rfl, HM, HK, HP, HW2⟩ := hrel
          by_cases hm : m < 8
          · have hk1 : 1 ≤ k := by have := HK.out; omega
            have hk2 : k ≤ 15 := by have := HK.out; omega
            have HMM := Lib.hid hm
            clear hm
            go_wp2
            go_roundw
            case rel =>
              refine ⟨_, m + 1, _, rfl, rfl, HMM.out, ?_, ?_, ?_⟩
              · show _ = (15 : Int) - 2 * ((m + 1 : Nat) : Int)
                rw [HK.out]; omega
              · show Sim .f64 _ (fop .sub .f64 (fop .quo .f64 one64 (floatOfInt .f64 (15 - 2 * (m : Int)))) (fop .mul .f64 (fop .mul .f64 (tN T0 3) (tN T0 3)) (pA (fop .mul .f64 (tN T0 3) (tN T0 3)) m)))
                rw [← HK.out]
                exact fres_of _ (fres_sim ..) (fres_of _ HU.out HP.out)
              · obtain ⟨c, h⟩ := HW2.out; exact ⟨_, by rw [h]; simp only [World.drewN_drewN]; rfl⟩
            case measure => simp [intOf]; omega
          · obtain rfl : m = 8 := by have := HM.out; omega
            have hk : k = -1 := by have := HK.out; omega
            subst hk
            clear hm
            cases bx <;> cases b2
            case false.false =>
              go_wp2
              go_ret
              refine ⟨_, rfl, ?_, by obtain ⟨c, h⟩ := HW2.out; exact ⟨_, by rw [h]; simp only [World.drewN_drewN]; rfl⟩⟩
              exact (fres_of _ (Sim.refl ..) (fres_of _ (fres_of _ (Sim.refl ..) (fres_of _ HT.out HP.out)) (Sim.refl ..)))
            case false.true =>
              go_wp2
              go_ret
              refine ⟨_, rfl, ?_, by obtain ⟨c, h⟩ := HW2.out; exact ⟨_, by rw [h]; simp only [World.drewN_drewN]; rfl⟩⟩
              exact (neg_sim (fres_lt ..) (fop_lt ..) (fres_of _ (Sim.refl ..) (fres_of _ (fres_of _ (Sim.refl ..) (fres_of _ HT.out HP.out)) (Sim.refl ..))))
            case true.false =>
              go_wp2
              go_ret
              refine ⟨_, rfl, ?_, by obtain ⟨c, h⟩ := HW2.out; exact ⟨_, by rw [h]; simp only [World.drewN_drewN]; rfl⟩⟩
              exact (fres_of _ (Sim.refl ..) (fres_of _ (Sim.refl ..) (fres_of _ (fres_of _ (Sim.refl ..) (fres_of _ HT.out HP.out)) (Sim.refl ..))))
            case true.true =>
              go_wp2
              go_ret
              refine ⟨_, rfl, ?_, by obtain ⟨c, h⟩ := HW2.out; exact ⟨_, by rw [h]; simp only [World.drewN_drewN]; rfl⟩⟩
              exact (neg_sim (fres_lt ..) (fop_lt ..) (fres_of _ (Sim.refl ..) (fres_of _ (Sim.refl ..) (fres_of _ (fres_of _ (Sim.refl ..) (fres_of _ HT.out HP.out)) (Sim.refl ..)))))
  case true.false.false =>
    clear hz
    go_enter Try.func69, Try.ntmps69
    go_wp2_with (go_at_call 42; first | (refine (Abs_any _ HX.out _).mono ?_; rintro e w' ⟨rfl, rfl⟩) | (refine (Abs_any _ HY.out _).mono ?_; rintro e w' ⟨rfl, rfl⟩))
    generalize ht : fres .quo .f64 A B _ = t
    have HT1 : RowKit.Hid (Sim .f64 t (tN T0 0)) := by show Sim .f64 t T0; rw [HT0.out, ← ht]; exact fres_sim ..
    clear ht
    go_loopw [8, 9] (fun vt vc w' => ∃ (t j : Nat), vt = .float .f64 t ∧ vc = .int .i64 j ∧ RowKit.Hid (j ≤ 3) ∧ RowKit.Hid (Sim .f64 t (tN T0 j)) ∧ RowKit.Hid (∃ c, w' = w.drewN c)) (fun _ vc _ => 3 - (intOf vc).toNat)
    case atStart => exact ⟨t, 0, rfl, rfl, Nat.zero_le 3, HT1, (show ∃ c, _ = w.drewN c from ⟨_, rfl⟩)⟩
    case round =>
      obtain ⟨t, j, rfl, rfl, HJ, HT, HW⟩ := hrel
      by_cases hj : j < 3
      · have HJJ := Lib.hid hj
        go_wp2_with (go_at_call 45; refine (Sqrt_any _ _).mono ?_; rintro e w' ⟨rfl, rfl⟩)
        go_roundw
        case rel =>
          refine ⟨_, j + 1, rfl, by go_num, HJJ.out, ?_, by obtain ⟨c, h⟩ := HW.out; exact ⟨_, by rw [h]; simp only [World.drewN_drewN]; rfl⟩⟩
          show Sim .f64 _ (fop .quo .f64 (tN T0 j) (fop .add .f64 one64 (sop (fop .add .f64 one64 (fop .mul .f64 (tN T0 j) (tN T0 j))))))
          exact fres_of _ HT.out (fres_of _ (Sim.refl ..) (sres_of _ (fres_of _ (Sim.refl ..) (fres_of _ HT.out HT.out))))
        case measure => simp [intOf]; omega
      · obtain rfl : j = 3 := by have := HJ.out; omega
        clear hj
        go_wp2
        generalize hu : fres .mul .f64 t t _ = u
        have HU : RowKit.Hid (Sim .f64 u (fop .mul .f64 (tN T0 3) (tN T0 3))) := by rw [← hu]; exact fres_of _ HT.out HT.out
        clear hu
        go_loopw [11, 12] (fun v9 v10 w' => ∃ (p m : Nat) (k : Int), v9 = .float .f64 p ∧ v10 = .int .i64 k ∧ RowKit.Hid (m ≤ 8) ∧ RowKit.Hid (k = 15 - 2 * (m : Int)) ∧ RowKit.Hid (Sim .f64 p (pA (fop .mul .f64 (tN T0 3) (tN T0 3)) m)) ∧ RowKit.Hid (∃ c, w' = w.drewN c)) (fun _ v10 _ => (intOf v10 + 1).toNat)
        case atStart => exact ⟨0, 0, 15, rfl, rfl, Nat.zero_le 8, (show (15 : Int) = 15 - 2 * ((0 : Nat) : Int) by omega), Sim.refl .f64 _, (by obtain ⟨c, h⟩ := HW.out; exact ⟨_, by rw [h]; simp only [World.drewN_drewN]; rfl⟩)⟩
        case round =>
          obtain ⟨p, m, k, rfl, rfl, HM, HK, HP, HW2⟩ := hrel
          by_cases hm : m < 8
          · have hk1 : 1 ≤ k := by have := HK.out; omega
            have hk2 : k ≤ 15 := by have := HK.out; omega
            have HMM := Lib.hid hm
            clear hm
            go_wp2
            go_roundw
            case rel =>
              refine ⟨_, m + 1, _, rfl, rfl, HMM.out, ?_, ?_, ?_⟩
              · show _ = (15 : Int) - 2 * ((m + 1 : Nat) : Int)
                rw [HK.out]; omega
              · show Sim .f64 _ (fop .sub .f64 (fop .quo .f64 one64 (floatOfInt .f64 (15 - 2 * (m : Int)))) (fop .mul .f64 (fop .mul .f64 (tN T0 3) (tN T0 3)) (pA (fop .mul .f64 (tN T0 3) (tN T0 3)) m)))
                rw [← HK.out]
                exact fres_of _ (fres_sim ..) (fres_of _ HU.out HP.out)
              · obtain ⟨c, h⟩ := HW2.out; exact ⟨_, by rw [h]; simp only [World.drewN_drewN]; rfl⟩
            case measure => simp [intOf]; omega
          · obtain rfl : m = 8 := by have := HM.out; omega
            have hk : k = -1 := by have := HK.out; omega
            subst hk
            clear hm
            cases bx <;> cases b2
            case false.false =>
              go_wp2
              go_ret
              refine ⟨_, rfl, ?_, by obtain ⟨c, h⟩ := HW2.out; exact ⟨_, by rw [h]; simp only [World.drewN_drewN]; rfl⟩⟩
              exact (fres_of _ (fres_of _ (Sim.refl ..) (fres_of _ HT.out HP.out)) (Sim.refl ..))
            case false.true =>
              go_wp2
              go_ret
              refine ⟨_, rfl, ?_, by obtain ⟨c, h⟩ := HW2.out; exact ⟨_, by rw [h]; simp only [World.drewN_drewN]; rfl⟩⟩
              exact (neg_sim (fres_lt ..) (fop_lt ..) (fres_of _ (fres_of _ (Sim.refl ..) (fres_of _ HT.out HP.out)) (Sim.refl ..)))
            case true.false =>
              go_wp2
              go_ret
              refine ⟨_, rfl, ?_, by obtain ⟨c, h⟩ := HW2.out; exact ⟨_, by rw [h]; simp only [World.drewN_drewN]; rfl⟩⟩
              exact (fres_of _ (Sim.refl ..) (fres_of _ (fres_of _ (Sim.refl ..) (fres_of _ HT.out HP.out)) (Sim.refl ..)))
            case true.true =>
              go_wp2
              go_ret
              refine ⟨_, rfl, ?_, by obtain ⟨c, h⟩ := HW2.out; exact ⟨_, by rw [h]; simp only [World.drewN_drewN]; rfl⟩⟩
              exact (neg_sim (fres_lt ..) (fop_lt ..) (fres_of _ (Sim.refl ..) (fres_of _ (fres_of _ (Sim.refl ..) (fres_of _ HT.out HP.out)) (Sim.refl ..))))
  case true.false.true =>
    clear hz
    go_enter Try.func69, Try.ntmps69
    go_wp2_with (go_at_call 42; first | (refine (Abs_any _ HX.out _).mono ?_; rintro e w' ⟨rfl, rfl⟩) | (refine (Abs_any _ HY.out _).mono ?_; rintro e w' ⟨rfl, rfl⟩))
    generalize ht : fres .quo .f64 B A _ = t
    have HT1 : RowKit.Hid (Sim .f64 t (tN T0 0)) := by show Sim .f64 t T0; rw [HT0.out, ← ht]; exact fres_sim ..
    clear ht
    go_loopw [8, 9] (fun vt vc w' => ∃ (t j : Nat), vt = .float .f64 t ∧ vc = .int .i64 j ∧ RowKit.Hid (j ≤ 3) ∧ RowKit.Hid (Sim .f64 t (tN T0 j)) ∧ RowKit.Hid (∃ c, w' = w.drewN c)) (fun _ vc _ => 3 - (intOf vc).toNat)
    case atStart => exact ⟨t, 0, rfl, rfl, Nat.zero_le 3, HT1, (show ∃ c, _ = w.drewN c from ⟨_, rfl⟩)⟩
    case round =>
      obtain ⟨t, j, rfl, rfl, HJ, HT, HW⟩ := hrel
      by_cases hj : j < 3
      · have HJJ := Lib.hid hj
        go_wp2_with (go_at_call 45; refine (Sqrt_any _ _).mono ?_; rintro e w' ⟨rfl, rfl⟩)
        go_roundw
        case rel =>
          refine ⟨_, j + 1, rfl, by go_num, HJJ.out, ?_, by obtain ⟨c, h⟩ := HW.out; exact ⟨_, by rw [h]; simp only [World.drewN_drewN]; rfl⟩⟩
          show Sim .f64 _ (fop .quo .f64 (tN T0 j) (fop .add .f64 one64 (sop (fop .add .f64 one64 (fop .mul .f64 (tN T0 j) (tN T0 j))))))
          exact fres_of _ HT.out (fres_of _ (Sim.refl ..) (sres_of _ (fres_of _ (Sim.refl ..) (fres_of _ HT.out HT.out))))
        case measure => simp [intOf]; omega
      · obtain rfl : j = 3 := by have := HJ.out; omega
        clear hj
        go_wp2
        generalize hu : fres .mul .f64 t t _ = u
        have HU : RowKit.Hid (Sim .f64 u (fop .mul .f64 (tN T0 3) (tN T0 3))) := by rw [← hu]; exact fres_of _ HT.out HT.out
        clear hu
        go_loopw [11, 12] (fun v9 v10 w' => ∃ (p m : Nat) (k : Int), v9 = .float .f64 p ∧ v10 = .int .i64 k ∧ RowKit.Hid (m ≤ 8) ∧ RowKit.Hid (k = 15 - 2 * (m : Int)) ∧ RowKit.Hid (Sim .f64 p (pA (fop .mul .f64 (tN T0 3) (tN T0 3)) m)) ∧ RowKit.Hid (∃ c, w' = w.drewN c)) (fun _ v10 _ => (intOf v10 + 1).toNat)
        case atStart => exact ⟨0, 0, 15, rfl, rfl, Nat.zero_le 8, (show (15 : Int) = 15 - 2 * ((0 : Nat) : Int) by omega), Sim.refl .f64 _, (by obtain ⟨c, h⟩ := HW.out; exact ⟨_, by rw [h]; simp only [World.drewN_drewN]; rfl⟩)⟩
        case round =>
          obtain ⟨p, m, k, rfl, rfl, HM, HK, HP, HW2⟩ := hrel
          by_cases hm : m < 8
          · have hk1 : 1 ≤ k := by have := HK.out; omega
            have hk2 : k ≤ 15 := by have := HK.out; omega
            have HMM := Lib.hid hm
            clear hm
            go_wp2
            go_roundw
            case rel =>
              refine ⟨_, m + 1, _, rfl, rfl, HMM.out, ?_, ?_, ?_⟩
              · show _ = (15 : Int) - 2 * ((m + 1 : Nat) : Int)
                rw [HK.out]; omega
              · show Sim .f64 _ (fop .sub .f64 (fop .quo .f64 one64 (floatOfInt .f64 (15 - 2 * (m : Int)))) (fop .mul .f64 (fop .mul .f64 (tN T0 3) (tN T0 3)) (pA (fop .mul .f64 (tN T0 3) (tN T0 3)) m)))
                rw [← HK.out]
                exact fres_of _ (fres_sim ..) (fres_of _ HU.out HP.out)
              · obtain ⟨c, h⟩ := HW2.out; exact ⟨_, by rw [h]; simp only [World.drewN_drewN]; rfl⟩
            case measure => simp [intOf]; omega
          · obtain rfl : m = 8 := by have := HM.out; omega
            have hk : k = -1 := by have := HK.out; omega
            subst hk
            clear hm
            cases bx <;> cases b2
            case false.false =>
              go_wp2
              go_ret
              refine ⟨_, rfl, ?_, by obtain ⟨c, h⟩ := HW2.out; exact ⟨_, by rw [h]; simp only [World.drewN_drewN]; rfl⟩⟩
              exact (fres_of _ (Sim.refl ..) (fres_of _ (fres_of _ (Sim.refl ..) (fres_of _ HT.out HP.out)) (Sim.refl ..)))
            case false.true =>
              go_wp2
              go_ret
              refine ⟨_, rfl, ?_, by obtain ⟨c, h⟩ := HW2.out; exact ⟨_, by rw [h]; simp only [World.drewN_drewN]; rfl⟩⟩
              exact (neg_sim (fres_lt ..) (fop_lt ..) (fres_of _ (Sim.refl ..) (fres_of _ (fres_of _ (Sim.refl ..) (fres_of _ HT.out HP.out)) (Sim.refl ..))))
            case true.false =>
              go_wp2
              go_ret
              refine ⟨_, rfl, ?_, by obtain ⟨c, h⟩ := HW2.out; exact ⟨_, by rw [h]; simp only [World.drewN_drewN]; rfl⟩⟩
              exact (fres_of _ (Sim.refl ..) (fres_of _ (Sim.refl ..) (fres_of _ (fres_of _ (Sim.refl ..) (fres_of _ HT.out HP.out)) (Sim.refl ..))))
            case true.true =>
              go_wp2
              go_ret
              refine ⟨_, rfl, ?_, by obtain ⟨c, h⟩ := HW2.out; exact ⟨_, by rw [h]; simp only [World.drewN_drewN]; rfl⟩⟩
              exact (neg_sim (fres_lt ..) (fop_lt ..) (fres_of _ (Sim.refl ..) (fres_of _ (Sim.refl ..) (fres_of _ (fres_of _ (Sim.refl ..) (fres_of _ HT.out HP.out)) (Sim.refl ..)))))
  case true.true.false =>
    cases hz
  case true.true.true =>
    cases hz
end Go.Proofs.Ytpjgodeabdcdcaa
