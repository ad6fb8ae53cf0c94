/- The sum of the squares of a list: the reference's EnergyOf and the program's, for all arguments. -/
import Derived.Test.YtildgnfonpghmaaIsL
import Derived.Test.YtildgnfonpghmaaChecked
namespace Go.Proofs.Ytildgnfonpghmaa
open Go.RowKit Go.Proofs.YtildgnfonpghmaaW.PrintWords Go.Proofs.YtildgnfonpghmaaW.PrintLast Fl

/-- the sum of the first j squares, one NaN standing for all -/
def sqF (l : List Nat) : Nat → Nat
  | 0 => 0
  | j + 1 => fop .add .f32 (sqF l j) (fop .mul .f32 (l.getD j 0) (l.getD j 0))
def enB (l : List Nat) : Bool := isListB l && finB (sqF l l.length)
def enV (l : List Nat) : Nat := if enB l then sqF l l.length else 0
theorem finB_congr {a b : Nat} (h : Sim .f32 a b) : finB a = finB b := by unfold finB; rw [fop_congr h h]

set_option maxHeartbeats 1000000 in
set_option maxRecDepth 100000 in
theorem l02Energy_any (A : Option Addr) (c : Nat) (l : List Nat) (w : World) (hr0 : FK.C w A l.length l) :
    Calls Try.prog 11 #[.slice A l.length c] w fun e w' => ∃ r, e = .returned (.float .f32 r) ∧ Sim .f32 r (sqF l l.length) ∧ ∃ n, w' = w.drewN n := by
  have HR0 := Aside0.mk hr0
  have hmx := Kd.C_max hr0
  clear hr0
  obtain ⟨n, hn⟩ : ∃ n, n = l.length := ⟨_, rfl⟩
  rw [← hn] at HR0 hmx ⊢
  clear hn
  go_enter Try.func11, Try.ntmps11
  go_wp2
  go_loopw [3, 4] (fun v3 v4 w' => ∃ (s j : Nat), v3 = .float .f32 s ∧ v4 = .int .i64 j ∧ Aside0 (j ≤ n) ∧ Aside0 (Sim .f32 s (sqF l j)) ∧ Aside0 (∃ k, w' = w.drewN k)) (fun _ v4 _ => n - (intOf v4).toNat)
  case atStart => exact ⟨0, 0, rfl, rfl, ⟨by omega⟩, ⟨.inl rfl⟩, ⟨0, rfl⟩⟩
  case round =>
    obtain ⟨s, j, rfl, rfl, HJ, HS, HK⟩ := hrel
    by_cases hlt : j < n
    · obtain ⟨ad, ea, hx⟩ := at_f32 HR0.out j hlt
      subst ea
      replace hx : wr.cell? (ad.add j) = some (.float .f32 (l.getD j 0)) := by obtain ⟨k, e⟩ := HK.out; rw [e]; exact hx
      have HE : Aside0 (sqF l (j + 1) = fop .add .f32 (sqF l j) (fop .mul .f32 (l.getD j 0) (l.getD j 0))) := ⟨rfl⟩
      generalize l.getD j 0 = x at *
      go_wp2_with fail
      go_region_with fail
      all_goals
        go_wp2
        go_roundw
        case rel => exact ⟨_, j + 1, rfl, by go_num, ⟨by omega⟩, ⟨by rw [HE.out]; exact fres_of _ HS.out (fres_sim _ _ _ _ _)⟩, ⟨by obtain ⟨k, e⟩ := HK.out; exact ⟨_, by rw [e, World.drewN_drewN]⟩⟩⟩
        case measure => simp [intOf]; omega
    · obtain rfl : j = n := by have := HJ.out; omega
      have HS2 : Aside0 (Sim .f32 s (sqF l j)) := HS
      clear HS
      go_wp2
      go_ret
      exact ⟨s, rfl, HS2.out, HK.out⟩

set_option maxHeartbeats 1000000 in
set_option maxRecDepth 100000 in
theorem squares_any (A : Option Addr) (c : Nat) (l : List Nat) (w : World) (hr0 : FK.C w A l.length l) :
    Calls Try.prog 14 #[.slice A l.length c] w fun e w' => ∃ r, e = .returned (.float .f32 r) ∧ Sim .f32 r (sqF l l.length) ∧ ∃ n, w' = w.drewN n := by
  have HR0 := Aside0.mk hr0
  have hmx := Kd.C_max hr0
  clear hr0
  obtain ⟨n, hn⟩ : ∃ n, n = l.length := ⟨_, rfl⟩
  rw [← hn] at HR0 hmx ⊢
  clear hn
  go_enter Try.func14, Try.ntmps14
  go_wp2
  go_loopw [3, 8] (fun v3 v4 w' => ∃ (s j : Nat), v3 = .float .f32 s ∧ v4 = .int .i64 j ∧ Aside0 (j ≤ n) ∧ Aside0 (Sim .f32 s (sqF l j)) ∧ Aside0 (∃ k, w' = w.drewN k)) (fun _ v4 _ => n - (intOf v4).toNat)
  case atStart => exact ⟨0, 0, rfl, rfl, ⟨by omega⟩, ⟨.inl rfl⟩, ⟨0, rfl⟩⟩
  case round =>
    obtain ⟨s, j, rfl, rfl, HJ, HS, HK⟩ := hrel
    by_cases hlt : j < n
    · obtain ⟨ad, ea, hx⟩ := at_f32 HR0.out j hlt
      subst ea
      replace hx : wr.cell? (ad.add j) = some (.float .f32 (l.getD j 0)) := by obtain ⟨k, e⟩ := HK.out; rw [e]; exact hx
      have HE : Aside0 (sqF l (j + 1) = fop .add .f32 (sqF l j) (fop .mul .f32 (l.getD j 0) (l.getD j 0))) := ⟨rfl⟩
      generalize l.getD j 0 = x at *
      go_wp2
      go_roundw
      case rel => exact ⟨_, j + 1, rfl, by go_num, ⟨by omega⟩, ⟨by rw [HE.out]; exact fres_of _ HS.out (fres_sim _ _ _ _ _)⟩, ⟨by obtain ⟨k, e⟩ := HK.out; exact ⟨_, by rw [e, World.drewN_drewN]⟩⟩⟩
      case measure => simp [intOf]; omega
    · obtain rfl : j = n := by have := HJ.out; omega
      have HS2 : Aside0 (Sim .f32 s (sqF l j)) := HS
      clear HS
      go_wp2
      go_ret
      exact ⟨s, rfl, HS2.out, HK.out⟩

theorem l02Is_any (A : Option Addr) (c : Nat) (l : List Nat) (w : World) (hr0 : FK.C w A l.length l) :
    Calls Try.prog 9 #[.slice A l.length c] w fun e w' => e = .returned (.bool (isListB l)) ∧ ∃ n, w' = w.drewN n := by
  have HR0 := Aside0.mk hr0
  have hmx := Kd.C_max hr0
  clear hr0
  by_cases h1 : 1 ≤ l.length
  · by_cases h2 : l.length ≤ 128
    · have e1 : isListB l = finL l := by unfold isListB; rw [decide_eq_true ⟨h1, h2⟩]; rfl
      have h1' : decide (1 ≤ (l.length : Int)) = true := by simp; omega
      have h2' : decide ((l.length : Int) ≤ 128) = true := by simp; omega
      rw [e1]; clear e1 h1 h2
      go_enter Try.func9, Try.ntmps9
      go_wp2_with fail
      refine (l02Finite_any A c l _ HR0.out).mono ?_
      rintro e w' ⟨rfl, n, rfl⟩
      go_wp2
      go_ret
      exact ⟨rfl, _, rfl⟩
    · have e1 : isListB l = false := by unfold isListB; rw [decide_eq_false (by omega)]; rfl
      have h1' : decide (1 ≤ (l.length : Int)) = true := by simp; omega
      have h2' : decide ((l.length : Int) ≤ 128) = false := by simp; omega
      rw [e1]; clear e1 h1 h2
      go_enter Try.func9, Try.ntmps9
      go_wp2
      go_ret
      exact ⟨rfl, 0, rfl⟩
  · have e1 : isListB l = false := by unfold isListB; rw [decide_eq_false (by omega)]; rfl
    have h1' : decide (1 ≤ (l.length : Int)) = false := by simp; omega
    rw [e1]; clear e1 h1
    go_enter Try.func9, Try.ntmps9
    go_wp2
    go_ret
    exact ⟨rfl, 0, rfl⟩

theorem l02Number_any (x : Nat) (w : World) :
    Calls Try.prog 10 #[.float .f32 x] w fun e w' => e = .returned (.tuple #[.float .f32 (if finB x then x else 0), .bool (finB x)]) ∧ ∃ n, w' = w.drewN n := by
  obtain ⟨b, hb⟩ : ∃ b, finB x = b := ⟨_, rfl⟩
  have HB := Lib.hid hb
  clear hb
  rw [HB.out]
  cases b
  · go_enter Try.func10, Try.ntmps10
    go_wp2_with fail
    refine (l01Finite_any x _).mono ?_
    rw [HB.out]
    rintro e w' ⟨rfl, n, rfl⟩
    go_wp2
    go_ret2
    exact ⟨rfl, _, rfl⟩
  · go_enter Try.func10, Try.ntmps10
    go_wp2_with fail
    refine (l01Finite_any x _).mono ?_
    rw [HB.out]
    rintro e w' ⟨rfl, n, rfl⟩
    go_wp2
    go_ret2
    exact ⟨rfl, _, rfl⟩

theorem finite_any (x : Nat) (w : World) :
    Calls Try.prog 13 #[.float .f32 x] w fun e w' => e = .returned (.tuple #[.float .f32 (if finB x then x else 0), .bool (finB x)]) ∧ ∃ n, w' = w.drewN n := by
  obtain ⟨b, hb⟩ : ∃ b, finB x = b := ⟨_, rfl⟩
  have HB := Lib.hid hb
  clear hb
  rw [HB.out]
  cases b
  · go_enter Try.func13, Try.ntmps13
    go_wp2_with fail
    refine (IsFinite_any x _).mono ?_
    rw [HB.out]
    rintro e w' ⟨rfl, n, rfl⟩
    go_wp2
    go_ret2
    exact ⟨rfl, _, rfl⟩
  · go_enter Try.func13, Try.ntmps13
    go_wp2_with fail
    refine (IsFinite_any x _).mono ?_
    rw [HB.out]
    rintro e w' ⟨rfl, n, rfl⟩
    go_wp2
    go_ret2
    exact ⟨rfl, _, rfl⟩
theorem en_sim {l : List Nat} {r : Nat} (hl : isListB l = true) (h : Sim .f32 r (sqF l l.length)) : Sim .f32 (if finB r then r else 0) (enV l) ∧ finB r = enB l := by
  have hb : finB r = enB l := by unfold enB; rw [hl, Bool.true_and]; exact finB_congr h
  refine ⟨?_, hb⟩
  unfold enV
  rw [hb]
  cases enB l
  · exact Sim.refl ..
  · exact h
theorem en_no {l : List Nat} (hl : isListB l = false) : enV l = 0 ∧ enB l = false := by
  have hb : enB l = false := by unfold enB; rw [hl]; rfl
  exact ⟨by unfold enV; rw [hb]; rfl, hb⟩

theorem specEnergy_any (A : Option Addr) (c : Nat) (l : List Nat) (w : World) (hr0 : FK.C w A l.length l) :
    Calls Try.prog 4 #[.slice A l.length c] w fun e w' => ∃ r, e = .returned (.tuple #[.float .f32 r, .bool (enB l)]) ∧ Sim .f32 r (enV l) ∧ ∃ n, w' = w.drewN n := by
  have HR0 := Aside0.mk hr0
  clear hr0
  obtain ⟨b, hb⟩ : ∃ b, isListB l = b := ⟨_, rfl⟩
  have HB := Lib.hid hb
  clear hb
  cases b
  · obtain ⟨h1, h2⟩ := en_no HB.out
    rw [h1, h2]
    clear h1 h2
    go_enter Try.func4, Try.ntmps4
    go_wp2_with fail
    refine (l02Is_any A c l _ HR0.out).mono ?_
    rw [HB.out]
    rintro e w' ⟨rfl, n, rfl⟩
    go_wp2
    go_ret2
    exact ⟨0, rfl, Sim.refl .., _, rfl⟩
  · go_enter Try.func4, Try.ntmps4
    go_wp2_with fail
    refine (l02Is_any A c l _ HR0.out).mono ?_
    rw [HB.out]
    rintro e w' ⟨rfl, n, rfl⟩
    go_wp2_with fail
    refine (l02Energy_any A c l _ (Kd.C_drewN HR0.out _)).mono ?_
    rintro e w' ⟨r, rfl, hs, m, rfl⟩
    obtain ⟨g1, g2⟩ := en_sim HB.out hs
    have G1 := Aside0.mk g1
    clear hs g1
    go_wp2_with fail
    refine (l02Number_any r _).mono ?_
    rw [g2] at G1 ⊢
    clear g2
    obtain ⟨y, hy⟩ : ∃ y, (if enB l = true then r else 0) = y := ⟨_, rfl⟩
    rw [hy] at G1 ⊢
    clear hy
    rintro e w' ⟨rfl, k, rfl⟩
    go_wp2
    go_ret2
    exact ⟨_, rfl, G1.out, _, rfl⟩

theorem EnergyOf_any (A : Option Addr) (c : Nat) (l : List Nat) (w : World) (hr0 : FK.C w A l.length l) (hc : l.length ≤ c) :
    Calls Try.prog 6 #[.slice A l.length c] w fun e w' => ∃ r, e = .returned (.tuple #[.float .f32 r, .bool (enB l)]) ∧ Sim .f32 r (enV l) ∧ Below w.heap.size w w' := by
  have HR0 := Aside0.mk hr0
  clear hr0
  obtain ⟨b, hb⟩ : ∃ b, isListB l = b := ⟨_, rfl⟩
  have HB := Lib.hid hb
  clear hb
  cases b
  · obtain ⟨h1, h2⟩ := en_no HB.out
    rw [h1, h2]
    clear h1 h2
    go_enter Try.func6, Try.ntmps6
    go_wp2_with fail
    refine (IsList_any A c l _ HR0.out hc).mono ?_
    rw [HB.out]
    rintro e w1 ⟨rfl, hb1⟩
    have B1 := Aside0.mk hb1
    clear hb1
    go_wp2
    go_ret2
    exact ⟨0, rfl, Sim.refl .., B1.out⟩
  · go_enter Try.func6, Try.ntmps6
    go_wp2_with fail
    refine (IsList_any A c l _ HR0.out hc).mono ?_
    rw [HB.out]
    rintro e w1 ⟨rfl, hb1⟩
    have B1 := Aside0.mk hb1
    clear hb1
    go_wp2_with fail
    refine (squares_any A c l _ (Kd.C_below HR0.out B1.out)).mono ?_
    rintro e w' ⟨r, rfl, hs, m, rfl⟩
    obtain ⟨g1, g2⟩ := en_sim HB.out hs
    have G1 := Aside0.mk g1
    clear hs g1
    go_wp2_with fail
    refine (finite_any r _).mono ?_
    rw [g2] at G1 ⊢
    clear g2
    obtain ⟨y, hy⟩ : ∃ y, (if enB l = true then r else 0) = y := ⟨_, rfl⟩
    rw [hy] at G1 ⊢
    clear hy
    rintro e w' ⟨rfl, k, rfl⟩
    go_wp2
    go_ret2
    exact ⟨_, rfl, G1.out, by repeat (first | exact B1.out | apply below_drewN)⟩
end Go.Proofs.Ytildgnfonpghmaa
