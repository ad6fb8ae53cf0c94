/- The sums of products of float32 numbers from left to right: the reference's l01Dot and the program's DotNumbers. -/
import Derived.Test.YtgmioegepmoopaaRowF
import Derived.Test.YtgmioegepmoopaaChecked
namespace Go.Proofs.Ytgmioegepmoopaa
open Go.RowKit Go.Proofs.YtgmioegepmoopaaW.PrintWords Go.Proofs.YtgmioegepmoopaaW.PrintLast Fl

/-- the sum of the first j products, one NaN standing for all -/
def dotF (l m : List Nat) : Nat → Nat
  | 0 => 0
  | j + 1 => fop .add .f32 (dotF l m j) (fop .mul .f32 (l.getD j 0) (m.getD j 0))

set_option maxHeartbeats 1000000 in
set_option maxRecDepth 100000 in
theorem l01Dot_any (A B : Option Addr) (c d : Nat) (l m : List Nat) (w : World) (hr0 : FK.C w A l.length l) (hr1 : FK.C w B m.length m) (hlm : l.length = m.length) :
    Calls Try.prog 63 #[.slice A l.length c, .slice B m.length d] w fun e w' => ∃ r, e = .returned (.float .f32 r) ∧ Sim .f32 r (dotF l m l.length) ∧ ∃ n, w' = w.drewN n := by
  have HR0 := Aside0.mk hr0
  have HR1 := Aside0.mk hr1
  have hmx := Kd.C_max hr0
  clear hr0 hr1
  obtain ⟨n, hn⟩ : ∃ n, n = l.length := ⟨_, rfl⟩
  rw [← hlm, ← hn] at HR1
  rw [← hn] at HR0 hmx
  rw [← hlm, ← hn]
  clear hlm hn
  go_enter Try.func63, Try.ntmps63
  go_wp2
  go_loopw [5, 6] (fun v3 v4 w' => ∃ (s j : Nat), v3 = .float .f32 s ∧ v4 = .int .i64 j ∧ Aside0 (j ≤ n) ∧ Aside0 (Sim .f32 s (dotF l m j)) ∧ Aside0 (∃ k, w' = w.drewN k)) (fun _ v4 _ => n - (intOf v4).toNat)
  case atStart => exact ⟨0, 0, rfl, rfl, ⟨by omega⟩, ⟨.inl rfl⟩, ⟨0, rfl⟩⟩
  case round =>
    obtain ⟨s, j, rfl, rfl, HJ, HS, HK⟩ := hrel
    by_cases hlt : j < n
    · obtain ⟨ad, ea, hx⟩ := at_f32 HR0.out j hlt
      obtain ⟨bd, eb, hy⟩ := at_f32 HR1.out j hlt
      subst ea eb
      replace hx : wr.cell? (ad.add j) = some (.float .f32 (l.getD j 0)) := by obtain ⟨k, e⟩ := HK.out; rw [e]; exact hx
      replace hy : wr.cell? (bd.add j) = some (.float .f32 (m.getD j 0)) := by obtain ⟨k, e⟩ := HK.out; rw [e]; exact hy
      have HE : Aside0 (dotF l m (j + 1) = fop .add .f32 (dotF l m j) (fop .mul .f32 (l.getD j 0) (m.getD j 0))) := ⟨rfl⟩
      generalize l.getD j 0 = x at *
      generalize m.getD j 0 = y at *
      go_wp2_with fail
      go_region_with fail
      all_goals
        go_wp2
        go_roundw
        case rel => exact ⟨_, j + 1, rfl, by go_num, ⟨by omega⟩, ⟨by rw [HE.out]; exact fres_of _ HS.out (fres_sim _ _ _ _ _)⟩, ⟨by obtain ⟨k, e⟩ := HK.out; exact ⟨_, by rw [e, World.drewN_drewN]⟩⟩⟩
        case measure => simp [intOf]; omega
    · obtain rfl : j = n := by have := HJ.out; omega
      have HS2 : Aside0 (Sim .f32 s (dotF l m j)) := HS
      clear HS
      go_wp2
      go_ret
      exact ⟨s, rfl, HS2.out, HK.out⟩

set_option maxHeartbeats 1000000 in
set_option maxRecDepth 100000 in
theorem DotNumbers_yes (A B : Option Addr) (c d : Nat) (l m : List Nat) (w : World) (hr0 : FK.C w A l.length l) (hr1 : FK.C w B m.length m) (hlm : l.length = m.length) (h256 : l.length ≤ 256) :
    Calls Try.prog 30 #[.slice A l.length c, .slice B m.length d] w fun e w' => ∃ r, e = .returned (.tuple #[.float .f32 r, .bool true]) ∧ Sim .f32 r (dotF l m l.length) ∧ ∃ n, w' = w.drewN n := by
  have HR0 := Aside0.mk hr0
  have HR1 := Aside0.mk hr1
  have hmx := Kd.C_max hr0
  clear hr0 hr1
  obtain ⟨n, hn⟩ : ∃ n, n = l.length := ⟨_, rfl⟩
  rw [← hlm, ← hn] at HR1
  rw [← hn] at HR0 hmx
  rw [← hlm, ← hn]
  have hg1 : decide (256 < (n : Int)) = false := by simp; omega
  have hg2 : ((n : Int) != (n : Int)) = false := by simp
  clear hlm hn h256
  go_enter Try.func30, Try.ntmps30
  go_wp2
  go_loopw [6, 20] (fun v3 v4 w' => ∃ (s j : Nat), v3 = .float .f32 s ∧ v4 = .int .i64 j ∧ Aside0 (j ≤ n) ∧ Aside0 (Sim .f32 s (dotF l m j)) ∧ Aside0 (∃ k, w' = w.drewN k)) (fun _ v4 _ => n - (intOf v4).toNat)
  case atStart => exact ⟨0, 0, rfl, rfl, ⟨by omega⟩, ⟨.inl rfl⟩, ⟨0, rfl⟩⟩
  case round =>
    obtain ⟨s, j, rfl, rfl, HJ, HS, HK⟩ := hrel
    by_cases hlt : j < n
    · obtain ⟨ad, ea, hx⟩ := at_f32 HR0.out j hlt
      obtain ⟨bd, eb, hy⟩ := at_f32 HR1.out j hlt
      subst ea eb
      replace hx : wr.cell? (ad.add j) = some (.float .f32 (l.getD j 0)) := by obtain ⟨k, e⟩ := HK.out; rw [e]; exact hx
      replace hy : wr.cell? (bd.add j) = some (.float .f32 (m.getD j 0)) := by obtain ⟨k, e⟩ := HK.out; rw [e]; exact hy
      have HE : Aside0 (dotF l m (j + 1) = fop .add .f32 (dotF l m j) (fop .mul .f32 (l.getD j 0) (m.getD j 0))) := ⟨rfl⟩
      generalize l.getD j 0 = x at *
      generalize m.getD j 0 = y at *
      go_wp2_with fail
      go_region_with fail
      all_goals
        go_wp2
        go_roundw
        case rel => exact ⟨_, j + 1, rfl, by go_num, ⟨by omega⟩, ⟨by rw [HE.out]; exact fres_of _ HS.out (fres_sim _ _ _ _ _)⟩, ⟨by obtain ⟨k, e⟩ := HK.out; exact ⟨_, by rw [e, World.drewN_drewN]⟩⟩⟩
        case measure => simp [intOf]; omega
    · obtain rfl : j = n := by have := HJ.out; omega
      have HS2 : Aside0 (Sim .f32 s (dotF l m j)) := HS
      clear HS
      go_wp2
      go_ret2
      exact ⟨s, rfl, HS2.out, HK.out⟩

set_option maxHeartbeats 1000000 in
set_option maxRecDepth 100000 in
theorem DotNumbers_no (A B : Option Addr) (c d : Nat) (l m : List Nat) (w : World) (hbad : 256 < l.length ∨ l.length ≠ m.length) :
    Calls Try.prog 30 #[.slice A l.length c, .slice B m.length d] w fun e w' => e = .returned (.tuple #[.float .f32 0, .bool false]) ∧ w = w' := by
  by_cases h : 256 < l.length
  · have hg1 : decide (256 < (l.length : Int)) = true := by simp; omega
    clear hbad
    go_enter Try.func30, Try.ntmps30
    go_wp2
    go_ret2
    exact ⟨rfl, rfl⟩
  · have hg1 : decide (256 < (l.length : Int)) = false := by simp; omega
    have hg2 : ((l.length : Int) != (m.length : Int)) = true := by rw [bne_iff_ne]; omega
    clear hbad
    go_enter Try.func30, Try.ntmps30
    go_wp2
    go_ret2
    exact ⟨rfl, rfl⟩

set_option maxHeartbeats 1000000 in
set_option maxRecDepth 100000 in
theorem specDot_yes (A B : Option Addr) (c d : Nat) (l m : List Nat) (w : World) (hr0 : FK.C w A l.length l) (hr1 : FK.C w B m.length m) (hlm : l.length = m.length) (h256 : l.length ≤ 256) :
    Calls Try.prog 28 #[.slice A l.length c, .slice B m.length d] w fun e w' => ∃ r, e = .returned (.tuple #[.float .f32 r, .bool true]) ∧ Sim .f32 r (dotF l m l.length) ∧ ∃ n, w' = w.drewN n := by
  have hg1 : decide ((l.length : Int) ≤ 256) = true := by simp; omega
  have hg2 : ((l.length : Int) != (m.length : Int)) = false := by rw [bne_eq_false_iff_eq]; omega
  have HR0 := Aside0.mk hr0
  have HR1 := Aside0.mk hr1
  have HLM := Aside0.mk hlm
  clear hr0 hr1 hlm
  go_enter Try.func28, Try.ntmps28
  go_wp2_with (go_at_call 62; go_in)
  refine (l01Dot_any A B c d l m _ HR0.out HR1.out HLM.out).mono ?_
  rintro e w' ⟨r, rfl, hs, n, rfl⟩
  have HS := Aside0.mk hs
  clear hs
  go_wp2
  go_ret2
  exact ⟨r, rfl, HS.out, _, rfl⟩

set_option maxHeartbeats 1000000 in
set_option maxRecDepth 100000 in
theorem specDot_no (A B : Option Addr) (c d : Nat) (l m : List Nat) (w : World) (hbad : 256 < l.length ∨ l.length ≠ m.length) :
    Calls Try.prog 28 #[.slice A l.length c, .slice B m.length d] w fun e w' => e = .returned (.tuple #[.float .f32 0, .bool false]) ∧ w = w' := by
  by_cases h : 256 < l.length
  · have hg1 : decide ((l.length : Int) ≤ 256) = false := by simp; omega
    clear hbad
    go_enter Try.func28, Try.ntmps28
    go_wp2
    go_ret2
    exact ⟨rfl, rfl⟩
  · have hg1 : decide ((l.length : Int) ≤ 256) = true := by simp; omega
    have hg2 : ((l.length : Int) != (m.length : Int)) = true := by rw [bne_iff_ne]; omega
    clear hbad
    go_enter Try.func28, Try.ntmps28
    go_wp2
    go_ret2
    exact ⟨rfl, rfl⟩
end Go.Proofs.Ytgmioegepmoopaa
