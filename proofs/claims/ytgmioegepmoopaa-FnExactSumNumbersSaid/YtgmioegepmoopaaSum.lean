/- The sums of float32 numbers from left to right: the reference's l01Sum and the program's SumNumbers. -/
import Derived.Test.YtgmioegepmoopaaRowF
import Derived.Test.YtgmioegepmoopaaChecked
namespace Go.Proofs.Ytgmioegepmoopaa
open Go.RowKit Go.Proofs.YtgmioegepmoopaaW.PrintWords Go.Proofs.YtgmioegepmoopaaW.PrintLast Fl

/-- the sum from left to right, one NaN standing for all -/
def sumF (l : List Nat) : Nat := l.foldl (fun s x => fop .add .f32 s x) 0
theorem sumF_step {l : List Nat} {j : Nat} (hj : j < l.length) : sumF (l.take (j + 1)) = fop .add .f32 (sumF (l.take j)) (l.getD j 0) := by
  unfold sumF
  rw [List.take_succ_eq_append_getElem hj, List.foldl_append, List.getD_eq_getElem?_getD, List.getElem?_eq_getElem hj]; rfl

set_option maxHeartbeats 1000000 in
set_option maxRecDepth 100000 in
theorem l01Sum_any (A : Option Addr) (c : Nat) (l : List Nat) (w : World) (hr0 : FK.C w A l.length l) :
    Calls Try.prog 64 #[.slice A l.length c] w fun e w' => ∃ r, e = .returned (.float .f32 r) ∧ Sim .f32 r (sumF l) ∧ ∃ n, w' = w.drewN n := by
  have HR0 := Aside0.mk hr0
  have hmx := Kd.C_max hr0
  clear hr0
  obtain ⟨n, hn⟩ : ∃ n, n = l.length := ⟨_, rfl⟩
  have HN := Aside0.mk hn
  rw [← hn] at HR0 hmx ⊢
  clear hn
  go_enter Try.func64, Try.ntmps64
  go_wp2
  go_loopw [3, 4] (fun v3 v4 w' => ∃ (s j : Nat), v3 = .float .f32 s ∧ v4 = .int .i64 j ∧ Aside0 (j ≤ n) ∧ Aside0 (Sim .f32 s (sumF (l.take j))) ∧ Aside0 (∃ k, w' = w.drewN k)) (fun _ v4 _ => n - (intOf v4).toNat)
  case atStart => exact ⟨0, 0, rfl, rfl, ⟨by omega⟩, ⟨.inl rfl⟩, ⟨0, rfl⟩⟩
  case round =>
    obtain ⟨s, j, rfl, rfl, HJ, HS, HK⟩ := hrel
    by_cases hlt : j < n
    · obtain ⟨ad, ea, hx⟩ := at_f32 HR0.out j hlt
      subst ea
      replace hx : wr.cell? (ad.add j) = some (.float .f32 (l.getD j 0)) := by obtain ⟨k, e⟩ := HK.out; rw [e]; exact hx
      have HE := Aside0.mk (sumF_step (l := l) (j := j) (by rw [← HN.out]; exact hlt))
      generalize l.getD j 0 = x at *
      go_wp2
      go_roundw
      case rel => exact ⟨_, j + 1, rfl, by go_num, ⟨by omega⟩, ⟨by rw [HE.out]; exact fres_of _ HS.out (Sim.refl _ _)⟩, ⟨by obtain ⟨k, e⟩ := HK.out; exact ⟨_, by rw [e, World.drewN_drewN]⟩⟩⟩
      case measure => simp [intOf]; omega
    · obtain rfl : j = n := by have := HJ.out; omega
      have HS2 : Aside0 (Sim .f32 s (sumF l)) := ⟨by have := HS.out; rw [HN.out, List.take_length] at this; exact this⟩
      clear HS
      go_wp2
      go_ret
      exact ⟨s, rfl, HS2.out, HK.out⟩

set_option maxHeartbeats 1000000 in
set_option maxRecDepth 100000 in
theorem SumNumbers_no (A : Option Addr) (c : Nat) (l : List Nat) (w : World) (hn : 256 < l.length) :
    Calls Try.prog 33 #[.slice A l.length c] w fun e w' => e = .returned (.tuple #[.float .f32 0, .bool false]) ∧ w = w' := by
  have h1 : 256 < (l.length : Int) := by omega
  go_enter Try.func33, Try.ntmps33
  go_wp2
  go_ret2
  exact ⟨rfl, rfl⟩

set_option maxHeartbeats 1000000 in
set_option maxRecDepth 100000 in
theorem SumNumbers_yes (A : Option Addr) (c : Nat) (l : List Nat) (w : World) (hr0 : FK.C w A l.length l) (hn : l.length ≤ 256) :
    Calls Try.prog 33 #[.slice A l.length c] w fun e w' => ∃ r, e = .returned (.tuple #[.float .f32 r, .bool true]) ∧ Sim .f32 r (sumF l) ∧ ∃ n, w' = w.drewN n := by
  have HR0 := Aside0.mk hr0
  clear hr0
  obtain ⟨n, hn'⟩ : ∃ n, n = l.length := ⟨_, rfl⟩
  have HN := Aside0.mk hn'
  rw [← hn'] at HR0 hn ⊢
  clear hn'
  have h1 : ¬ 256 < (n : Int) := by omega
  go_enter Try.func33, Try.ntmps33
  go_wp2
  go_loopw [4, 12] (fun v3 v4 w' => ∃ (s j : Nat), v3 = .float .f32 s ∧ v4 = .int .i64 j ∧ Aside0 (j ≤ n) ∧ Aside0 (Sim .f32 s (sumF (l.take j))) ∧ Aside0 (∃ k, w' = w.drewN k)) (fun _ v4 _ => n - (intOf v4).toNat)
  case atStart => exact ⟨0, 0, rfl, rfl, ⟨by omega⟩, ⟨.inl rfl⟩, ⟨0, rfl⟩⟩
  case round =>
    obtain ⟨s, j, rfl, rfl, HJ, HS, HK⟩ := hrel
    by_cases hlt : j < n
    · obtain ⟨ad, ea, hx⟩ := at_f32 HR0.out j hlt
      subst ea
      replace hx : wr.cell? (ad.add j) = some (.float .f32 (l.getD j 0)) := by obtain ⟨k, e⟩ := HK.out; rw [e]; exact hx
      have HE := Aside0.mk (sumF_step (l := l) (j := j) (by rw [← HN.out]; exact hlt))
      generalize l.getD j 0 = x at *
      go_wp2
      go_roundw
      case rel => exact ⟨_, j + 1, rfl, by go_num, ⟨by omega⟩, ⟨by rw [HE.out]; exact fres_of _ HS.out (Sim.refl _ _)⟩, ⟨by obtain ⟨k, e⟩ := HK.out; exact ⟨_, by rw [e, World.drewN_drewN]⟩⟩⟩
      case measure => simp [intOf]; omega
    · obtain rfl : j = n := by have := HJ.out; omega
      have HS2 : Aside0 (Sim .f32 s (sumF l)) := ⟨by have := HS.out; rw [HN.out, List.take_length] at this; exact this⟩
      clear HS
      go_wp2
      go_ret2
      exact ⟨s, rfl, HS2.out, HK.out⟩
end Go.Proofs.Ytgmioegepmoopaa
