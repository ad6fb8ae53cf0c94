/- The law's test of two lists of float32 numbers, eqFloat32S: true of two lists that are the same but for which NaNs. -/
import Derived.Test.YtildgnfonpghmaaRowF
import Derived.Test.YtildgnfonpghmaaSame
namespace Go.Proofs.Ytildgnfonpghmaa
open Go.RowKit Go.Proofs.YtildgnfonpghmaaW.PrintWords Go.Proofs.YtildgnfonpghmaaW.PrintLast Fl

/-- the same numbers, but for which NaNs -/
def SimL (l m : List Nat) : Prop := l.length = m.length ∧ ∀ i, Sim .f32 (l.getD i 0) (m.getD i 0)
theorem SimL.refl (l : List Nat) : SimL l l := ⟨rfl, fun _ => Sim.refl _ _⟩

set_option maxHeartbeats 1000000 in
set_option maxRecDepth 100000 in
theorem eqF_any (A B : Option Addr) (c d : Nat) (l m : List Nat) (w : World) (hr0 : FK.C w A l.length l) (hr1 : FK.C w B m.length m) (hs : SimL l m) :
    Calls Try.prog 8 #[.slice A l.length c, .slice B m.length d] w fun e w' => e = .returned (.bool true) ∧ ∃ n, w' = w.drewN n := by
  have HR0 := Aside0.mk hr0
  have HR1 := Aside0.mk hr1
  have HS := Aside0.mk hs.2
  have hmx := Kd.C_max hr0
  obtain ⟨n, hn⟩ : ∃ n, n = l.length := ⟨_, rfl⟩
  have hm : m.length = n := by rw [hn]; exact hs.1.symm
  rw [hm] at HR1 ⊢
  rw [← hn] at HR0 hmx ⊢
  clear hr0 hr1 hs hm hn
  go_enter Try.func8, Try.ntmps8
  go_wp2
  go_loopw [5] (fun v5 w' => ∃ j : Nat, v5 = .int .i64 j ∧ Aside0 (j ≤ n) ∧ Aside0 (∃ k, w' = w.drewN k)) (fun v5 _ => n - (intOf v5).toNat)
  case atStart => exact ⟨0, rfl, ⟨by omega⟩, ⟨0, rfl⟩⟩
  case round =>
    obtain ⟨j, rfl, HJ, HK⟩ := hrel
    by_cases hlt : j < n
    · obtain ⟨ad, ea, hx⟩ := at_f32 HR0.out j hlt
      obtain ⟨bd, eb, hy⟩ := at_f32 HR1.out j hlt
      subst ea eb
      replace hx : wr.cell? (ad.add j) = some (.float .f32 (l.getD j 0)) := by obtain ⟨k, e⟩ := HK.out; rw [e]; exact hx
      replace hy : wr.cell? (bd.add j) = some (.float .f32 (m.getD j 0)) := by obtain ⟨k, e⟩ := HK.out; rw [e]; exact hy
      have hsj := HS.out j
      generalize l.getD j 0 = x at *
      generalize m.getD j 0 = y at *
      clear HS
      by_cases hnx : isN .f32 x = true
      · have hny : isN .f32 y = true := by rw [← hsj.isN_eq]; exact hnx
        clear hsj
        go_wp2_with fail
        go_region_with (go_at_call 7; refine (sameFloat_any _ _ (.inr ⟨cres_nan _ (by decide) hnx, cres_nan _ (by decide) hny⟩) _).mono ?_; rintro e w' ⟨rfl, n, rfl⟩)
        all_goals
          go_wp2
          go_roundw
          case rel => exact ⟨j + 1, by go_num, ⟨by omega⟩, ⟨by obtain ⟨k, e⟩ := HK.out; exact ⟨_, by rw [e, World.drewN_drewN]⟩⟩⟩
          case measure => simp [intOf]; omega
      · obtain rfl : x = y := by
          rcases hsj with h | ⟨h, _⟩
          · exact h
          · exact absurd h hnx
        clear hsj
        obtain ⟨r, hr⟩ : ∃ r, floatToFloatBits .f32 x .f64 = some r := by
          cases h : floatToFloatBits .f32 x .f64 with
          | some r => exact ⟨r, rfl⟩
          | none => exact absurd (widen_none h) hnx
        have hc1 : ∀ w, cres .f32 x .f64 w = r := fun w => cres_some w hr
        have hc2 : ccnt .f32 x .f64 = 0 := by unfold ccnt; rw [hr]; rfl
        clear hr hnx
        go_wp2_with fail
        go_quiet ((go_at_call 7; exact Calls.quiet_of (sameFloat_any _ _ (Sim.refl _ _) _)))
        go_wp2
        go_roundw
        case rel => exact ⟨j + 1, by go_num, ⟨by omega⟩, ⟨by obtain ⟨k, e⟩ := HK.out; exact ⟨_, by rw [e, World.drewN_drewN]⟩⟩⟩
        case measure => simp [intOf]; omega
    · obtain rfl : j = n := by have := HJ.out; omega
      go_wp2
      go_ret
      exact ⟨rfl, HK.out⟩
end Go.Proofs.Ytildgnfonpghmaa
