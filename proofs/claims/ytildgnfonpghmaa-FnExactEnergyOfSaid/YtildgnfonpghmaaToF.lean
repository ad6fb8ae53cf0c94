/- The law's copy of a list of float32 numbers, toFloat32S: a new row with the same numbers. -/
import Derived.Test.YtildgnfonpghmaaRowF
import Derived.Test.YtildgnfonpghmaaChecked
namespace Go.Proofs.Ytildgnfonpghmaa
open Go.RowKit Go.Proofs.YtildgnfonpghmaaW.PrintWords Go.Proofs.YtildgnfonpghmaaW.PrintLast Fl
theorem infoF : (Try.prog.info? 23).map (fun i => (i.zero, i.size, i.bytes)) = some (some (.float .f32 0), 1, 4) := by kernel_rfl

theorem toF_step {l : List Nat} {j : Nat} (hj : j < l.length) : (l.take j ++ List.replicate (l.length - j) 0).set j (l.getD j 0) = l.take (j + 1) ++ List.replicate (l.length - (j + 1)) 0 := by
  apply List.ext_getElem?
  intro i
  have hl : (l.take j ++ List.replicate (l.length - j) 0).length = l.length := by simp; omega
  rcases Nat.lt_trichotomy i j with g | g | g
  · rw [List.getElem?_set_ne (by omega), List.getElem?_append_left (by simp; omega), List.getElem?_append_left (by simp; omega), List.getElem?_take_of_lt g, List.getElem?_take_of_lt (by omega)]
  · subst g
    rw [List.getElem?_set_self (by omega), List.getElem?_append_left (by simp; omega), List.getElem?_take_of_lt (by omega), List.getD_eq_getElem?_getD, List.getElem?_eq_getElem hj]; rfl
  · rw [List.getElem?_set_ne (by omega), List.getElem?_append_right (by simp; omega), List.getElem?_append_right (by simp; omega)]
    simp only [List.length_take, List.getElem?_replicate]
    have e1 : i - min j l.length = i - j := by omega
    have e2 : i - min (j + 1) l.length = i - (j + 1) := by omega
    rw [e1, e2]
    by_cases h : i < l.length
    · rw [if_pos (by omega), if_pos (by omega)]
    · rw [if_neg (by omega), if_neg (by omega)]

set_option maxHeartbeats 1000000 in
set_option maxRecDepth 100000 in
theorem toF_any (A : Option Addr) (c : Nat) (l : List Nat) (w : World) (hr0 : FK.C w A l.length l) (hn : l.length ≤ 1048576) :
    Calls Try.prog 5 #[.slice A l.length c] w fun e w' => ∃ v : Value, e = .returned v ∧ FK.R 23 w' w.heap.size (fun _ => True) v l ∧ Below w.heap.size w w' := by
  have HR0 := Aside0.mk hr0
  clear hr0
  have HB := Aside0.mk (Below.refl w.heap.size w)
  have hd0 : decide (0 ≤ (l.length : Int)) = true := decide_eq_true (by omega)
  have hd1 : decide (((l.length : Int) : Int).toNat ≤ 35184372088832) = true := decide_eq_true (by omega)
  go_enter Try.func5, Try.ntmps5
  go_wp2_with (first | ((with_reducible refine gate_dst (N := 7) rfl ?_); refine Kd.R_make FK _ 23 rfl (N := 7) rfl 22 _ _ rfl (l.length : Int) rfl rfl Try.underlying22 (.float .f32 0) 4 infoF rfl (by decide) (by omega) 0 (ok := fun _ => True) (okp := fun _ => True) rfl (fun _ hk => hk) trivial (by omega) (by omega) (Below.refl _ _) (Nat.le_refl _) ?_; intro v106 w4 ho5 hb hg_ hnew_; clear hg_ hnew_; have HO := Aside0.mk ho5; have HB2 := Aside0.mk hb; clear ho5 hb HB))
  go_loopw [4] (fun v4 w' => ∃ j : Nat, v4 = .int .i64 j ∧ Aside0 (j ≤ l.length) ∧ Aside0 (FK.R 23 w' w.heap.size (fun _ => True) v106 (l.take j ++ List.replicate (l.length - j) 0)) ∧ Aside0 (Below w.heap.size w w')) (fun v4 _ => l.length - (intOf v4).toNat)
  case atStart => exact ⟨0, rfl, ⟨by omega⟩, ⟨by simpa using HO.out⟩, HB2⟩
  case round =>
    obtain ⟨j, rfl, HJ, HO1, HB⟩ := hrel
    clear HO HB2
    by_cases hlt : j < l.length
    · obtain ⟨ad, ea, hx⟩ := at_f32 HR0.out j hlt
      subst ea
      have hx' := (HB.out.cell (World.block_lt_of_cell? w _ hx)).trans hx
      clear hx
      have hl2 : (l.take j ++ List.replicate (l.length - j) 0).length = l.length := by simp; omega
      obtain ⟨go9, co9, eo9, gb9, gl9, cl9, HG9⟩ := Kd.R_form HO1.out (by omega)
      have HO3 := HO1.out
      rw [eo9] at HO3
      obtain ⟨hy, hf⟩ := Kd.R_cell (0 : Nat) HO3 (j : Int) (by omega) (by omega)
      have HP := Kd.R_put HO3 (j : Int) (l.getD j 0)
      simp only [Int.toNat_natCast] at hy hf HP
      rw [hl2, toF_step hlt] at HP
      rw [hl2] at eo9
      have HP' := Aside0.mk HP
      have GB := Aside0.mk gb9
      clear HP hl2 gl9 HG9 HO1 gb9 HO3
      subst eo9
      go_wp2
      go_roundw
      case rel => exact ⟨j + 1, by go_num, ⟨by omega⟩, ⟨by simpa [List.getD_eq_getElem?_getD, List.getElem?_eq_getElem hlt] using HP'.out.1⟩, ⟨below_set HB.out GB.out⟩⟩
      case measure => simp [intOf]; omega
    · obtain rfl : j = l.length := by have := HJ.out; omega
      have HO2 : Aside0 (FK.R 23 wr w.heap.size (fun _ => True) v106 l) := ⟨by simpa using HO1.out⟩
      clear HO1
      go_wp2
      go_ret
      exact ⟨_, rfl, HO2.out, HB.out⟩
end Go.Proofs.Ytildgnfonpghmaa
