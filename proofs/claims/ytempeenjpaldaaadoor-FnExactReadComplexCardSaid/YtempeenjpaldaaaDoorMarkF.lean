/- The law's marks of a row of float32 numbers, markFloat32S and heldFloat32S. -/
import Derived.Test.YtempeenjpaldaaaDoorRowF
import Derived.Test.YtempeenjpaldaaaDoorChecked
namespace Go.Proofs.YtempeenjpaldaaaDoor
open Go.RowKit Go.Proofs.YtempeenjpaldaaaDoorW.PrintWords Go.Proofs.YtempeenjpaldaaaDoorW.PrintLast Fl
open Ieee
theorem isN_nearest (k : FloatKind) (neg : Bool) (m : Nat) (p : Int) : isN k (k.format.nearest neg m p) = false := by
  unfold Format.nearest
  split
  · exact isN_word k neg (Nat.zero_le _)
  · exact isN_word k neg (Nat.min_le_right ..)
theorem isN_ofInt (k : FloatKind) (n : Int) : isN k (floatOfInt k n) = false := isN_nearest k _ _ _

/-- the marks m, m + 1, .. -/
def marks (m : Int) (n : Nat) : List Nat := (List.range n).map fun i : Nat => floatOfInt .f32 (m + (i : Int))
theorem marks_length (m : Int) (n : Nat) : (marks m n).length = n := by simp [marks]
theorem marks_get {m : Int} {n i : Nat} (h : i < n) : (marks m n).getD i 0 = floatOfInt .f32 (m + i) := by
  unfold marks; rw [List.getD_eq_getElem?_getD]; simp [h]

theorem mark_step {l : List Nat} {m : Int} {j : Nat} (hj : j < l.length) : (marks m j ++ l.drop j).set j (floatOfInt .f32 (m + j)) = marks m (j + 1) ++ l.drop (j + 1) := by
  apply List.ext_getElem?
  intro i
  have hl : (marks m j ++ l.drop j).length = l.length := by simp [marks_length]; omega
  rcases Nat.lt_trichotomy i j with g | g | g
  · rw [List.getElem?_set_ne (by omega), List.getElem?_append_left (by simp [marks_length]; omega), List.getElem?_append_left (by simp [marks_length]; omega)]
    unfold marks; simp [g, show i < j + 1 by omega]
  · subst g
    rw [List.getElem?_set_self (by omega), List.getElem?_append_left (by simp [marks_length])]
    unfold marks; simp
  · rw [List.getElem?_set_ne (by omega), List.getElem?_append_right (by simp [marks_length]; omega), List.getElem?_append_right (by simp [marks_length]; omega)]
    simp only [marks_length, List.getElem?_drop]
    congr 1; omega

set_option maxHeartbeats 1000000 in
set_option maxRecDepth 100000 in
theorem markF_any (v : Value) (l : List Nat) (m : Int) (w : World) (base : Nat) (ok : Nat → Prop) (hr : FK.R 50 w base ok v l) (h0 : 0 ≤ m) (hm : m + l.length ≤ 1000000000000) :
    Calls Tryd.prog 16 #[v, .int .i64 m] w fun e w' => e = .returned (.int .i64 (m + l.length)) ∧ FK.R 50 w' base ok v (marks m l.length) ∧ w.grownBy w' v.ownBlock := by
  have HR := Aside0.mk hr
  obtain ⟨A, c, rfl, -, hC⟩ := Kd.R_reads hr
  clear hr
  have hmx := Kd.C_max hC
  clear hC
  go_enter Tryd.func16, Tryd.ntmps16
  go_wp2
  go_loopw [1, 5] (fun v1 v5 w' => ∃ j : Nat, v1 = .int .i64 (m + j) ∧ v5 = .int .i64 j ∧ Aside0 (j ≤ l.length) ∧ Aside0 (FK.R 50 w' base ok (.slice A l.length c) (marks m j ++ l.drop j)) ∧ Aside0 (w.grownBy w' (Value.slice A l.length c).ownBlock)) (fun _ v5 _ => l.length - (intOf v5).toNat)
  case atStart => exact ⟨0, by simp, rfl, ⟨by omega⟩, ⟨by simpa [marks] using HR.out⟩, ⟨World.grownBy.refl _ _⟩⟩
  case round =>
    obtain ⟨j, rfl, rfl, HJ, HO1, HG⟩ := hrel
    clear HR
    by_cases hlt : j < l.length
    · have hl2 : (marks m j ++ l.drop j).length = l.length := by simp [marks_length]; omega
      obtain ⟨go9, co9, eo9, gb9, gl9, cl9, HG9⟩ := Kd.R_form HO1.out (by omega)
      rw [hl2] at eo9
      injection eo9 with ea en ec
      subst ea ec
      have HO3 := HO1.out
      have hl3 := hl2.symm
      rw [hl3] at HO3
      obtain ⟨hy, hf⟩ := Kd.R_cell (0 : Nat) HO3 (j : Int) (by omega) (by omega)
      have HP := Kd.R_put HO3 (j : Int) (floatOfInt .f32 (m + j))
      simp only [Int.toNat_natCast] at hy hf HP
      rw [hl2, mark_step hlt] at HP
      have HP' := Aside0.mk HP
      clear HP hl2 hl3 gl9 HG9 HO1 gb9 HO3 en
      go_wp2
      go_roundw
      case rel => exact ⟨j + 1, by go_num, by go_num, ⟨by omega⟩, ⟨HP'.out.1⟩, ⟨HG.out.trans HP'.out.2⟩⟩
      case measure => simp [intOf]; omega
    · obtain rfl : j = l.length := by have := HJ.out; omega
      have HO2 : Aside0 (FK.R 50 wr base ok (.slice A l.length c) (marks m l.length)) := ⟨by simpa using HO1.out⟩
      clear HO1
      go_wp2
      go_ret
      exact ⟨rfl, HO2.out, HG.out⟩

set_option maxHeartbeats 1000000 in
set_option maxRecDepth 100000 in
theorem heldF_any (A : Option Addr) (c n : Nat) (m : Int) (w : World) (hr0 : FK.C w A n (marks m n)) (h0 : 0 ≤ m) (hm : m + n ≤ 1000000000000) :
    Calls Tryd.prog 17 #[.slice A n c, .int .i64 m] w fun e w' => e = .returned (.int .i64 (m + n)) ∧ w = w' := by
  have HR0 := Aside0.mk hr0
  clear hr0
  go_enter Tryd.func17, Tryd.ntmps17
  go_wp2
  go_loop [1, 5] (fun v1 v5 => ∃ j : Nat, v1 = .int .i64 (m + j) ∧ v5 = .int .i64 j ∧ Aside0 (j ≤ n)) (fun _ v5 => n - (intOf v5).toNat)
  case atStart => exact ⟨0, by simp, rfl, ⟨by omega⟩⟩
  case round =>
    obtain ⟨j, rfl, rfl, HJ⟩ := hrel
    by_cases hlt : j < n
    · obtain ⟨ad, ea, hx⟩ := at_f32 HR0.out j hlt
      subst ea
      rw [marks_get hlt] at hx
      have ho : FloatKind.f32.format.order (floatOfInt .f32 (m + j)) (floatOfInt .f32 (m + j)) = some .eq := order_self (isN_ofInt _ _)
      go_wp2
      go_round
      case rel => exact ⟨j + 1, by go_num, by go_num, ⟨by omega⟩⟩
      case measure => simp [intOf]; omega
    · obtain rfl : j = n := by have := HJ.out; omega
      go_wp2
      go_ret
      exact ⟨rfl, rfl⟩
end Go.Proofs.YtempeenjpaldaaaDoor
