/- The law's marks of a row of float32 numbers, markFloat32S and heldFloat32S. -/
import Derived.Test.YtempeenjpaldaaaGreatDoorRowF
import Derived.Test.YtempeenjpaldaaaGreatDoorChecked
namespace Go.Proofs.YtempeenjpaldaaaGreatDoor
open Go.RowKit Go.Proofs.YtempeenjpaldaaaGreatDoorW.PrintWords Go.Proofs.YtempeenjpaldaaaGreatDoorW.PrintLast Fl
open Ieee
theorem isN_nearest (k : FloatKind) (neg : Bool) (m : Nat) (p : Int) : isN k (k.format.nearest neg m p) = false := by
  unfold Format.nearest
  split
  · exact isN_word k neg (Nat.zero_le _)
  · exact isN_word k neg (Nat.min_le_right ..)
theorem isN_ofInt (k : FloatKind) (n : Int) : isN k (floatOfInt k n) = false := isN_nearest k _ _ _

/-- the marks m, m + 1, .. -/
def marks (m : Int) (n : Nat) : List Nat := (List.range n).map fun i : Nat => floatOfInt .f32 (m + (i : Int))
theorem marks_length (m : Int) (n : Nat) : (marks m n).length = n := by simp [marks]
theorem marks_get {m : Int} {n i : Nat} (h : i < n) : (marks m n).getD i 0 = floatOfInt .f32 (m + i) := by
  unfold marks; rw [List.getD_eq_getElem?_getD]; simp [h]

theorem mark_step {l : List Nat} {m : Int} {j : Nat} (hj : j < l.length) : (marks m j ++ l.drop j).set j (floatOfInt .f32 (m + j)) = marks m (j + 1) ++ l.drop (j + 1) := by
  apply List.ext_getElem?
  intro i
  have hl : (marks m j ++ l.drop j).length = l.length := by simp [marks_length]; omega
  rcases Nat.lt_trichotomy i j with g | g | g
  · rw [List.getElem?_set_ne (by omega), List.getElem?_append_left (by simp [marks_length]; omega), List.getElem?_append_left (by simp [marks_length]; omega)]
    unfold marks; simp [g, show i < j + 1 by omega]
  · subst g
    rw [List.getElem?_set_self (by omega), List.getElem?_append_left (by simp [marks_length])]
    unfold marks; simp
  · rw [List.getElem?_set_ne (by omega), List.getElem?_append_right (by simp [marks_length]; omega), List.getElem?_append_right (by simp [marks_length]; omega)]
    simp only [marks_length, List.getElem?_drop]
    congr 1; omega

end Go.Proofs.YtempeenjpaldaaaGreatDoor
