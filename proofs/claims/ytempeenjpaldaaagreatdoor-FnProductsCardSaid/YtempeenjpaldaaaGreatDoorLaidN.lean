/- What the listed variables give the walks behind NumbersText. -/
import Derived.Test.YtempeenjpaldaaaGreatDoorSDecL
import Derived.Test.YtempeenjpaldaaaGreatDoorSNum1
namespace Go.Proofs.YtempeenjpaldaaaGreatDoor.SNum
open Go.ChangeShapes Go.WideShapes Go.ChangeAt Go.RowKit
/-- the library's table -/
def bjTab : List Int := [0, 1, 56, 2, 57, 49, 28, 3, 61, 58, 42, 50, 38, 29, 17, 4, 62, 47, 59, 36, 45, 43, 51, 22, 53, 39, 33, 30, 24, 18, 12, 5, 63, 55, 48, 27, 60, 41, 37, 16, 46, 35, 44, 21, 52, 32, 23, 11, 54, 26, 40, 15, 34, 20, 31, 10, 25, 14, 19, 9, 13, 8, 7, 6]
theorem bj_is : (Rows.laid_math_bits_deBruijn64tab : DataW Unit) = Lib.tabData .u8 bjTab := rfl
theorem th_of_head {rest : List (String × DataW Unit)} {W : World} (h : laidMet Tryz.prog (("math/bits.deBruijn64tab", Rows.laid_math_bits_deBruijn64tab) :: rest) W) : TH W := by
  rw [bj_is] at h
  have ht : Lib.TabIs Tryz.prog W "math/bits.deBruijn64tab" .u8 bjTab := Lib.tabIs_of_head (g := 6) (t := 157) (e := 5) (n := 64) (by kernel_rfl) (by kernel_rfl) Tryz.underlying157 Tryz.underlying5 (by kernel_rfl) (by kernel_rfl) h
  have hc := ht.cell (by kernel_rfl : Tryz.prog.globalNamed "math/bits.deBruijn64tab" = some 6) 15 (by decide)
  exact hc
end Go.Proofs.YtempeenjpaldaaaGreatDoor.SNum
