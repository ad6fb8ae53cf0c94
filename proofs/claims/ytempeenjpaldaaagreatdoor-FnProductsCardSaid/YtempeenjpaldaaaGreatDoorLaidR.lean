/- What the listed variables give the walks behind ReadNumbers. -/
import Derived.Test.YtempeenjpaldaaaGreatDoorSDecL
import Derived.Test.YtempeenjpaldaaaGreatDoorLaidN
import Derived.Test.YtempeenjpaldaaaGreatDoorSNum2
namespace Go.Proofs.YtempeenjpaldaaaGreatDoor.SNum
open Go.ChangeShapes Go.WideShapes Go.ChangeAt Go.RowKit Go.Proofs.YtempeenjpaldaaaGreatDoor.SDec
theorem laid_gives_FnNumbers {W : World} (h : laidMetH Tryz.prog Rows.fnNumbersRow.laid W) (hS : W.ShapedOpen Tryz.prog) : TR W := by
  rw [MakeChecks.laidMetH_plain _ _ _ (by kernel_rfl)] at h
  have h5 := h.tail.tail.tail.tail
  obtain ⟨b, t, h2, -, -, -⟩ := laid_sentinel (g := 2) (ti := 98) (tp := 153) (te := 155) (ts := 9) h5.tail (by kernel_rfl) (by kernel_rfl) Tryz.underlying98 row134 Tryz.underlying153 Tryz.underlying155 rfl rfl Tryz.underlying9 (by kernel_rfl) (by kernel_rfl)
  have h3 := World.var?_cell (by kernel_rfl : Tryz.prog.globalNamed "strconv.ErrSyntax" = some 2) h2 0
  exact ⟨th_of_head h.tail, ⟨_, _, by simpa using h3⟩, maxLen_of hS⟩
end Go.Proofs.YtempeenjpaldaaaGreatDoor.SNum
