/- What the listed variables give the walks behind ReadNumbers. -/
import Derived.Test.YtempeenjpaldaaaDoorLaid3
import Derived.Test.YtempeenjpaldaaaDoorLaidN
import Derived.Test.YtempeenjpaldaaaDoorSNum2
namespace Go.Proofs.YtempeenjpaldaaaDoor.SNum
open Go.ChangeShapes Go.WideShapes Go.ChangeAt Go.RowKit Go.Proofs.YtempeenjpaldaaaDoor.SDec
theorem laid_gives_FnExactReadNumbers {W : World} (h : laidMetH Tryd.prog Rows.fnExactReadNumbersRow.laid W) (hS : W.ShapedOpen Tryd.prog) : TR W := by
  rw [MakeChecks.laidMetH_plain _ _ _ (by kernel_rfl)] at h
  have h5 := h.tail.tail.tail.tail
  obtain ⟨b, t, h2, -, -, -⟩ := laid_sentinel (g := 2) (ti := 65) (tp := 134) (te := 136) (ts := 9) h5.tail (by kernel_rfl) (by kernel_rfl) Tryd.underlying65 row134 Tryd.underlying134 Tryd.underlying136 rfl rfl Tryd.underlying9 (by kernel_rfl) (by kernel_rfl)
  have h3 := World.var?_cell (by kernel_rfl : Tryd.prog.globalNamed "strconv.ErrSyntax" = some 2) h2 0
  exact ⟨th_of_head h.tail, ⟨_, _, by simpa using h3⟩, maxLen_of hS⟩
end Go.Proofs.YtempeenjpaldaaaDoor.SNum
