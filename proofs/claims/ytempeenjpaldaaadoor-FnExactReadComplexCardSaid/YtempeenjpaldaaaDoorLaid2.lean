/- What the listed variables give the walks behind ReadDecimal and Split. -/
import Derived.Test.YtempeenjpaldaaaDoorLaid
import Derived.Test.YtempeenjpaldaaaDoorSDec3
import Derived.LaidLaws
import Derived.Test.YtempeenjpaldaaaDoorShelfS
namespace Go.Proofs.YtempeenjpaldaaaDoor.SDec
open Go.ChangeShapes Go.WideShapes Go.ChangeAt Go.RowKit

theorem star134 : "*" ++ "errors.errorString" = "*errors.errorString" := by decide
theorem row134 (u : TypeId) (h : Tryd.prog.typeName? 3 u = some "*errors.errorString") : u = 134 :=
  typeName_ptr_named (nm := "errors.errorString") (by rw [star134]; kernel_rfl) (by kernel_rfl) (by decide) u (by rw [star134]; exact h)
theorem maxLen_of {W : World} (h : W.ShapedOpen Tryd.prog) : ∃ m, W.cell? ⟨4, 0, none⟩ = some (.int .i64 m) :=
  Tryd.laysM146.s1_3 W h
theorem te_of_tail {W : World} (hR : laidMet Tryd.prog [("strconv.ErrRange", Rows.laid_strconv_ErrRange), ("strconv.ErrSyntax", Rows.laid_strconv_ErrSyntax)] W) (hT : TD W) (h : W.ShapedOpen Tryd.prog) : TE W := by
  obtain ⟨a, s, h1, -, -, -⟩ := laid_sentinel (g := 3) (ti := 65) (tp := 134) (te := 136) (ts := 9) hR (by kernel_rfl) (by kernel_rfl) Tryd.underlying65 row134 Tryd.underlying134 Tryd.underlying136 rfl rfl Tryd.underlying9 (by kernel_rfl) (by kernel_rfl)
  obtain ⟨b, t, h2, -, -, -⟩ := laid_sentinel (g := 2) (ti := 65) (tp := 134) (te := 136) (ts := 9) hR.tail (by kernel_rfl) (by kernel_rfl) Tryd.underlying65 row134 Tryd.underlying134 Tryd.underlying136 rfl rfl Tryd.underlying9 (by kernel_rfl) (by kernel_rfl)
  exact ⟨hT, ⟨_, _, h2⟩, ⟨_, _, h1⟩, maxLen_of h⟩
theorem laid_gives_FnExactReadDecimal {W : World} (h : laidMetH Tryd.prog Rows.fnExactReadDecimalRow.laid W) (hS : W.ShapedOpen Tryd.prog) : TE W := by
  rw [MakeChecks.laidMetH_plain _ _ _ (by kernel_rfl)] at h
  exact te_of_tail h.tail.tail.tail (td_of_head h.tail.tail) hS
end Go.Proofs.YtempeenjpaldaaaDoor.SDec
