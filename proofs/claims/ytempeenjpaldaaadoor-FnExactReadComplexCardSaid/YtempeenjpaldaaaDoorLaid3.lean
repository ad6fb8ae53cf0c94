/- What the listed variables give the walks behind ReadList. -/
import Derived.Test.YtempeenjpaldaaaDoorLaid2
namespace Go.Proofs.YtempeenjpaldaaaDoor.SDec
open Go.ChangeShapes Go.WideShapes Go.ChangeAt Go.RowKit
/-- the start: the heap that the program's own text lays, with the library's great table -/
noncomputable def laidStartP (os : Os) : World :=
  let w0 := World.doorLaid Tryd.prog 72 os
  { w0 with heap := w0.heap.modify 7 fun
      | .cells _ t frozen => .cells (Go.Pinned.utf8FirstZ.map fun n : Nat => Value.int .u8 (n : Int)).toArray t frozen
      | o => o }
theorem laid_gives_FnExactReadList {W : World} (h : laidMetH Tryd.prog Rows.fnExactReadListRow.laid W) (hS : W.ShapedOpen Tryd.prog) : TE W := by
  rw [MakeChecks.laidMetH_plain _ _ _ (by kernel_rfl)] at h
  have h5 := h.tail.tail.tail.tail
  obtain ⟨a, s, h1, -, -, -⟩ := laid_sentinel (g := 3) (ti := 65) (tp := 134) (te := 136) (ts := 9) h5 (by kernel_rfl) (by kernel_rfl) Tryd.underlying65 row134 Tryd.underlying134 Tryd.underlying136 rfl rfl Tryd.underlying9 (by kernel_rfl) (by kernel_rfl)
  obtain ⟨b, t, h2, -, -, -⟩ := laid_sentinel (g := 2) (ti := 65) (tp := 134) (te := 136) (ts := 9) h5.tail (by kernel_rfl) (by kernel_rfl) Tryd.underlying65 row134 Tryd.underlying134 Tryd.underlying136 rfl rfl Tryd.underlying9 (by kernel_rfl) (by kernel_rfl)
  exact ⟨td_of_head h.tail.tail, ⟨_, _, h2⟩, ⟨_, _, h1⟩, maxLen_of hS⟩
end Go.Proofs.YtempeenjpaldaaaDoor.SDec
