/- The body-less functions of package math that this program reaches: what the model says of them, at this translation's numbers. -/
import Derived.Test.YtempeenjpaldaaaDoorChecked
import Derived.Test.YtempeenjpaldaaaDoorFl
import Derived.KernelRfl
namespace Go.Proofs.YtempeenjpaldaaaDoor
open Go.RowKit Fl
@[go_sem] theorem ext_f32bits (b : Nat) (w : World) : (callFunc 73 #[.float .f32 b]).run Tryd.prog w = .ok (.value (.int .u32 b)) w := (run_callFunc_extern Tryd.func73 (by kernel_rfl) (by kernel_rfl) (by kernel_rfl) (e := Extern.MathFloatBits.float32bits) (by kernel_rfl) _ _).trans rfl
@[go_sem] theorem ext_f32frombits (b : Int) (w : World) : (callFunc 66 #[.int .u32 b]).run Tryd.prog w = .ok (.value (.float .f32 b.toNat)) w := (run_callFunc_extern Tryd.func66 (by kernel_rfl) (by kernel_rfl) (by kernel_rfl) (e := Extern.MathFloatBits.float32frombits) (by kernel_rfl) _ _).trans rfl
end Go.Proofs.YtempeenjpaldaaaDoor
