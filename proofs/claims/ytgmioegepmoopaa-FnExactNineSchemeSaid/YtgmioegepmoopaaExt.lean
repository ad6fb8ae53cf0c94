/- The body-less functions of package math that this program reaches: what the model says of them, at this translation's numbers. -/
import Derived.Test.YtgmioegepmoopaaChecked
import Derived.Test.YtgmioegepmoopaaFl
import Derived.KernelRfl
namespace Go.Proofs.Ytgmioegepmoopaa
open Go.RowKit Fl
@[go_sem] theorem ext_f32bits (b : Nat) (w : World) : (callFunc 78 #[.float .f32 b]).run Try.prog w = .ok (.value (.int .u32 b)) w := (run_callFunc_extern Try.func78 (by kernel_rfl) (by kernel_rfl) (by kernel_rfl) (e := Extern.MathFloatBits.float32bits) (by kernel_rfl) _ _).trans rfl
@[go_sem] theorem ext_f64bits (b : Nat) (w : World) : (callFunc 75 #[.float .f64 b]).run Try.prog w = .ok (.value (.int .u64 b)) w := (run_callFunc_extern Try.func75 (by kernel_rfl) (by kernel_rfl) (by kernel_rfl) (e := Extern.MathFloatBits.float64bits) (by kernel_rfl) _ _).trans rfl
@[go_sem] theorem ext_f64frombits (b : Int) (w : World) : (callFunc 74 #[.int .u64 b]).run Try.prog w = .ok (.value (.float .f64 b.toNat)) w := (run_callFunc_extern Try.func74 (by kernel_rfl) (by kernel_rfl) (by kernel_rfl) (e := Extern.MathFloatBits.float64frombits) (by kernel_rfl) _ _).trans rfl
@[go_sem] theorem ext_f32frombits (b : Int) (w : World) : (callFunc 52 #[.int .u32 b]).run Try.prog w = .ok (.value (.float .f32 b.toNat)) w := (run_callFunc_extern Try.func52 (by kernel_rfl) (by kernel_rfl) (by kernel_rfl) (e := Extern.MathFloatBits.float32frombits) (by kernel_rfl) _ _).trans rfl
end Go.Proofs.Ytgmioegepmoopaa
