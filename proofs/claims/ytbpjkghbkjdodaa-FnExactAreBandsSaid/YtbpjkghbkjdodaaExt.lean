/- The body-less functions of package math that this program reaches: what the model says of them, at this translation's numbers. -/
import Derived.Test.YtbpjkghbkjdodaaChecked
import Derived.Test.YtbpjkghbkjdodaaFl
import Derived.KernelRfl
namespace Go.Proofs.Ytbpjkghbkjdodaa
open Go.RowKit Fl
@[go_sem] theorem ext_f32bits (b : Nat) (w : World) : (callFunc 100 #[.float .f32 b]).run Try.prog w = .ok (.value (.int .u32 b)) w := (run_callFunc_extern Try.func100 (by kernel_rfl) (by kernel_rfl) (by kernel_rfl) (e := Extern.MathFloatBits.float32bits) (by kernel_rfl) _ _).trans rfl
@[go_sem] theorem ext_f64bits (b : Nat) (w : World) : (callFunc 96 #[.float .f64 b]).run Try.prog w = .ok (.value (.int .u64 b)) w := (run_callFunc_extern Try.func96 (by kernel_rfl) (by kernel_rfl) (by kernel_rfl) (e := Extern.MathFloatBits.float64bits) (by kernel_rfl) _ _).trans rfl
@[go_sem] theorem ext_f32frombits (b : Int) (w : World) : (callFunc 104 #[.int .u32 b]).run Try.prog w = .ok (.value (.float .f32 b.toNat)) w := (run_callFunc_extern Try.func104 (by kernel_rfl) (by kernel_rfl) (by kernel_rfl) (e := Extern.MathFloatBits.float32frombits) (by kernel_rfl) _ _).trans rfl
end Go.Proofs.Ytbpjkghbkjdodaa
