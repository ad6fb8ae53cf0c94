/- The body-less functions of package math that this program reaches: what the model says of them, at this translation's numbers. -/
import Derived.Test.YtmkbipplkjhpeaaChecked
import Derived.Test.YtmkbipplkjhpeaaFl
import Derived.KernelRfl
namespace Go.Proofs.Ytmkbipplkjhpeaa
open Go.RowKit Fl
@[go_sem] theorem ext_f32bits (b : Nat) (w : World) : (callFunc 29 #[.float .f32 b]).run Try.prog w = .ok (.value (.int .u32 b)) w := (run_callFunc_extern Try.func29 (by kernel_rfl) (by kernel_rfl) (by kernel_rfl) (e := Extern.MathFloatBits.float32bits) (by kernel_rfl) _ _).trans rfl
@[go_sem] theorem ext_f64bits (b : Nat) (w : World) : (callFunc 37 #[.float .f64 b]).run Try.prog w = .ok (.value (.int .u64 b)) w := (run_callFunc_extern Try.func37 (by kernel_rfl) (by kernel_rfl) (by kernel_rfl) (e := Extern.MathFloatBits.float64bits) (by kernel_rfl) _ _).trans rfl
@[go_sem] theorem ext_f64frombits (b : Int) (w : World) : (callFunc 36 #[.int .u64 b]).run Try.prog w = .ok (.value (.float .f64 b.toNat)) w := (run_callFunc_extern Try.func36 (by kernel_rfl) (by kernel_rfl) (by kernel_rfl) (e := Extern.MathFloatBits.float64frombits) (by kernel_rfl) _ _).trans rfl
end Go.Proofs.Ytmkbipplkjhpeaa
