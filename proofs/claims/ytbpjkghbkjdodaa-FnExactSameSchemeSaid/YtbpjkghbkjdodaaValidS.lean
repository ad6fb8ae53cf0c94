/- Valid schemes: what the program's ValidScheme and the reference's answer, for all arguments; the law's copy of a scheme and its size. -/
import Derived.Test.YtbpjkghbkjdodaaFinL
import Derived.Test.YtbpjkghbkjdodaaToF
import Derived.Test.YtbpjkghbkjdodaaScheme
namespace Go.Proofs.Ytbpjkghbkjdodaa
open Go.RowKit Go.Proofs.YtbpjkghbkjdodaaW.PrintWords Go.Proofs.YtbpjkghbkjdodaaW.PrintLast Fl

def overB (x : Nat) : Bool := finB x && (FloatKind.f32.format.order x 0 == some .gt)
def validB (l : List Nat) (x : Nat) : Bool := decide (1 ≤ l.length ∧ l.length ≤ 8) && (finL l && overB x)

theorem isOver_any (x : Nat) (w : World) : Calls Try.prog 56 #[.float .f32 x] w fun e w' => e = .returned (.bool (overB x)) ∧ ∃ n, w' = w.drewN n := by
  cases h : finB x with
  | true =>
    have H := Lib.hid (show overB x = (FloatKind.f32.format.order x 0 == some .gt) by unfold overB; rw [h]; rfl)
    go_enter Try.func56, Try.ntmps56
    go_wp2_with (go_at_call 77; refine (IsFinite_any _ _).mono ?_; rintro e w' ⟨rfl, n, rfl⟩)
    go_ret
    exact ⟨ret_bool H.out.symm, _, rfl⟩
  | false =>
    have H := Lib.hid (show overB x = false by unfold overB; rw [h]; rfl)
    go_enter Try.func56, Try.ntmps56
    go_wp2_with (go_at_call 77; refine (IsFinite_any _ _).mono ?_; rintro e w' ⟨rfl, n, rfl⟩)
    go_ret
    exact ⟨ret_bool H.out.symm, _, rfl⟩
theorem l02Above_any (x : Nat) (w : World) : Calls Try.prog 80 #[.float .f32 x] w fun e w' => e = .returned (.bool (overB x)) ∧ ∃ n, w' = w.drewN n := by
  cases h : finB x with
  | true =>
    have H := Lib.hid (show overB x = (FloatKind.f32.format.order x 0 == some .gt) by unfold overB; rw [h]; rfl)
    go_enter Try.func80, Try.ntmps80
    go_wp2_with (go_at_call 84; refine (l01Finite_any _ _).mono ?_; rintro e w' ⟨rfl, n, rfl⟩)
    go_ret
    exact ⟨ret_bool H.out.symm, _, rfl⟩
  | false =>
    have H := Lib.hid (show overB x = false by unfold overB; rw [h]; rfl)
    go_enter Try.func80, Try.ntmps80
    go_wp2_with (go_at_call 84; refine (l01Finite_any _ _).mono ?_; rintro e w' ⟨rfl, n, rfl⟩)
    go_ret
    exact ⟨ret_bool H.out.symm, _, rfl⟩
end Go.Proofs.Ytbpjkghbkjdodaa
