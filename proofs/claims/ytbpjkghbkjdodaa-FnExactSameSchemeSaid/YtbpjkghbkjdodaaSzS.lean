/- The reference's ValidScheme, and the law's size of a scheme. -/
import Derived.Test.YtbpjkghbkjdodaaToS
namespace Go.Proofs.Ytbpjkghbkjdodaa
open Go.RowKit Go.Proofs.YtbpjkghbkjdodaaW.PrintWords Go.Proofs.YtbpjkghbkjdodaaW.PrintLast Fl
set_option maxHeartbeats 1000000 in
set_option maxRecDepth 100000 in
theorem specValid_any (A : Option Addr) (c x : Nat) (l : List Nat) (w : World) (hr0 : FK.C w A l.length l) :
    Calls Try.prog 22 #[.agg #[.slice A l.length c, .float .f32 x]] w fun e w' => e = .returned (.bool (validB l x)) ∧ Below w.heap.size w w' := by
  have HR0 := Aside0.mk hr0
  clear hr0
  go_enter Try.func22, Try.ntmps22
  go_wp2_with fail
  refine (l02Scheme_any A w.heap.size c x l _ (Kd.C_alloc HR0.out _) (by simp) (by simp)).mono ?_
  rintro e w1 ⟨rfl, bb⟩
  have B1 := Aside0.mk bb
  clear bb
  go_wp2
  go_ret
  exact ⟨rfl, Below.trans (below_alloc (Below.refl _ w) _) (B1.out.mono (by simp))⟩
set_option maxHeartbeats 1000000 in
set_option maxRecDepth 100000 in
theorem szScheme_any (A : Option Addr) (n c x : Nat) (left : Int) (w : World) (h0 : 0 ≤ left) (h1 : left ≤ 1048576) (hn : n ≤ 9223372036854775807) :
    Calls Try.prog 21 #[.agg #[.slice A n c, .float .f32 x], .int .i64 left] w fun e w' => e = .returned (.int .i64 (if (n : Int) ≤ left then left - n else -1)) ∧ Below w.heap.size w w' := by
  by_cases h : (n : Int) ≤ left
  · rw [if_pos h]
    go_enter Try.func21, Try.ntmps21
    go_wp2_with (go_at_call 42; go_in)
    go_ret
    exact ⟨rfl, by repeat (first | exact Below.refl _ _ | apply below_alloc)⟩
  · rw [if_neg h]
    go_enter Try.func21, Try.ntmps21
    go_wp2_with (go_at_call 42; go_in)
    go_ret
    exact ⟨rfl, by repeat (first | exact Below.refl _ _ | apply below_alloc)⟩
end Go.Proofs.Ytbpjkghbkjdodaa
