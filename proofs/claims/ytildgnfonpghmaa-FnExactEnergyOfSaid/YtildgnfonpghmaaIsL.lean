/- The program's test of a list, IsList, for all arguments. -/
import Derived.Test.YtildgnfonpghmaaFinL
namespace Go.Proofs.Ytildgnfonpghmaa
open Go.RowKit Go.Proofs.YtildgnfonpghmaaW.PrintWords Go.Proofs.YtildgnfonpghmaaW.PrintLast Fl
def isListB (l : List Nat) : Bool := decide (1 ≤ l.length ∧ l.length ≤ 128) && finL l
set_option maxHeartbeats 1000000 in
set_option maxRecDepth 100000 in
theorem IsList_any (A : Option Addr) (c : Nat) (l : List Nat) (w : World) (hr0 : FK.C w A l.length l) (hc : l.length ≤ c) :
    Calls Try.prog 12 #[.slice A l.length c] w fun e w' => e = .returned (.bool (isListB l)) ∧ Below w.heap.size w w' := by
  have HR0 := Aside0.mk hr0
  have HC := Aside0.mk hc
  have hmx := Kd.C_max hr0
  clear hr0 hc
  by_cases h1 : 1 ≤ l.length
  · by_cases h2 : l.length ≤ 128
    · have e1 : isListB l = finL l := by unfold isListB; rw [decide_eq_true ⟨h1, h2⟩]; rfl
      have h1' : decide (1 ≤ (l.length : Int)) = true := by simp; omega
      have h2' : decide ((l.length : Int) ≤ 128) = true := by simp; omega
      rw [e1]; clear e1 h1 h2
      go_enter Try.func12, Try.ntmps12
      go_wp2_with (go_at_call 17; go_in)
      refine (areFinite_any (some ⟨w.heap.size, 0, none⟩) 1 [l] _ (one_row (Kd.C_alloc HR0.out _) HC.out (by simp))).mono ?_
      rintro e w' ⟨rfl, n, rfl⟩
      go_wp2
      go_ret
      exact ⟨ret_bool (by simp), below_drewN (below_alloc (Below.refl _ _) _) _⟩
    · have e1 : isListB l = false := by unfold isListB; rw [decide_eq_false (by omega)]; rfl
      have h1' : decide (1 ≤ (l.length : Int)) = true := by simp; omega
      have h2' : decide ((l.length : Int) ≤ 128) = false := by simp; omega
      rw [e1]; clear e1 h1 h2
      go_enter Try.func12, Try.ntmps12
      go_wp2
      go_ret
      exact ⟨rfl, Below.refl _ _⟩
  · have e1 : isListB l = false := by unfold isListB; rw [decide_eq_false (by omega)]; rfl
    have h1' : decide (1 ≤ (l.length : Int)) = false := by simp; omega
    rw [e1]; clear e1 h1
    go_enter Try.func12, Try.ntmps12
    go_wp2
    go_ret
    exact ⟨rfl, Below.refl _ _⟩

end Go.Proofs.Ytildgnfonpghmaa
