/- This proves that the law FnExactIsList returns true for every list of float32 numbers: the program's IsList and the reference's answer the same, and leave the list alone. No condition. -/
import Derived.Test.YtgmioegepmoopaaRows
import Derived.Test.YtgmioegepmoopaaFinL
import Derived.Test.YtgmioegepmoopaaToF
import Derived.Test.YtgmioegepmoopaaEqF
import Derived.ProofKit
import Derived.OpenShut
import Derived.ShutString
import Derived.ChangeOld
import Derived.Below
namespace Go.Proofs.Ytgmioegepmoopaa.fnExactIsList
open Go.ChangeShapes Go.WideShapes Go.ChangeAt
open Go.RowKit Go.Proofs.YtgmioegepmoopaaW.PrintWords Go.Proofs.YtgmioegepmoopaaW.PrintLast Fl

def isListB (l : List Nat) : Bool := decide (1 ≤ l.length ∧ l.length ≤ 128) && finL l

set_option maxHeartbeats 1000000 in
set_option maxRecDepth 100000 in
theorem specIs_any (A : Option Addr) (c : Nat) (l : List Nat) (w : World) (hr0 : FK.C w A l.length l) :
    Calls Try.prog 38 #[.slice A l.length c] w fun e w' => e = .returned (.bool (isListB l)) ∧ ∃ n, w' = w.drewN n := by
  have HR0 := Aside0.mk hr0
  have hmx := Kd.C_max hr0
  clear hr0
  by_cases h1 : 1 ≤ l.length
  · by_cases h2 : l.length ≤ 128
    · have e1 : isListB l = finL l := by unfold isListB; rw [decide_eq_true ⟨h1, h2⟩]; rfl
      have h1' : decide (1 ≤ (l.length : Int)) = true := by simp; omega
      have h2' : decide ((l.length : Int) ≤ 128) = true := by simp; omega
      rw [e1]; clear e1 h1 h2
      go_enter Try.func38, Try.ntmps38
      go_wp2_with (go_at_call 65; go_in)
      refine (l02Finite_any A c l _ HR0.out).mono ?_
      rintro e w' ⟨rfl, n, rfl⟩
      go_wp2
      go_ret
      exact ⟨rfl, _, rfl⟩
    · have e1 : isListB l = false := by unfold isListB; rw [decide_eq_false (by omega)]; rfl
      have h1' : decide (1 ≤ (l.length : Int)) = true := by simp; omega
      have h2' : decide ((l.length : Int) ≤ 128) = false := by simp; omega
      rw [e1]; clear e1 h1 h2
      go_enter Try.func38, Try.ntmps38
      go_wp2
      go_ret
      exact ⟨rfl, 0, rfl⟩
  · have e1 : isListB l = false := by unfold isListB; rw [decide_eq_false (by omega)]; rfl
    have h1' : decide (1 ≤ (l.length : Int)) = false := by simp; omega
    rw [e1]; clear e1 h1
    go_enter Try.func38, Try.ntmps38
    go_wp2
    go_ret
    exact ⟨rfl, 0, rfl⟩

set_option maxHeartbeats 1000000 in
set_option maxRecDepth 100000 in
theorem IsList_any (A : Option Addr) (c : Nat) (l : List Nat) (w : World) (hr0 : FK.C w A l.length l) (hc : l.length ≤ c) :
    Calls Try.prog 39 #[.slice A l.length c] w fun e w' => e = .returned (.bool (isListB l)) ∧ Below w.heap.size w w' := by
  have HR0 := Aside0.mk hr0
  have HC := Aside0.mk hc
  have hmx := Kd.C_max hr0
  clear hr0 hc
  by_cases h1 : 1 ≤ l.length
  · by_cases h2 : l.length ≤ 128
    · have e1 : isListB l = finL l := by unfold isListB; rw [decide_eq_true ⟨h1, h2⟩]; rfl
      have h1' : decide (1 ≤ (l.length : Int)) = true := by simp; omega
      have h2' : decide ((l.length : Int) ≤ 128) = true := by simp; omega
      rw [e1]; clear e1 h1 h2
      go_enter Try.func39, Try.ntmps39
      go_wp2_with (go_at_call 51; go_in)
      refine (areFinite_any (some ⟨w.heap.size, 0, none⟩) 1 [l] _ (one_row (Kd.C_alloc HR0.out _) HC.out (by simp))).mono ?_
      rintro e w' ⟨rfl, n, rfl⟩
      go_wp2
      go_ret
      exact ⟨ret_bool (by simp), below_drewN (below_alloc (Below.refl _ _) _) _⟩
    · have e1 : isListB l = false := by unfold isListB; rw [decide_eq_false (by omega)]; rfl
      have h1' : decide (1 ≤ (l.length : Int)) = true := by simp; omega
      have h2' : decide ((l.length : Int) ≤ 128) = false := by simp; omega
      rw [e1]; clear e1 h1 h2
      go_enter Try.func39, Try.ntmps39
      go_wp2
      go_ret
      exact ⟨rfl, Below.refl _ _⟩
  · have e1 : isListB l = false := by unfold isListB; rw [decide_eq_false (by omega)]; rfl
    have h1' : decide (1 ≤ (l.length : Int)) = false := by simp; omega
    rw [e1]; clear e1 h1
    go_enter Try.func39, Try.ntmps39
    go_wp2
    go_ret
    exact ⟨rfl, Below.refl _ _⟩

set_option maxHeartbeats 1000000 in
set_option maxRecDepth 100000 in
theorem walk_short (A : Option Addr) (c : Nat) (l : List Nat) (w : World) (HA : Aside0 (FK.C w A l.length l)) (hn : l.length ≤ 1048576) :
    Calls Try.prog 11 #[.slice A l.length c] w fun e w' => e = .returned (.bool true) ∧ Below w.heap.size w w' := by
  have h1 : ¬ 1048576 < (l.length : Int) := by omega
  go_enter Try.func11, Try.ntmps11
  go_wp2_with fail
  refine (toF_any A c l _ HA.out hn).mono ?_
  rintro e w1 ⟨v1, rfl, r1, bb1⟩
  obtain ⟨A1, c1, rfl, -, k1⟩ := Kd.R_reads r1
  have b1 : Aside0 (Below w.heap.size w w1) := Aside0.mk bb1
  have K1 := Aside0.mk k1
  clear r1 bb1 k1
  go_wp2_with fail
  refine (specIs_any A1 c1 l _ K1.out).mono ?_
  rintro e wx1 ⟨rfl, nd1, rfl⟩
  go_wp2_with fail
  refine (toF_any A c l _ (Kd.C_drewN (Kd.C_below HA.out b1.out) _) hn).mono ?_
  rintro e w2 ⟨v2, rfl, r2, bb2⟩
  obtain ⟨A2, c2, rfl, hcc2, k2⟩ := Kd.R_reads r2
  have hc2 := Aside0.mk hcc2
  clear hcc2
  have b2 : Aside0 (Below w1.heap.size w1 w2) := Aside0.mk (Below.trans (below_drewN (Below.refl _ _) _) bb2)
  have K2 := Aside0.mk k2
  clear r2 bb2 k2
  go_wp2_with fail
  refine (IsList_any A2 c2 l _ K2.out hc2.out).mono ?_
  rintro e w3 ⟨rfl, bb3⟩
  have b3 : Aside0 (Below w2.heap.size w2 w3) := ⟨bb3⟩
  clear bb3
  go_wp2_with fail
  refine (toF_any A c l _ (Kd.C_below HA.out (below_step (below_step b1.out b2.out) b3.out)) hn).mono ?_
  rintro e w4 ⟨v4, rfl, r4, bb4⟩
  obtain ⟨A3, c3, rfl, -, k4⟩ := Kd.R_reads r4
  have b4 : Aside0 (Below w3.heap.size w3 w4) := Aside0.mk bb4
  have K3 := Aside0.mk k4
  clear r4 bb4 k4
  go_wp2_with fail
  refine (eqF_any A2 A3 c2 c3 l l _ (Kd.C_below K2.out (below_step b3.out b4.out)) K3.out (SimL.refl l)).mono ?_
  rintro e wx2 ⟨rfl, nd2, rfl⟩
  go_wp2
  go_ret
  exact ⟨rfl, (below_drewN (below_step (below_step (below_step b1.out b2.out) b3.out) b4.out) _)⟩

set_option maxHeartbeats 1000000 in
set_option maxRecDepth 100000 in
theorem walk_long (A : Option Addr) (c : Nat) (l : List Nat) (w : World) (hn : 1048576 < l.length) :
    Calls Try.prog 11 #[.slice A l.length c] w fun e w' => e = .returned (.bool true) ∧ Below w.heap.size w w' := by
  have h1 : 1048576 < (l.length : Int) := by omega
  go_enter Try.func11, Try.ntmps11
  go_wp2
  go_ret
  exact ⟨rfl, Below.refl _ _⟩

theorem walk (w : World) (A : Option Addr) (len c : Nat) (l : List Nat) (hr0 : FK.C w A len l) (_ : All32 l) :
    Calls Try.prog 11 #[.slice A len c] w fun e w' => e = .returned (.bool true) ∧ Below w.heap.size w w' := by
  obtain rfl := Kd.C_len hr0
  rcases Nat.lt_or_ge 1048576 l.length with h | h
  · exact walk_long A c l w h
  · exact walk_short A c l w ⟨hr0⟩ h

theorem own : ownKnob Try.prog.godebug = none := by kernel_rfl

theorem laidOut : laidOutB Try.prog = true := by kernel_rfl

set_option maxRecDepth 100000 in
theorem lifted (os : Os) (started : os.Started) (H : Type) (enc : TypeId × Value → H) :
    ReturnsInHanded {} Try.checked os 11 .any (Rows.fnExactIsListSpec.pre6 enc Try.prog Try.f11 Rows.fnExactIsListRow.domain false) (Rows.fnExactIsListSpec.post enc Try.prog Try.f11 false true false false) := by
  refine returnsInHanded_of_change (C := Try.checked) own started (by kernel_rfl) Try.func11
    (ChangeSpec.witness6 (enc := enc) (C := Try.checked) false ⟨#[], #[.slice none 0 0], []⟩ 8 (by kernel_rfl) (by kernel_rfl) (by kernel_rfl) (by kernel_rfl)) ?_
  intro W base args ds gs before hval0 hW _ _
  have hval : ∀ (j : Nat) t v, Try.f11.params[j]? = some t → args[j]? = some v → Value.okWide Try.prog W .any base t v := hval0
  have hW' := hW
  obtain ⟨p, q, hA0, hV, rfl, _, _⟩ := hW
  have hA : DataW.TrodAll enc Try.prog W 0 (fun _ => true) true Try.f11.params.toList args.toList ds p := hA0
  rw [Try.params11] at hA hval
  obtain ⟨v0, vs0, d0, ds0, p0, q0, hargs, rfl, rfl, h0, r0⟩ := trodAll_cons hA
  obtain ⟨rfl, rfl, rfl⟩ := trodAll_nil r0
  obtain rfl : args = #[v0] := by cases args; simp_all
  obtain ⟨rfl, rfl⟩ := trodVars_none hV
  obtain ⟨a0, len0, cap0, rfl⟩ := okWide_slice Try.underlying40 (hval 0 40 v0 rfl rfl)
  have k0 := h0
  have lt0 : ∀ x ∈ p0, x.block < W.heap.size := by obtain ⟨m, hm⟩ := k0; exact DataW.trod_lt m _ _ _ hm
  obtain ⟨z0, c0, w0⟩ := open_f32s Try.underlying40 Try.underlying22 (by kernel_rfl) h0
  clear hA0 hval0
  simp only [List.append_nil] at hW'
  refine (walk W a0 len0 cap0 z0 c0 w0).mono fun e W' ⟨he, bel⟩ => ?_
  subst he
  exact ⟨_, rfl, _, _, _, [], _, [], hW', trodAll_mk1 (shut_bool Try.underlying4 _), (trodAll_cons_mk (Below.trod laidOut (by kernel_rfl) (of_decide_eq_true (by kernel_rfl)) k0 bel lt0) trodAll_mk0), rfl, bel.frame _, fun h => by cases h⟩

theorem over : Rows.fnExactIsListRow.holds Try.pinned (OpenSpec.ofChange Rows.fnExactIsListSpec) :=
  OpenClaim.holds_of_wide 11 Try.f11 rfl rfl rfl rfl rfl rfl rfl ⟨rfl, rfl, rfl, rfl, rfl⟩ rfl rfl rfl rfl rfl (by kernel_rfl) Try.func11 (by kernel_rfl)
    (of_decide_eq_true (by kernel_rfl)) (by unfold Func.isWrapper; first | (rw [if_pos (by decide +kernel)]; kernel_rfl) | (rw [if_neg (by decide +kernel)]; exact ⟨rfl, rfl⟩))
    (fun os started H enc _ => lifted os started H enc)

theorem proved : Rows.FnExactIsListSaid :=
  over
#print axioms proved
end Go.Proofs.Ytgmioegepmoopaa.fnExactIsList
