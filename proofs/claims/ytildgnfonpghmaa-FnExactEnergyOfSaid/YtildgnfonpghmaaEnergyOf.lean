/- This proves that the law FnExactEnergyOf returns true for every list of float32 numbers: the program's EnergyOf and the reference's answer the same, and leave the list alone. No condition. -/
import Derived.Test.YtildgnfonpghmaaRows
import Derived.Test.YtildgnfonpghmaaEnergy
import Derived.Test.YtildgnfonpghmaaSame
import Derived.Test.YtildgnfonpghmaaToF
import Derived.Test.YtildgnfonpghmaaEqF
import Derived.ProofKit
import Derived.OpenShut
import Derived.ShutString
import Derived.ChangeOld
import Derived.Below
namespace Go.Proofs.Ytildgnfonpghmaa.fnExactEnergyOf
open Go.ChangeShapes Go.WideShapes Go.ChangeAt
open Go.RowKit Go.Proofs.YtildgnfonpghmaaW.PrintWords Go.Proofs.YtildgnfonpghmaaW.PrintLast Fl

set_option maxHeartbeats 1000000 in
set_option maxRecDepth 100000 in
theorem walk_short (A : Option Addr) (c : Nat) (l : List Nat) (w : World) (HA : Aside0 (FK.C w A l.length l)) (hn : l.length ≤ 1048576) :
    Calls Try.prog 3 #[.slice A l.length c] w fun e w' => e = .returned (.bool true) ∧ Below w.heap.size w w' := by
  have h1 : ¬ 1048576 < (l.length : Int) := by omega
  obtain ⟨b, hb⟩ : ∃ b, enB l = b := ⟨_, rfl⟩
  have HB := Lib.hid hb
  clear hb
  go_enter Try.func3, Try.ntmps3
  go_wp2_with fail
  refine (toF_any A c l _ HA.out hn).mono ?_
  rintro e w1 ⟨v1, rfl, r1, bb1⟩
  obtain ⟨A1, c1, rfl, -, k1⟩ := Kd.R_reads r1
  have b1 : Aside0 (Below w.heap.size w w1) := Aside0.mk bb1
  have K1 := Aside0.mk k1
  clear r1 bb1 k1
  go_wp2_with fail
  refine (specEnergy_any A1 c1 l _ K1.out).mono ?_
  rw [HB.out]
  rintro e wx1 ⟨s1, rfl, hS1, nd1, rfl⟩
  have S1 := Aside0.mk hS1
  clear hS1
  go_wp2_with fail
  refine (toF_any A c l _ (Kd.C_drewN (Kd.C_below HA.out b1.out) _) hn).mono ?_
  rintro e w2 ⟨v2, rfl, r2, bb2⟩
  obtain ⟨A2, c2, rfl, hcc2, k2⟩ := Kd.R_reads r2
  have hc2 := Aside0.mk hcc2
  clear hcc2
  have b2 : Aside0 (Below w1.heap.size w1 w2) := Aside0.mk (Below.trans (below_drewN (Below.refl _ _) _) bb2)
  have K2 := Aside0.mk k2
  clear r2 bb2 k2
  go_wp2_with fail
  refine (EnergyOf_any A2 c2 l _ K2.out hc2.out).mono ?_
  rw [HB.out]
  rintro e w3 ⟨s2, rfl, hS2, bb3⟩
  have S2 := Aside0.mk hS2
  have b3 : Aside0 (Below w2.heap.size w2 w3) := ⟨bb3⟩
  clear bb3 hS2
  go_wp2_with fail
  refine (sameFloat_any _ _ (wide_both _ _ (S2.out.trans S1.out.symm)) _).mono ?_
  rintro e wx3 ⟨rfl, nd3, rfl⟩
  have hbb : (b != b) = false := by simp
  go_wp2_with fail
  refine (toF_any A c l _ (Kd.C_drewN (Kd.C_below HA.out (below_step (below_step b1.out b2.out) b3.out)) _) hn).mono ?_
  rintro e w4 ⟨v4, rfl, r4, bb4⟩
  obtain ⟨A3, c3, rfl, -, k4⟩ := Kd.R_reads r4
  have b4 : Aside0 (Below w3.heap.size w3 w4) := Aside0.mk (Below.trans (below_drewN (Below.refl _ _) _) bb4)
  have K3 := Aside0.mk k4
  clear r4 bb4 k4
  go_wp2_with fail
  refine (eqF_any A2 A3 c2 c3 l l _ (Kd.C_below K2.out (below_step b3.out b4.out)) K3.out (SimL.refl l)).mono ?_
  rintro e wx2 ⟨rfl, nd2, rfl⟩
  go_wp2
  go_ret
  exact ⟨rfl, (below_drewN (below_step (below_step (below_step b1.out b2.out) b3.out) b4.out) _)⟩

set_option maxHeartbeats 1000000 in
set_option maxRecDepth 100000 in
theorem walk_long (A : Option Addr) (c : Nat) (l : List Nat) (w : World) (hn : 1048576 < l.length) :
    Calls Try.prog 3 #[.slice A l.length c] w fun e w' => e = .returned (.bool true) ∧ Below w.heap.size w w' := by
  have h1 : 1048576 < (l.length : Int) := by omega
  go_enter Try.func3, Try.ntmps3
  go_wp2
  go_ret
  exact ⟨rfl, Below.refl _ _⟩

theorem walk (w : World) (A : Option Addr) (len c : Nat) (l : List Nat) (hr0 : FK.C w A len l) (_ : All32 l) :
    Calls Try.prog 3 #[.slice A len c] w fun e w' => e = .returned (.bool true) ∧ Below w.heap.size w w' := by
  obtain rfl := Kd.C_len hr0
  rcases Nat.lt_or_ge 1048576 l.length with h | h
  · exact walk_long A c l w h
  · exact walk_short A c l w ⟨hr0⟩ h

theorem own : ownKnob Try.prog.godebug = none := by kernel_rfl

theorem laidOut : laidOutB Try.prog = true := by kernel_rfl

set_option maxRecDepth 100000 in
theorem lifted (os : Os) (started : os.Started) (H : Type) (enc : TypeId × Value → H) :
    ReturnsInHanded {} Try.checked os 3 .any (Rows.fnExactEnergyOfSpec.pre6 enc Try.prog Try.f3 Rows.fnExactEnergyOfRow.domain false) (Rows.fnExactEnergyOfSpec.post enc Try.prog Try.f3 false true false false) := by
  refine returnsInHanded_of_change (C := Try.checked) own started (by kernel_rfl) Try.func3
    (ChangeSpec.witness6 (enc := enc) (C := Try.checked) false ⟨#[], #[.slice none 0 0], []⟩ 8 (by kernel_rfl) (by kernel_rfl) (by kernel_rfl) (by kernel_rfl)) ?_
  intro W base args ds gs before hval0 hW _ _
  have hval : ∀ (j : Nat) t v, Try.f3.params[j]? = some t → args[j]? = some v → Value.okWide Try.prog W .any base t v := hval0
  have hW' := hW
  obtain ⟨p, q, hA0, hV, rfl, _, _⟩ := hW
  have hA : DataW.TrodAll enc Try.prog W 0 (fun _ => true) true Try.f3.params.toList args.toList ds p := hA0
  rw [Try.params3] at hA hval
  obtain ⟨v0, vs0, d0, ds0, p0, q0, hargs, rfl, rfl, h0, r0⟩ := trodAll_cons hA
  obtain ⟨rfl, rfl, rfl⟩ := trodAll_nil r0
  obtain rfl : args = #[v0] := by cases args; simp_all
  obtain ⟨rfl, rfl⟩ := trodVars_none hV
  obtain ⟨a0, len0, cap0, rfl⟩ := okWide_slice Try.underlying22 (hval 0 22 v0 rfl rfl)
  have k0 := h0
  have lt0 : ∀ x ∈ p0, x.block < W.heap.size := by obtain ⟨m, hm⟩ := k0; exact DataW.trod_lt m _ _ _ hm
  obtain ⟨z0, c0, w0⟩ := open_f32s Try.underlying22 Try.underlying23 (by kernel_rfl) h0
  clear hA0 hval0
  simp only [List.append_nil] at hW'
  refine (walk W a0 len0 cap0 z0 c0 w0).mono fun e W' ⟨he, bel⟩ => ?_
  subst he
  exact ⟨_, rfl, _, _, _, [], _, [], hW', trodAll_mk1 (shut_bool Try.underlying4 _), (trodAll_cons_mk (Below.trod laidOut (by kernel_rfl) (of_decide_eq_true (by kernel_rfl)) k0 bel lt0) trodAll_mk0), rfl, bel.frame _, fun h => by cases h⟩

theorem over : Rows.fnExactEnergyOfRow.holds Try.pinned (OpenSpec.ofChange Rows.fnExactEnergyOfSpec) :=
  OpenClaim.holds_of_wide 3 Try.f3 rfl rfl rfl rfl rfl rfl rfl ⟨rfl, rfl, rfl, rfl, rfl⟩ rfl rfl rfl rfl rfl (by kernel_rfl) Try.func3 (by kernel_rfl)
    (of_decide_eq_true (by kernel_rfl)) (by unfold Func.isWrapper; first | (rw [if_pos (by decide +kernel)]; kernel_rfl) | (rw [if_neg (by decide +kernel)]; exact ⟨rfl, rfl⟩))
    (fun os started H enc _ => lifted os started H enc)

theorem proved : Rows.FnExactEnergyOfSaid :=
  over
#print axioms proved
end Go.Proofs.Ytildgnfonpghmaa.fnExactEnergyOf
