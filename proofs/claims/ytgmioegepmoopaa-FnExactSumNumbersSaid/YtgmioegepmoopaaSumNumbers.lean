/- This proves that the law FnExactSumNumbers returns true for every list of float32 numbers: the program's SumNumbers and the reference's answer the same, and leave the list alone. No condition. -/
import Derived.Test.YtgmioegepmoopaaRows
import Derived.Test.YtgmioegepmoopaaSum
import Derived.Test.YtgmioegepmoopaaToF
import Derived.Test.YtgmioegepmoopaaEqF
import Derived.ProofKit
import Derived.OpenShut
import Derived.ShutString
import Derived.ChangeOld
import Derived.Below
namespace Go.Proofs.Ytgmioegepmoopaa.fnExactSumNumbers
open Go.ChangeShapes Go.WideShapes Go.ChangeAt
open Go.RowKit Go.Proofs.YtgmioegepmoopaaW.PrintWords Go.Proofs.YtgmioegepmoopaaW.PrintLast Fl
open Go.ChangeMaps (open_string shut_string)

set_option maxHeartbeats 1000000 in
set_option maxRecDepth 100000 in
theorem spec_no (A : Option Addr) (c : Nat) (l : List Nat) (w : World) (hn : 256 < l.length) :
    Calls Try.prog 32 #[.slice A l.length c] w fun e w' => e = .returned (.tuple #[.float .f32 0, .bool false]) ∧ w = w' := by
  have h1 : 256 < (l.length : Int) := by omega
  have h2 : decide ((l.length : Int) ≤ 256) = false := by simp; omega
  go_enter Try.func32, Try.ntmps32
  go_wp2
  go_ret2
  exact ⟨rfl, rfl⟩

set_option maxHeartbeats 1000000 in
set_option maxRecDepth 100000 in
theorem spec_yes (A : Option Addr) (c : Nat) (l : List Nat) (w : World) (hr0 : FK.C w A l.length l) (hn : l.length ≤ 256) :
    Calls Try.prog 32 #[.slice A l.length c] w fun e w' => ∃ r, e = .returned (.tuple #[.float .f32 r, .bool true]) ∧ Sim .f32 r (sumF l) ∧ ∃ n, w' = w.drewN n := by
  have h2 : decide ((l.length : Int) ≤ 256) = true := by simp; omega
  go_enter Try.func32, Try.ntmps32
  go_wp2_with (first | (go_at_call 62; go_in) | fail)
  refine (l01Sum_any A c l _ hr0).mono ?_
  rintro e w' ⟨r, rfl, hs, n, rfl⟩
  have HS := Aside0.mk hs
  clear hs
  go_wp2
  go_ret2
  exact ⟨r, rfl, HS.out, _, rfl⟩

set_option maxHeartbeats 1000000 in
set_option maxRecDepth 100000 in
theorem walk_long (A : Option Addr) (c : Nat) (l : List Nat) (w : World) (hn : 1048576 < l.length) :
    Calls Try.prog 9 #[.slice A l.length c] w fun e w' => e = .returned (.bool true) ∧ Below w.heap.size w w' := by
  have h1 : 1048576 < (l.length : Int) := by omega
  go_enter Try.func9, Try.ntmps9
  go_wp2
  go_ret
  exact ⟨rfl, Below.refl _ _⟩

set_option maxHeartbeats 1000000 in
set_option maxRecDepth 100000 in
theorem walk_no (A : Option Addr) (c : Nat) (l : List Nat) (w : World) (hr0 : FK.C w A l.length l) (hn : l.length ≤ 1048576) (hn2 : 256 < l.length) :
    Calls Try.prog 9 #[.slice A l.length c] w fun e w' => e = .returned (.bool true) ∧ Below w.heap.size w w' := by
  have h1 : ¬ 1048576 < (l.length : Int) := by omega
  have HR := Aside0.mk hr0
  clear hr0
  go_enter Try.func9, Try.ntmps9
  go_wp2_with fail
  refine (toF_any A c l _ HR.out hn).mono ?_
  rintro e w1 ⟨v1, rfl, r1, b1⟩
  obtain ⟨A1, c1, rfl, -, k1⟩ := Kd.R_reads r1
  have B1 := Aside0.mk b1
  have K1 := Aside0.mk k1
  clear r1 b1 k1
  go_wp2_with fail
  refine (spec_no A1 c1 l _ hn2).mono ?_
  rintro e w2 ⟨rfl, rfl⟩
  go_wp2_with fail
  refine (toF_any A c l _ (Kd.C_below HR.out B1.out) hn).mono ?_
  rintro e w2 ⟨v2, rfl, r2, b2⟩
  obtain ⟨A2, c2, rfl, -, k2⟩ := Kd.R_reads r2
  have B2 := Aside0.mk (below_step B1.out b2)
  have K2 := Aside0.mk k2
  clear r2 b2 k2 B1
  go_wp2_with fail
  refine (SumNumbers_no A2 c2 l _ hn2).mono ?_
  rintro e w3 ⟨rfl, rfl⟩
  go_wp2_with fail
  refine (sameFloat_any _ _ (wide_both _ _ (Sim.refl _ _)) _).mono ?_
  rintro e w3 ⟨rfl, n3, rfl⟩
  go_wp2_with fail
  refine (toF_any A c l _ (Kd.C_below HR.out (below_drewN B2.out _)) hn).mono ?_
  rintro e w4 ⟨v4, rfl, r4, b4⟩
  obtain ⟨A4, c4, rfl, -, k4⟩ := Kd.R_reads r4
  have B4 := Aside0.mk (below_step (below_drewN B2.out _) b4)
  have K2' := Aside0.mk (Kd.C_below K2.out (Below.trans (below_drewN (Below.refl _ _) _) b4))
  have K4 := Aside0.mk k4
  clear r4 b4 k4 K2
  go_wp2_with fail
  refine (eqF_any A2 A4 c2 c4 l l _ K2'.out K4.out (SimL.refl l)).mono ?_
  rintro e w5 ⟨rfl, n5, rfl⟩
  go_wp2
  go_ret
  exact ⟨rfl, below_drewN B4.out _⟩

set_option maxHeartbeats 1000000 in
set_option maxRecDepth 100000 in
theorem walk_yes (A : Option Addr) (c : Nat) (l : List Nat) (w : World) (hr0 : FK.C w A l.length l) (hn2 : l.length ≤ 256) :
    Calls Try.prog 9 #[.slice A l.length c] w fun e w' => e = .returned (.bool true) ∧ Below w.heap.size w w' := by
  have hn : l.length ≤ 1048576 := by omega
  have h1 : ¬ 1048576 < (l.length : Int) := by omega
  have HR := Aside0.mk hr0
  clear hr0
  go_enter Try.func9, Try.ntmps9
  go_wp2_with fail
  refine (toF_any A c l _ HR.out hn).mono ?_
  rintro e w1 ⟨v1, rfl, r1, b1⟩
  obtain ⟨A1, c1, rfl, -, k1⟩ := Kd.R_reads r1
  have B1 := Aside0.mk b1
  have K1 := Aside0.mk k1
  clear r1 b1 k1
  go_wp2_with fail
  refine (spec_yes A1 c1 l _ K1.out hn2).mono ?_
  rintro e w2 ⟨s1, rfl, hs1, n1, rfl⟩
  have S1 := Aside0.mk hs1
  clear hs1
  go_wp2_with fail
  refine (toF_any A c l _ (Kd.C_below HR.out (below_drewN B1.out _)) hn).mono ?_
  rintro e w2 ⟨v2, rfl, r2, b2⟩
  obtain ⟨A2, c2, rfl, -, k2⟩ := Kd.R_reads r2
  have B2 := Aside0.mk (below_step (below_drewN B1.out _) b2)
  have K2 := Aside0.mk k2
  clear r2 b2 k2 B1
  go_wp2_with fail
  refine (SumNumbers_yes A2 c2 l _ K2.out hn2).mono ?_
  rintro e w3 ⟨s2, rfl, hs2, n2, rfl⟩
  have S2 := Aside0.mk hs2
  clear hs2
  go_wp2_with fail
  refine (sameFloat_any _ _ (wide_both _ _ (S2.out.trans S1.out.symm)) _).mono ?_
  rintro e w3 ⟨rfl, n3, rfl⟩
  go_wp2_with fail
  refine (toF_any A c l _ (Kd.C_below HR.out (below_drewN B2.out _)) hn).mono ?_
  rintro e w4 ⟨v4, rfl, r4, b4⟩
  obtain ⟨A4, c4, rfl, -, k4⟩ := Kd.R_reads r4
  have B4 := Aside0.mk (below_step (below_drewN B2.out _) b4)
  have K2' := Aside0.mk (Kd.C_below K2.out (Below.trans (below_drewN (Below.refl _ _) _) b4))
  have K4 := Aside0.mk k4
  clear r4 b4 k4 K2
  go_wp2_with fail
  refine (eqF_any A2 A4 c2 c4 l l _ K2'.out K4.out (SimL.refl l)).mono ?_
  rintro e w5 ⟨rfl, n5, rfl⟩
  go_wp2
  go_ret
  exact ⟨rfl, below_drewN B4.out _⟩

theorem walk (w : World) (A : Option Addr) (len c : Nat) (l : List Nat) (hr0 : FK.C w A len l) (_h32 : All32 l) :
    Calls Try.prog 9 #[.slice A len c] w fun e w' => e = .returned (.bool true) ∧ Below w.heap.size w w' := by
  obtain rfl := Kd.C_len hr0
  rcases Nat.lt_or_ge 1048576 l.length with h | h
  · exact walk_long A c l w h
  · rcases Nat.lt_or_ge 256 l.length with g | g
    · exact walk_no A c l w hr0 h g
    · exact walk_yes A c l w hr0 g

theorem own : ownKnob Try.prog.godebug = none := by kernel_rfl

theorem laidOut : laidOutB Try.prog = true := by kernel_rfl

set_option maxRecDepth 100000 in
theorem lifted (os : Os) (started : os.Started) (H : Type) (enc : TypeId × Value → H) :
    ReturnsInHanded {} Try.checked os 9 .any (Rows.fnExactSumNumbersSpec.pre6 enc Try.prog Try.f9 Rows.fnExactSumNumbersRow.domain false) (Rows.fnExactSumNumbersSpec.post enc Try.prog Try.f9 false true false false) := by
  refine returnsInHanded_of_change (C := Try.checked) own started (by kernel_rfl) Try.func9
    (ChangeSpec.witness6 (enc := enc) (C := Try.checked) false ⟨#[], #[.slice none 0 0], []⟩ 8 (by kernel_rfl) (by kernel_rfl) (by kernel_rfl) (by kernel_rfl)) ?_
  intro W base args ds gs before hval0 hW _ _
  have hval : ∀ (j : Nat) t v, Try.f9.params[j]? = some t → args[j]? = some v → Value.okWide Try.prog W .any base t v := hval0
  have hW' := hW
  obtain ⟨p, q, hA0, hV, rfl, _, _⟩ := hW
  have hA : DataW.TrodAll enc Try.prog W 0 (fun _ => true) true Try.f9.params.toList args.toList ds p := hA0
  rw [Try.params9] at hA hval
  obtain ⟨v0, vs0, d0, ds0, p0, q0, hargs, rfl, rfl, h0, r0⟩ := trodAll_cons hA
  obtain ⟨rfl, rfl, rfl⟩ := trodAll_nil r0
  obtain rfl : args = #[v0] := by cases args; simp_all
  obtain ⟨rfl, rfl⟩ := trodVars_none hV
  obtain ⟨a0, len0, cap0, rfl⟩ := okWide_slice Try.underlying40 (hval 0 40 v0 rfl rfl)
  have k0 := h0
  have lt0 : ∀ x ∈ p0, x.block < W.heap.size := by obtain ⟨m, hm⟩ := k0; exact DataW.trod_lt m _ _ _ hm
  obtain ⟨z0, c0, w0⟩ := open_f32s Try.underlying40 Try.underlying22 (by kernel_rfl) h0
  clear hA0 hval0
  simp only [List.append_nil] at hW'
  refine (walk W a0 len0 cap0 z0 c0 w0).mono fun e W' ⟨he, bel⟩ => ?_
  subst he
  exact ⟨_, rfl, _, _, _, [], _, [], hW', trodAll_mk1 (shut_bool Try.underlying4 _), (trodAll_cons_mk (Below.trod laidOut (by kernel_rfl) (of_decide_eq_true (by kernel_rfl)) k0 bel lt0) trodAll_mk0), rfl, bel.frame _, fun h => by cases h⟩

theorem over : Rows.fnExactSumNumbersRow.holds Try.pinned (OpenSpec.ofChange Rows.fnExactSumNumbersSpec) :=
  OpenClaim.holds_of_wide 9 Try.f9 rfl rfl rfl rfl rfl rfl rfl ⟨rfl, rfl, rfl, rfl, rfl⟩ rfl rfl rfl rfl rfl (by kernel_rfl) Try.func9 (by kernel_rfl)
    (of_decide_eq_true (by kernel_rfl)) (by unfold Func.isWrapper; first | (rw [if_pos (by decide +kernel)]; kernel_rfl) | (rw [if_neg (by decide +kernel)]; exact ⟨rfl, rfl⟩))
    (fun os started H enc _ => lifted os started H enc)

theorem proved : Rows.FnExactSumNumbersSaid :=
  over
#print axioms proved
end Go.Proofs.Ytgmioegepmoopaa.fnExactSumNumbers
