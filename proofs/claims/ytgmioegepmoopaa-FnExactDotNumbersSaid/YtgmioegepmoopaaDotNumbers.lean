/- This proves that the law FnExactDotNumbers returns true for all lists of float32 numbers: the program's DotNumbers and the reference's answer the same, and leave the lists alone. No condition. -/
import Derived.Test.YtgmioegepmoopaaRows
import Derived.Test.YtgmioegepmoopaaDot
import Derived.Test.YtgmioegepmoopaaToF
import Derived.Test.YtgmioegepmoopaaEqF
import Derived.ProofKit
import Derived.OpenShut
import Derived.ShutString
import Derived.ChangeOld
import Derived.Below
namespace Go.Proofs.Ytgmioegepmoopaa.fnExactDotNumbers
open Go.ChangeShapes Go.WideShapes Go.ChangeAt
open Go.RowKit Go.Proofs.YtgmioegepmoopaaW.PrintWords Go.Proofs.YtgmioegepmoopaaW.PrintLast Fl

set_option maxHeartbeats 1000000 in
set_option maxRecDepth 100000 in
theorem walk_long (A B : Option Addr) (c d : Nat) (l m : List Nat) (w : World) (hn : 1048576 < l.length ∨ 1048576 < m.length) :
    Calls Try.prog 8 #[.slice A l.length c, .slice B m.length d] w fun e w' => e = .returned (.bool true) ∧ Below w.heap.size w w' := by
  by_cases g : 1048576 < l.length
  · have h1 : 1048576 < (l.length : Int) := by omega
    clear hn
    go_enter Try.func8, Try.ntmps8
    go_wp2
    go_ret
    exact ⟨rfl, Below.refl _ _⟩
  · have h1 : ¬ 1048576 < (l.length : Int) := by omega
    have h2 : 1048576 < (m.length : Int) := by omega
    clear hn
    go_enter Try.func8, Try.ntmps8
    go_wp2
    go_ret
    exact ⟨rfl, Below.refl _ _⟩

set_option maxHeartbeats 1000000 in
set_option maxRecDepth 100000 in
theorem walk_no (A B : Option Addr) (c d : Nat) (l m : List Nat) (w : World) (HA : Aside0 (FK.C w A l.length l)) (HB : Aside0 (FK.C w B m.length m)) (hn : l.length ≤ 1048576) (hm : m.length ≤ 1048576) (hbad : Aside0 (256 < l.length ∨ l.length ≠ m.length)) :
    Calls Try.prog 8 #[.slice A l.length c, .slice B m.length d] w fun e w' => e = .returned (.bool true) ∧ Below w.heap.size w w' := by
  have h1 : ¬ 1048576 < (l.length : Int) := by omega
  have h2 : ¬ 1048576 < (m.length : Int) := by omega
  go_enter Try.func8, Try.ntmps8
  go_wp2_with fail
  refine (toF_any A c l _ HA.out hn).mono ?_
  rintro e w1 ⟨v1, rfl, r1, bb1⟩
  obtain ⟨A1, c1, rfl, -, k1⟩ := Kd.R_reads r1
  have b1 : Aside0 (Below w.heap.size w w1) := Aside0.mk bb1
  have K1 := Aside0.mk k1
  clear r1 bb1 k1
  go_wp2_with fail
  refine (toF_any B d m _ (Kd.C_below HB.out b1.out) hm).mono ?_
  rintro e w2 ⟨v2, rfl, r2, bb2⟩
  obtain ⟨A2, c2, rfl, -, k2⟩ := Kd.R_reads r2
  have b2 : Aside0 (Below w1.heap.size w1 w2) := Aside0.mk bb2
  have K2 := Aside0.mk k2
  clear r2 bb2 k2
  go_wp2_with fail
  refine (specDot_no A1 A2 c1 c2 l m _ hbad.out).mono ?_
  rintro e wx1 ⟨rfl, rfl⟩
  go_wp2_with fail
  refine (toF_any A c l _ (Kd.C_below HA.out (below_step b1.out b2.out)) hn).mono ?_
  rintro e w3 ⟨v3, rfl, r3, bb3⟩
  obtain ⟨A3, c3, rfl, -, k3⟩ := Kd.R_reads r3
  have b3 : Aside0 (Below w2.heap.size w2 w3) := Aside0.mk bb3
  have K3 := Aside0.mk k3
  clear r3 bb3 k3
  go_wp2_with fail
  refine (toF_any B d m _ (Kd.C_below HB.out (below_step (below_step b1.out b2.out) b3.out)) hm).mono ?_
  rintro e w4 ⟨v4, rfl, r4, bb4⟩
  obtain ⟨A4, c4, rfl, -, k4⟩ := Kd.R_reads r4
  have b4 : Aside0 (Below w3.heap.size w3 w4) := Aside0.mk bb4
  have K4 := Aside0.mk k4
  clear r4 bb4 k4
  go_wp2_with fail
  refine (DotNumbers_no A3 A4 c3 c4 l m _ hbad.out).mono ?_
  rintro e wx2 ⟨rfl, rfl⟩
  go_wp2_with fail
  refine (sameFloat_any _ _ (wide_both _ _ (Sim.refl _ _)) _).mono ?_
  rintro e wx3 ⟨rfl, nd3, rfl⟩
  go_wp2_with fail
  refine (toF_any A c l _ (Kd.C_drewN (Kd.C_below HA.out (below_step (below_step (below_step b1.out b2.out) b3.out) b4.out)) _) hn).mono ?_
  rintro e w5 ⟨v5, rfl, r5, bb5⟩
  obtain ⟨A5, c5, rfl, -, k5⟩ := Kd.R_reads r5
  have b5 : Aside0 (Below w4.heap.size w4 w5) := Aside0.mk (Below.trans (below_drewN (Below.refl _ _) _) bb5)
  have K5 := Aside0.mk k5
  clear r5 bb5 k5
  go_wp2_with fail
  refine (eqF_any A3 A5 c3 c5 l l _ (Kd.C_below K3.out (below_step b4.out b5.out)) K5.out (SimL.refl l)).mono ?_
  rintro e wx4 ⟨rfl, nd4, rfl⟩
  go_wp2_with fail
  refine (toF_any B d m _ (Kd.C_drewN (Kd.C_below HB.out (below_step (below_step (below_step (below_step b1.out b2.out) b3.out) b4.out) b5.out)) _) hm).mono ?_
  rintro e w6 ⟨v6, rfl, r6, bb6⟩
  obtain ⟨A6, c6, rfl, -, k6⟩ := Kd.R_reads r6
  have b6 : Aside0 (Below w5.heap.size w5 w6) := Aside0.mk (Below.trans (below_drewN (Below.refl _ _) _) bb6)
  have K6 := Aside0.mk k6
  clear r6 bb6 k6
  go_wp2_with fail
  refine (eqF_any A4 A6 c4 c6 m m _ (Kd.C_below K4.out (below_step b5.out b6.out)) K6.out (SimL.refl m)).mono ?_
  rintro e wx5 ⟨rfl, nd5, rfl⟩
  go_wp2
  go_ret
  exact ⟨rfl, (below_drewN (below_step (below_step (below_step (below_step (below_step b1.out b2.out) b3.out) b4.out) b5.out) b6.out) _)⟩

set_option maxHeartbeats 1000000 in
set_option maxRecDepth 100000 in
theorem walk_yes (A B : Option Addr) (c d : Nat) (l m : List Nat) (w : World) (HA : Aside0 (FK.C w A l.length l)) (HB : Aside0 (FK.C w B m.length m)) (hn : l.length ≤ 1048576) (hm : m.length ≤ 1048576) (hlm : Aside0 (l.length = m.length)) (h256 : l.length ≤ 256) :
    Calls Try.prog 8 #[.slice A l.length c, .slice B m.length d] w fun e w' => e = .returned (.bool true) ∧ Below w.heap.size w w' := by
  have h1 : ¬ 1048576 < (l.length : Int) := by omega
  have h2 : ¬ 1048576 < (m.length : Int) := by omega
  go_enter Try.func8, Try.ntmps8
  go_wp2_with fail
  refine (toF_any A c l _ HA.out hn).mono ?_
  rintro e w1 ⟨v1, rfl, r1, bb1⟩
  obtain ⟨A1, c1, rfl, -, k1⟩ := Kd.R_reads r1
  have b1 : Aside0 (Below w.heap.size w w1) := Aside0.mk bb1
  have K1 := Aside0.mk k1
  clear r1 bb1 k1
  go_wp2_with fail
  refine (toF_any B d m _ (Kd.C_below HB.out b1.out) hm).mono ?_
  rintro e w2 ⟨v2, rfl, r2, bb2⟩
  obtain ⟨A2, c2, rfl, -, k2⟩ := Kd.R_reads r2
  have b2 : Aside0 (Below w1.heap.size w1 w2) := Aside0.mk bb2
  have K2 := Aside0.mk k2
  clear r2 bb2 k2
  go_wp2_with fail
  refine (specDot_yes A1 A2 c1 c2 l m _ (Kd.C_below K1.out b2.out) K2.out hlm.out h256).mono ?_
  rintro e wx1 ⟨s1, rfl, hS1, nd1, rfl⟩
  have S1 := Aside0.mk hS1
  clear hS1
  go_wp2_with fail
  refine (toF_any A c l _ (Kd.C_drewN (Kd.C_below HA.out (below_step b1.out b2.out)) _) hn).mono ?_
  rintro e w3 ⟨v3, rfl, r3, bb3⟩
  obtain ⟨A3, c3, rfl, -, k3⟩ := Kd.R_reads r3
  have b3 : Aside0 (Below w2.heap.size w2 w3) := Aside0.mk (Below.trans (below_drewN (Below.refl _ _) _) bb3)
  have K3 := Aside0.mk k3
  clear r3 bb3 k3
  go_wp2_with fail
  refine (toF_any B d m _ (Kd.C_below HB.out (below_step (below_step b1.out b2.out) b3.out)) hm).mono ?_
  rintro e w4 ⟨v4, rfl, r4, bb4⟩
  obtain ⟨A4, c4, rfl, -, k4⟩ := Kd.R_reads r4
  have b4 : Aside0 (Below w3.heap.size w3 w4) := Aside0.mk bb4
  have K4 := Aside0.mk k4
  clear r4 bb4 k4
  go_wp2_with fail
  refine (DotNumbers_yes A3 A4 c3 c4 l m _ (Kd.C_below K3.out b4.out) K4.out hlm.out h256).mono ?_
  rintro e wx2 ⟨s2, rfl, hS2, nd2, rfl⟩
  have S2 := Aside0.mk hS2
  clear hS2
  go_wp2_with fail
  refine (sameFloat_any _ _ (wide_both _ _ (S2.out.trans S1.out.symm)) _).mono ?_
  rintro e wx3 ⟨rfl, nd3, rfl⟩
  go_wp2_with fail
  refine (toF_any A c l _ (Kd.C_drewN (Kd.C_below HA.out (below_step (below_step (below_step b1.out b2.out) b3.out) b4.out)) _) hn).mono ?_
  rintro e w5 ⟨v5, rfl, r5, bb5⟩
  obtain ⟨A5, c5, rfl, -, k5⟩ := Kd.R_reads r5
  have b5 : Aside0 (Below w4.heap.size w4 w5) := Aside0.mk (Below.trans (below_drewN (Below.refl _ _) _) bb5)
  have K5 := Aside0.mk k5
  clear r5 bb5 k5
  go_wp2_with fail
  refine (eqF_any A3 A5 c3 c5 l l _ (Kd.C_below K3.out (below_step b4.out b5.out)) K5.out (SimL.refl l)).mono ?_
  rintro e wx4 ⟨rfl, nd4, rfl⟩
  go_wp2_with fail
  refine (toF_any B d m _ (Kd.C_drewN (Kd.C_below HB.out (below_step (below_step (below_step (below_step b1.out b2.out) b3.out) b4.out) b5.out)) _) hm).mono ?_
  rintro e w6 ⟨v6, rfl, r6, bb6⟩
  obtain ⟨A6, c6, rfl, -, k6⟩ := Kd.R_reads r6
  have b6 : Aside0 (Below w5.heap.size w5 w6) := Aside0.mk (Below.trans (below_drewN (Below.refl _ _) _) bb6)
  have K6 := Aside0.mk k6
  clear r6 bb6 k6
  go_wp2_with fail
  refine (eqF_any A4 A6 c4 c6 m m _ (Kd.C_below K4.out (below_step b5.out b6.out)) K6.out (SimL.refl m)).mono ?_
  rintro e wx5 ⟨rfl, nd5, rfl⟩
  go_wp2
  go_ret
  exact ⟨rfl, (below_drewN (below_step (below_step (below_step (below_step (below_step b1.out b2.out) b3.out) b4.out) b5.out) b6.out) _)⟩


theorem walk (w : World) (A : Option Addr) (len c : Nat) (l : List Nat) (hr0 : FK.C w A len l) (_ : All32 l) (B : Option Addr) (len2 d : Nat) (m : List Nat) (hr1 : FK.C w B len2 m) (_ : All32 m) :
    Calls Try.prog 8 #[.slice A len c, .slice B len2 d] w fun e w' => e = .returned (.bool true) ∧ Below w.heap.size w w' := by
  obtain rfl := Kd.C_len hr0
  obtain rfl := Kd.C_len hr1
  by_cases h : 1048576 < l.length ∨ 1048576 < m.length
  · exact walk_long A B c d l m w h
  · by_cases g : 256 < l.length ∨ l.length ≠ m.length
    · exact walk_no A B c d l m w ⟨hr0⟩ ⟨hr1⟩ (by omega) (by omega) ⟨g⟩
    · exact walk_yes A B c d l m w ⟨hr0⟩ ⟨hr1⟩ (by omega) (by omega) ⟨by omega⟩ (by omega)

theorem own : ownKnob Try.prog.godebug = none := by kernel_rfl

theorem laidOut : laidOutB Try.prog = true := by kernel_rfl

set_option maxRecDepth 100000 in
theorem lifted (os : Os) (started : os.Started) (H : Type) (enc : TypeId × Value → H) :
    ReturnsInHanded {} Try.checked os 8 .any (Rows.fnExactDotNumbersSpec.pre6 enc Try.prog Try.f8 Rows.fnExactDotNumbersRow.domain false) (Rows.fnExactDotNumbersSpec.post enc Try.prog Try.f8 false true false false) := by
  refine returnsInHanded_of_change (C := Try.checked) own started (by kernel_rfl) Try.func8
    (ChangeSpec.witness6 (enc := enc) (C := Try.checked) false ⟨#[], #[.slice none 0 0, .slice none 0 0], []⟩ 8 (by kernel_rfl) (by kernel_rfl) (by kernel_rfl) (by kernel_rfl)) ?_
  intro W base args ds gs before hval0 hW _ _
  have hval : ∀ (j : Nat) t v, Try.f8.params[j]? = some t → args[j]? = some v → Value.okWide Try.prog W .any base t v := hval0
  have hW' := hW
  obtain ⟨p, q, hA0, hV, rfl, _, _⟩ := hW
  have hA : DataW.TrodAll enc Try.prog W 0 (fun _ => true) true Try.f8.params.toList args.toList ds p := hA0
  rw [Try.params8] at hA hval
  obtain ⟨v0, vs0, d0, ds0, p0, q0, hargs, rfl, rfl, h0, r0⟩ := trodAll_cons hA
  obtain ⟨v1, vs1, d1, ds1, p1, q1, rfl, rfl, rfl, h1, r1⟩ := trodAll_cons r0
  obtain ⟨rfl, rfl, rfl⟩ := trodAll_nil r1
  obtain rfl : args = #[v0, v1] := by cases args; simp_all
  obtain ⟨rfl, rfl⟩ := trodVars_none hV
  obtain ⟨a0, len0, cap0, rfl⟩ := okWide_slice Try.underlying40 (hval 0 40 v0 rfl rfl)
  have k0 := h0
  have lt0 : ∀ x ∈ p0, x.block < W.heap.size := by obtain ⟨m, hm⟩ := k0; exact DataW.trod_lt m _ _ _ hm
  obtain ⟨z0, c0, w0⟩ := open_f32s Try.underlying40 Try.underlying22 (by kernel_rfl) h0
  obtain ⟨a1, len1, cap1, rfl⟩ := okWide_slice Try.underlying40 (hval 1 40 v1 rfl rfl)
  have k1 := h1
  have lt1 : ∀ x ∈ p1, x.block < W.heap.size := by obtain ⟨m, hm⟩ := k1; exact DataW.trod_lt m _ _ _ hm
  obtain ⟨z1, c1, w1⟩ := open_f32s Try.underlying40 Try.underlying22 (by kernel_rfl) h1
  clear hA0 hval0
  simp only [List.append_nil] at hW'
  refine (walk W a0 len0 cap0 z0 c0 w0 a1 len1 cap1 z1 c1 w1).mono fun e W' ⟨he, bel⟩ => ?_
  subst he
  exact ⟨_, rfl, _, _, _, [], _, [], hW', trodAll_mk1 (shut_bool Try.underlying4 _), (trodAll_cons_mk (Below.trod laidOut (by kernel_rfl) (of_decide_eq_true (by kernel_rfl)) k0 bel lt0) (trodAll_cons_mk (Below.trod laidOut (by kernel_rfl) (of_decide_eq_true (by kernel_rfl)) k1 bel lt1) trodAll_mk0)), rfl, bel.frame _, fun h => by cases h⟩

theorem over : Rows.fnExactDotNumbersRow.holds Try.pinned (OpenSpec.ofChange Rows.fnExactDotNumbersSpec) :=
  OpenClaim.holds_of_wide 8 Try.f8 rfl rfl rfl rfl rfl rfl rfl ⟨rfl, rfl, rfl, rfl, rfl⟩ rfl rfl rfl rfl rfl (by kernel_rfl) Try.func8 (by kernel_rfl)
    (of_decide_eq_true (by kernel_rfl)) (by unfold Func.isWrapper; first | (rw [if_pos (by decide +kernel)]; kernel_rfl) | (rw [if_neg (by decide +kernel)]; exact ⟨rfl, rfl⟩))
    (fun os started H enc _ => lifted os started H enc)

theorem proved : Rows.FnExactDotNumbersSaid :=
  over
#print axioms proved
end Go.Proofs.Ytgmioegepmoopaa.fnExactDotNumbers
