/- This proves that the law FnExactValidScheme returns true for every scheme: the program's ValidScheme and the reference's answer the same, and leave the scheme alone. No condition. -/
import Derived.Test.YtbpjkghbkjdodaaRows
import Derived.Test.YtbpjkghbkjdodaaSzS
import Derived.Test.YtbpjkghbkjdodaaRowS
import Derived.ProofKit
import Derived.OpenShut
import Derived.ShutString
import Derived.ChangeOld
import Derived.Below
import Derived.Deep.RegionHeld3
namespace Go.Proofs.Ytbpjkghbkjdodaa.fnExactValidScheme
open Go.ChangeShapes Go.WideShapes Go.ChangeAt
open Go.RowKit Go.Proofs.YtbpjkghbkjdodaaW.PrintWords Go.Proofs.YtbpjkghbkjdodaaW.PrintLast Fl

set_option maxHeartbeats 1000000 in
set_option maxRecDepth 100000 in
theorem walk_long (A : Option Addr) (c x : Nat) (l : List Nat) (w : World) (hr0 : FK.C w A l.length l) (hn : 1048576 < l.length) :
    Calls Try.prog 5 #[.agg #[.slice A l.length c, .float .f32 x]] w fun e w' => e = .returned (.bool true) ∧ Below w.heap.size w w' := by
  have hmx := Kd.C_max hr0
  clear hr0
  go_enter Try.func5, Try.ntmps5
  go_wp2_with fail
  refine (szScheme_any A l.length c x 1048576 _ (by omega) (by omega) hmx).mono ?_
  rw [if_neg (by omega)]
  rintro e w0 ⟨rfl, bb⟩
  have B0 := Aside0.mk (Below.trans (below_alloc (Below.refl _ w) _) (bb.mono (by simp)))
  clear bb
  go_wp2
  go_ret
  exact ⟨rfl, B0.out⟩
set_option maxHeartbeats 1000000 in
set_option maxRecDepth 100000 in
theorem walk_short (A : Option Addr) (c x : Nat) (l : List Nat) (w : World) (HA : Aside0 (FK.C w A l.length l)) (hn : l.length ≤ 1048576) :
    Calls Try.prog 5 #[.agg #[.slice A l.length c, .float .f32 x]] w fun e w' => e = .returned (.bool true) ∧ Below w.heap.size w w' := by
  have hl : ¬ (1048576 : Int) - (l.length : Int) < 0 := by omega
  go_enter Try.func5, Try.ntmps5
  go_wp2_with fail
  refine (szScheme_any A l.length c x 1048576 _ (by omega) (by omega) (by omega)).mono ?_
  rw [if_pos (by omega)]
  rintro e w0 ⟨rfl, bb0⟩
  have B0 := Aside0.mk bb0
  have q0 : (w.alloc (.cells #[.slice A l.length c, .float .f32 x] 36)).cell? ⟨w.heap.size, 0, none⟩ = some (.slice A l.length c) := by simp
  have q1 : (w.alloc (.cells #[.slice A l.length c, .float .f32 x] 36)).cell? ⟨w.heap.size, 1, none⟩ = some (.float .f32 x) := by simp
  have Q0 := Aside0.mk q0
  have Q1 := Aside0.mk q1
  have HA2 := Aside0.mk (Kd.C_alloc HA.out (.cells #[.slice A l.length c, .float .f32 x] 36))
  clear q0 q1
  have y0 := cell_step Q0.out B0.out
  have y1 := cell_step Q1.out B0.out
  clear bb0
  go_wp2_with fail
  refine (toScheme_any A c x l _ (Kd.C_below HA2.out B0.out) hn).mono ?_
  rintro e w1 ⟨v1, rfl, r1, bb1⟩
  obtain ⟨A1, c1, rfl, -, k1⟩ := Kd.R_reads r1
  have B1 := Aside0.mk (Below.trans B0.out (bb1.mono B0.out.size))
  have y0 := cell_step Q0.out B1.out
  have y1 := cell_step Q1.out B1.out
  have K1 := Aside0.mk k1
  clear r1 bb1 k1
  go_wp2_with fail
  refine (specValid_any A1 c1 x l _ K1.out).mono ?_
  rintro e w2 ⟨rfl, bb2⟩
  have B2 := Aside0.mk (Below.trans B1.out (bb2.mono B1.out.size))
  have y0 := cell_step Q0.out B2.out
  have y1 := cell_step Q1.out B2.out
  clear bb2
  go_wp2_with fail
  refine (toScheme_any A c x l _ (Kd.C_below HA2.out B2.out) hn).mono ?_
  rintro e w3 ⟨v3, rfl, r3, bb3⟩
  obtain ⟨A3, c3, rfl, hc3, k3⟩ := Kd.R_reads r3
  have B3 := Aside0.mk (Below.trans B2.out (bb3.mono B2.out.size))
  have y0 := cell_step Q0.out B3.out
  have y1 := cell_step Q1.out B3.out
  have K3 := Aside0.mk k3
  have HC3 := Aside0.mk hc3
  clear r3 bb3 k3 hc3
  go_wp2_with fail
  refine (ValidScheme_any A3 c3 x l _ (Kd.C_alloc K3.out _) HC3.out).mono ?_
  rintro e w4 ⟨rfl, bb4⟩
  have K4 := Aside0.mk (Kd.C_below (Kd.C_alloc K3.out _) bb4)
  have B4 := Aside0.mk (Below.trans (B3.out.alloc B3.out.size _) (bb4.mono (Nat.le_trans B3.out.size (by simp))))
  have y0 := cell_step Q0.out B4.out
  have y1 := cell_step Q1.out B4.out
  have z0 : w4.cell? ⟨w3.heap.size, 0, none⟩ = some (.slice A3 l.length c3) := cell_step (by simp) bb4
  have z1 : w4.cell? ⟨w3.heap.size, 1, none⟩ = some (.float .f32 x) := cell_step (by simp) bb4
  have Z0 := Aside0.mk z0
  have Z1 := Aside0.mk z1
  clear bb4
  go_wp2_with fail
  have Y0 := Aside0.mk y0
  have Y1 := Aside0.mk y1
  go_region_held3 (fun w' => w'.cell? ⟨w3.heap.size, 0, none⟩ = some (.slice A3 l.length c3) ∧ w'.cell? ⟨w3.heap.size, 1, none⟩ = some (.float .f32 x) ∧ w'.cell? ⟨w.heap.size, 0, none⟩ = some (.slice A l.length c) ∧ w'.cell? ⟨w.heap.size, 1, none⟩ = some (.float .f32 x)) (first | exact ⟨Z0.out, Z1.out, Y0.out, Y1.out⟩ | exact ⟨cell_step (w := w4.drew) Z0.out bb5, cell_step (w := w4.drew) Z1.out bb5, cell_step (w := w4.drew) Y0.out bb5, cell_step (w := w4.drew) Y1.out bb5⟩ | exact ⟨cell_step (cell_step (w := w4.drew) Z0.out bb5) bb6, cell_step (cell_step (w := w4.drew) Z1.out bb5) bb6, cell_step (cell_step (w := w4.drew) Y0.out bb5) bb6, cell_step (cell_step (w := w4.drew) Y1.out bb5) bb6⟩)
    (first
      | (go_at_call 23; refine (toScheme_any A c x l _ (Kd.C_drew (Kd.C_below HA2.out B4.out)) hn).mono ?_; rintro e w5 ⟨v5, rfl, r5, bb5⟩; obtain ⟨A5, c5, rfl, hx5, k5⟩ := Kd.R_reads r5; have B5 := Aside0.mk (Below.trans (Below.drew B4.out) (bb5.mono B4.out.size)); have K5 := Aside0.mk k5; have K4' := Aside0.mk (Kd.C_below (Kd.C_drew K4.out) bb5); clear r5 k5 hx5)
      | (go_at_call 25; refine (eqScheme_any A3 A5 c3 c5 x x l l _ K4'.out K5.out (SimL.refl _) (Sim.refl _ _)).mono ?_; rintro e w6 ⟨rfl, bb6⟩; have B6 := Aside0.mk (Below.trans B5.out (bb6.mono B5.out.size))))
  all_goals
    go_wp2
    go_ret
    exact ⟨rfl, Below.trans (below_alloc (Below.refl _ w) _) (B6.out.mono (by simp))⟩
theorem walk (w : World) (A : Option Addr) (len c x : Nat) (l : List Nat) (hr0 : FK.C w A len l) (_ : All32 l) :
    Calls Try.prog 5 #[.agg #[.slice A len c, .float .f32 x]] w fun e w' => e = .returned (.bool true) ∧ Below w.heap.size w w' := by
  obtain rfl := Kd.C_len hr0
  rcases Nat.lt_or_ge 1048576 l.length with h | h
  · exact walk_long A c x l w hr0 h
  · exact walk_short A c x l w ⟨hr0⟩ h

theorem own : ownKnob Try.prog.godebug = none := by kernel_rfl

theorem laidOut : laidOutB Try.prog = true := by kernel_rfl

set_option maxRecDepth 100000 in
theorem lifted (os : Os) (started : os.Started) (H : Type) (enc : TypeId × Value → H) :
    ReturnsInHanded {} Try.checked os 5 .any (Rows.fnExactValidSchemeSpec.pre6 enc Try.prog Try.f5 Rows.fnExactValidSchemeRow.domain false) (Rows.fnExactValidSchemeSpec.post enc Try.prog Try.f5 false true false false) := by
  refine returnsInHanded_of_change (C := Try.checked) own started (by kernel_rfl) Try.func5
    (ChangeSpec.witness6 (enc := enc) (C := Try.checked) false ⟨#[], #[.agg #[.slice none 0 0, .float .f32 0]], []⟩ 8 (by kernel_rfl) (by kernel_rfl) (by kernel_rfl) (by kernel_rfl)) ?_
  intro W base args ds gs before hval0 hW _ _
  have hval : ∀ (j : Nat) t v, Try.f5.params[j]? = some t → args[j]? = some v → Value.okWide Try.prog W .any base t v := hval0
  have hW' := hW
  obtain ⟨p, q, hA0, hV, rfl, _, _⟩ := hW
  have hA : DataW.TrodAll enc Try.prog W 0 (fun _ => true) true Try.f5.params.toList args.toList ds p := hA0
  rw [Try.params5] at hA hval
  obtain ⟨v0, vs0, d0, ds0, p0, q0, hargs, rfl, rfl, h0, r0⟩ := trodAll_cons hA
  obtain ⟨rfl, rfl, rfl⟩ := trodAll_nil r0
  obtain rfl : args = #[v0] := by cases args; simp_all
  obtain ⟨rfl, rfl⟩ := trodVars_none hV
  have k0 := h0
  have lt0 : ∀ x ∈ p0, x.block < W.heap.size := by obtain ⟨m, hm⟩ := k0; exact DataW.trod_lt m _ _ _ hm
  obtain ⟨a0, len0, cap0, x0, z0, rfl, c0, w0, _⟩ := open_scheme Try.underlying36 Try.underlying27 Try.underlying34 (by kernel_rfl) Try.underlying34 rfl rfl (by kernel_rfl) (by kernel_rfl) (by kernel_rfl) (hval 0 36 v0 rfl rfl) h0
  clear hA0 hval0
  simp only [List.append_nil] at hW'
  refine (walk W a0 len0 cap0 x0 z0 c0 w0).mono fun e W' ⟨he, bel⟩ => ?_
  subst he
  exact ⟨_, rfl, _, _, _, [], _, [], hW', trodAll_mk1 (shut_bool Try.underlying4 _), (trodAll_cons_mk (Below.trod laidOut (by kernel_rfl) (of_decide_eq_true (by kernel_rfl)) k0 bel lt0) trodAll_mk0), rfl, bel.frame _, fun h => by cases h⟩

theorem over : Rows.fnExactValidSchemeRow.holds Try.pinned (OpenSpec.ofChange Rows.fnExactValidSchemeSpec) :=
  OpenClaim.holds_of_wide 5 Try.f5 rfl rfl rfl rfl rfl rfl rfl ⟨rfl, rfl, rfl, rfl, rfl⟩ rfl rfl rfl rfl rfl (by kernel_rfl) Try.func5 (by kernel_rfl)
    (of_decide_eq_true (by kernel_rfl)) (by unfold Func.isWrapper; first | (rw [if_pos (by decide +kernel)]; kernel_rfl) | (rw [if_neg (by decide +kernel)]; exact ⟨rfl, rfl⟩))
    (fun os started H enc _ => lifted os started H enc)

theorem proved : Rows.FnExactValidSchemeSaid :=
  over
#print axioms proved
end Go.Proofs.Ytbpjkghbkjdodaa.fnExactValidScheme
