/- This proves that the law FnExactNineScheme returns true: the program's NineScheme and the reference's answer the same scheme, and share no memory. No condition. -/
import Derived.Test.YtgmioegepmoopaaRows
import Derived.Test.YtgmioegepmoopaaScheme
import Derived.ProofKit
import Derived.OpenShut
import Derived.ShutString
import Derived.ChangeOld
import Derived.Below
namespace Go.Proofs.Ytgmioegepmoopaa.fnExactNineScheme
open Go.ChangeShapes Go.WideShapes Go.ChangeAt
open Go.RowKit Go.Proofs.YtgmioegepmoopaaW.PrintWords Go.Proofs.YtgmioegepmoopaaW.PrintLast Fl

def theW : List Nat := [3217753715, 3176726958, 1063388790, 1055069013]
theorem theW_length : theW.length = 4 := rfl
theorem two_rows (w : World) (o : Obj) (h : theW.length ≤ 100) : FK.R 22 ((w.alloc o).alloc (.cells #[.float .f32 3217753715, .float .f32 3176726958, .float .f32 1063388790, .float .f32 1055069013] 22)) w.heap.size (fun _ => True) (.slice (some ⟨w.heap.size + 1, 0, none⟩) 4 4) theW := by
  have h1 := World.ownsRow_lit (base := w.heap.size) (e := 22) (size := 1) (w.alloc o) #[.float .f32 3217753715, .float .f32 3176726958, .float .f32 1063388790, .float .f32 1055069013] 4 (by rw [World.size_alloc]; omega) (by have := h; simp only [maxLen]; omega) rfl
  rw [World.size_alloc] at h1
  exact Kd.R_of_own (enc := Value.float .f32) (xs := theW) h1 (fun _ _ => trivial)

set_option maxHeartbeats 1000000 in
set_option maxRecDepth 100000 in
theorem spec_any (w : World) :
    Calls Try.prog 45 #[] w fun e w' => ∃ v : Value, e = .returned (.agg #[v, .float .f32 1066608189]) ∧ Aside0 (FK.R 22 w' w.heap.size (fun _ => True) v theW) ∧ Aside0 (Below w.heap.size w w') := by
  go_enter Try.func45, Try.ntmps45
  go_wp2
  refine bodyPost_ret (v := .agg #[.slice (some ⟨w.heap.size + 1, 0, none⟩) 4 4, .float .f32 1066608189]) (by simp [results, Try.results45, go_sem]) rfl ⟨_, rfl, ⟨?_⟩, ⟨below_alloc (below_alloc (Below.refl _ _) _) _⟩⟩
  exact two_rows w _ (by decide)

set_option maxHeartbeats 1000000 in
set_option maxRecDepth 100000 in
theorem impl_any (w : World) :
    Calls Try.prog 46 #[] w fun e w' => ∃ v : Value, e = .returned (.agg #[v, .float .f32 1066608189]) ∧ Aside0 (FK.R 22 w' w.heap.size (fun _ => True) v theW) ∧ Aside0 (Below w.heap.size w w') := by
  go_enter Try.func46, Try.ntmps46
  go_wp2
  refine bodyPost_ret (v := .agg #[.slice (some ⟨w.heap.size + 1, 0, none⟩) 4 4, .float .f32 1066608189]) (by simp [results, Try.results46, go_sem]) rfl ⟨_, rfl, ⟨?_⟩, ⟨below_alloc (below_alloc (Below.refl _ _) _) _⟩⟩
  exact two_rows w _ (by decide)

set_option maxHeartbeats 1000000 in
set_option maxRecDepth 100000 in
theorem walk (w : World) : Calls Try.prog 13 #[] w fun e w' => e = .returned (.bool true) ∧ Below w.heap.size w w' := by
  go_enter Try.func13, Try.ntmps13
  go_wp2_with fail
  refine (spec_any _).mono ?_
  rintro e w1 ⟨v1, rfl, R1, B1⟩
  obtain ⟨g1, c1, rfl, -, gl1, -⟩ := Kd.R_form R1.out (by decide)
  rw [theW_length] at *
  go_wp2_with fail
  refine (impl_any _).mono ?_
  rintro e w2 ⟨v2, rfl, R2, B2⟩
  obtain ⟨g2, c2, rfl, gb2, gl2, -⟩ := Kd.R_form R2.out (by decide)
  rw [theW_length] at *
  rw [World.size_alloc] at gb2
  have hx0 := cell_step (o := 0) (World.cell?_alloc_new w1 _ _ 0) B2.out
  have hx1 := cell_step (o := 1) (World.cell?_alloc_new w1 _ _ 1) B2.out
  have hlt1 := cell_size hx0
  have B2' : Aside0 (Below w.heap.size w w2) := ⟨below_step (below_alloc B1.out _) B2.out⟩
  have R1' : Aside0 (FK.R 22 w2 w.heap.size (fun k => True ∧ some k ≠ some g2) _ theW) := ⟨Kd.R_elder (Kd.R_alloc R1.out _) R2.out B2.out⟩
  have hw1 : w.heap.size ≤ w1.heap.size := B1.out.size
  clear R1 B1 gl1
  go_wp2_with fail
  refine (eqScheme_any (some ⟨g2, 0, none⟩) (some ⟨g1, 0, none⟩) c2 c1 1066608189 1066608189 theW theW _ (Kd.C_alloc (Kd.R_reads' R2.out).2.2 _) (Kd.C_alloc (Kd.R_reads' R1'.out).2.2 _) (SimL.refl _) (Sim.refl _ _)).mono ?_
  rintro e w3 ⟨rfl, b3⟩
  have hy0 := cell_step (o := 0) (World.cell?_alloc_new w2 _ _ 0) b3
  have hy1 := cell_step (o := 1) (World.cell?_alloc_new w2 _ _ 1) b3
  replace hx0 := cell_step (cell_alloc hx0 _) b3
  replace hx1 := cell_step (cell_alloc hx1 _) b3
  have hlt2 := cell_size hy0
  have R13 : Aside0 (FK.R 22 w3 w.heap.size (fun k => True ∧ some k ≠ some g2) _ theW) := ⟨Kd.R_below (Kd.R_alloc R1'.out _) b3⟩
  have R23 := Aside0.mk (Kd.R_below (Kd.R_alloc R2.out _) b3)
  have B3 := Aside0.mk (below_step (below_alloc B2'.out _) b3)
  clear b3 R1' R2 B2' B2
  go_wp2_with fail
  refine (markScheme_any _ 1066608189 theW 1 _ _ _ R23.out (by decide) (by omega) (by decide)).mono ?_
  rintro e w4 ⟨wm, rfl, bm, R24, hg0⟩
  have hg : Aside0 (wm.grownBy w4 (some g2)) := ⟨hg0.out⟩
  clear hg0
  replace hx0 := cell_grown (cell_step hx0 bm.out) hg.out (by omega)
  replace hx1 := cell_grown (cell_step hx1 bm.out) hg.out (by omega)
  replace hy0 := cell_grown (cell_step hy0 bm.out) hg.out (by omega)
  replace hy1 := cell_grown (cell_step hy1 bm.out) hg.out (by omega)
  have hlt3 := cell_size hx0
  have hlt4 := cell_size hy0
  have R14 : Aside0 (FK.R 22 w4 w.heap.size (fun k => True ∧ some k ≠ some g2) _ theW) := ⟨Kd.R_grown (Kd.R_below R13.out bm.out) hg.out (fun k hk => hk.2)⟩
  have B4 : Aside0 (Below w.heap.size w w4) := ⟨(below_step B3.out bm.out).grown hg.out (Nat.le_trans B3.out.size bm.out.size) (fun k hk => by have := Option.some.inj hk; omega)⟩
  clear bm hg R13 R23 B3
  have K24 : Aside0 (FK.C w4 (some ⟨g2, 0, none⟩) 4 (marks 1 4)) := ⟨by have := (Kd.R_reads' R24.out).2.2; rwa [marks_length] at this⟩
  go_wp2_with fail
  refine (heldScheme_any (some ⟨g2, 0, none⟩) c2 4 1066608189 1 _ K24.out (by omega) (by omega)).mono ?_
  rintro e w5 ⟨rfl, b5⟩
  replace hx0 := cell_step hx0 b5
  replace hx1 := cell_step hx1 b5
  replace hy0 := cell_step hy0 b5
  replace hy1 := cell_step hy1 b5
  have hlt5 := cell_size hx0
  have hlt6 := cell_size hy0
  have R15 : Aside0 (FK.R 22 w5 w.heap.size (fun k => True ∧ some k ≠ some g2) _ theW) := ⟨Kd.R_below R14.out b5⟩
  have K25 := Aside0.mk (Kd.C_below K24.out b5)
  have B5 := Aside0.mk (below_step B4.out b5)
  clear b5 R14 K24 B4 R24
  go_wp2_with fail
  refine (impl_any _).mono ?_
  rintro e w6 ⟨v6, rfl, R6, B6⟩
  obtain ⟨g6, c6, rfl, -, -, -⟩ := Kd.R_form R6.out (by decide)
  rw [theW_length] at *
  replace hx0 := cell_step hx0 B6.out
  replace hx1 := cell_step hx1 B6.out
  replace hy0 := cell_step hy0 B6.out
  replace hy1 := cell_step hy1 B6.out
  have hlt7 := cell_size hx0
  have hlt8 := cell_size hy0
  have R16 : Aside0 (FK.R 22 w6 w.heap.size (fun k => True ∧ some k ≠ some g2) _ theW) := ⟨Kd.R_below R15.out B6.out⟩
  have K26 := Aside0.mk (Kd.C_below K25.out B6.out)
  have B6' := Aside0.mk (below_step B5.out B6.out)
  clear B6 R15 K25 B5
  go_wp2_with fail
  refine (eqScheme_any (some ⟨g6, 0, none⟩) (some ⟨g1, 0, none⟩) c6 c1 1066608189 1066608189 theW theW _ (Kd.C_alloc (Kd.R_reads' R6.out).2.2 _) (Kd.C_alloc (Kd.R_reads' R16.out).2.2 _) (SimL.refl _) (Sim.refl _ _)).mono ?_
  rintro e w7 ⟨rfl, b7⟩
  replace hy0 := cell_step (cell_alloc hy0 _) b7
  replace hy1 := cell_step (cell_alloc hy1 _) b7
  have hlt9 := cell_size hy0
  have K27 := Aside0.mk (Kd.C_below (Kd.C_alloc K26.out _) b7)
  have B7 := Aside0.mk (below_step (below_alloc B6'.out _) b7)
  clear b7 hx0 hx1 R16 K26 B6' R6
  go_wp2_with fail
  refine (heldScheme_any (some ⟨g2, 0, none⟩) c2 4 1066608189 1 _ K27.out (by omega) (by omega)).mono ?_
  rintro e w8 ⟨rfl, b8⟩
  go_wp2
  go_ret
  exact ⟨rfl, below_step B7.out b8⟩

theorem own : ownKnob Try.prog.godebug = none := by kernel_rfl

theorem laidOut : laidOutB Try.prog = true := by kernel_rfl

set_option maxRecDepth 100000 in
theorem lifted (os : Os) (started : os.Started) (H : Type) (enc : TypeId × Value → H) :
    ReturnsInHanded {} Try.checked os 13 .any (Rows.fnExactNineSchemeSpec.pre6 enc Try.prog Try.f13 Rows.fnExactNineSchemeRow.domain false) (Rows.fnExactNineSchemeSpec.post enc Try.prog Try.f13 false true false false) := by
  refine returnsInHanded_of_change (C := Try.checked) own started (by kernel_rfl) Try.func13
    (ChangeSpec.witness6 (enc := enc) (C := Try.checked) false ⟨#[], #[], []⟩ 8 (by kernel_rfl) (by kernel_rfl) (by kernel_rfl) (by kernel_rfl)) ?_
  intro W base args ds gs before hval0 hW _ _
  have hval : ∀ (j : Nat) t v, Try.f13.params[j]? = some t → args[j]? = some v → Value.okWide Try.prog W .any base t v := hval0
  have hW' := hW
  obtain ⟨p, q, hA0, hV, rfl, _, _⟩ := hW
  have hA : DataW.TrodAll enc Try.prog W 0 (fun _ => true) true Try.f13.params.toList args.toList ds p := hA0
  rw [Try.params13] at hA
  obtain ⟨rfl, rfl, rfl⟩ := trodAll_none hA
  obtain ⟨rfl, rfl⟩ := trodVars_none hV
  clear hA0 hval0
  simp only [List.append_nil] at hW'
  refine (walk W ).mono fun e W' ⟨he, bel⟩ => ?_
  subst he
  exact ⟨_, rfl, _, _, _, [], _, [], hW', trodAll_mk1 (shut_bool Try.underlying4 _), rfl, rfl, bel.frame _, fun h => by cases h⟩

theorem over : Rows.fnExactNineSchemeRow.holds Try.pinned (OpenSpec.ofChange Rows.fnExactNineSchemeSpec) :=
  OpenClaim.holds_of_wide 13 Try.f13 rfl rfl rfl rfl rfl rfl rfl ⟨rfl, rfl, rfl, rfl, rfl⟩ rfl rfl rfl rfl rfl (by kernel_rfl) Try.func13 (by kernel_rfl)
    (of_decide_eq_true (by kernel_rfl)) (by unfold Func.isWrapper; first | (rw [if_pos (by decide +kernel)]; kernel_rfl) | (rw [if_neg (by decide +kernel)]; exact ⟨rfl, rfl⟩))
    (fun os started H enc _ => lifted os started H enc)

theorem proved : Rows.FnExactNineSchemeSaid :=
  over
#print axioms proved
end Go.Proofs.Ytgmioegepmoopaa.fnExactNineScheme
