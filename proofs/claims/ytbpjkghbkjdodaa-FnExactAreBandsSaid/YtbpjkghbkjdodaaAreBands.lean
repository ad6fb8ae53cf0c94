/- This proves that the law FnExactAreBands returns true for all rows of rows of float32 numbers: the program's AreBands and the reference's answer the same, and leave the rows alone. No condition. -/
import Derived.Test.YtbpjkghbkjdodaaRows
import Derived.Test.YtbpjkghbkjdodaaPBnd
import Derived.Test.YtbpjkghbkjdodaaRowFF
import Derived.ProofKit
import Derived.OpenShut
import Derived.ShutString
import Derived.ChangeOld
import Derived.Below
namespace Go.Proofs.Ytbpjkghbkjdodaa.fnExactAreBands
open Go.ChangeShapes Go.WideShapes Go.ChangeAt
open Go.RowKit Go.Proofs.YtbpjkghbkjdodaaW.PrintWords Go.Proofs.YtbpjkghbkjdodaaW.PrintLast Go.Proofs.Ytbpjkghbkjdodaa.SBnd

theorem walk (w : World) (A : Option Addr) (len c : Nat) (z : List (List Int)) (hr : (Kd.slice 34 FKI).C w A len z) (hz : z.length = len ∧ len ≤ c) :
    Calls Try.prog 3 #[.slice A len c] w fun e w' => e = .returned (.bool true) ∧ Below w.heap.size w w' := by
  obtain ⟨rfl, hc⟩ := hz
  have hrow : ∀ r ∈ z, r.length ≤ 9223372036854775807 := by
    intro r h
    obtain ⟨i, hi, he⟩ := List.getElem_of_mem h
    obtain ⟨_, _, _, _, _, _, hC⟩ := at_L1 hr (i : Int) (by omega) (by omega)
    have := Kd.C_max hC
    rw [rdL, List.getD_eq_getElem?_getD, List.getElem?_eq_getElem hi] at this
    rw [← he]; exact this
  obtain ⟨k, hk⟩ := law z (Kd.C_max hr) hrow
  exact laws_FnExactAreBands.calls k A c z true w hr hc hk

theorem own : ownKnob Try.prog.godebug = none := by kernel_rfl

theorem laidOut : laidOutB Try.prog = true := by kernel_rfl

set_option maxRecDepth 100000 in
theorem lifted (os : Os) (started : os.Started) (H : Type) (enc : TypeId × Value → H) :
    ReturnsInHanded {} Try.checked os 3 .any (Rows.fnExactAreBandsSpec.pre6 enc Try.prog Try.f3 Rows.fnExactAreBandsRow.domain false) (Rows.fnExactAreBandsSpec.post enc Try.prog Try.f3 false true false false) := by
  refine returnsInHanded_of_change (C := Try.checked) own started (by kernel_rfl) Try.func3
    (ChangeSpec.witness6 (enc := enc) (C := Try.checked) false ⟨#[], #[.slice none 0 0], []⟩ 8 (by kernel_rfl) (by kernel_rfl) (by kernel_rfl) (by kernel_rfl)) ?_
  intro W base args ds gs before hval0 hW _ _
  have hval : ∀ (j : Nat) t v, Try.f3.params[j]? = some t → args[j]? = some v → Value.okWide Try.prog W .any base t v := hval0
  have hW' := hW
  obtain ⟨p, q, hA0, hV, rfl, _, _⟩ := hW
  have hA : DataW.TrodAll enc Try.prog W 0 (fun _ => true) true Try.f3.params.toList args.toList ds p := hA0
  rw [Try.params3] at hA hval
  obtain ⟨v0, vs0, d0, ds0, p0, q0, hargs, rfl, rfl, h0, r0⟩ := trodAll_cons hA
  obtain ⟨rfl, rfl, rfl⟩ := trodAll_nil r0
  obtain rfl : args = #[v0] := by cases args; simp_all
  obtain ⟨rfl, rfl⟩ := trodVars_none hV
  obtain ⟨a0, len0, cap0, rfl⟩ := okWide_slice Try.underlying22 (hval 0 22 v0 rfl rfl)
  have k0 := h0
  have lt0 : ∀ x ∈ p0, x.block < W.heap.size := by obtain ⟨m, hm⟩ := k0; exact DataW.trod_lt m _ _ _ hm
  obtain ⟨z0, c0, w0⟩ := open_f32ss Try.underlying22 Try.underlying27 Try.underlying34 (by kernel_rfl) (by kernel_rfl) h0
  clear hA0 hval0
  simp only [List.append_nil] at hW'
  refine (walk W a0 len0 cap0 z0 c0 w0).mono fun e W' ⟨he, bel⟩ => ?_
  subst he
  exact ⟨_, rfl, _, _, _, [], _, [], hW', trodAll_mk1 (shut_bool Try.underlying4 _), (trodAll_cons_mk (Below.trod laidOut (by kernel_rfl) (of_decide_eq_true (by kernel_rfl)) k0 bel lt0) trodAll_mk0), rfl, bel.frame _, fun h => by cases h⟩

theorem over : Rows.fnExactAreBandsRow.holds Try.pinned (OpenSpec.ofChange Rows.fnExactAreBandsSpec) :=
  OpenClaim.holds_of_wide 3 Try.f3 rfl rfl rfl rfl rfl rfl rfl ⟨rfl, rfl, rfl, rfl, rfl⟩ rfl rfl rfl rfl rfl (by kernel_rfl) Try.func3 (by kernel_rfl)
    (of_decide_eq_true (by kernel_rfl)) (by unfold Func.isWrapper; first | (rw [if_pos (by decide +kernel)]; kernel_rfl) | (rw [if_neg (by decide +kernel)]; exact ⟨rfl, rfl⟩))
    (fun os started H enc _ => lifted os started H enc)

theorem proved : Rows.FnExactAreBandsSaid :=
  over
#print axioms proved
end Go.Proofs.Ytbpjkghbkjdodaa.fnExactAreBands
