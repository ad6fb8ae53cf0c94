/- This proves that the law FnExactIsSubnormal returns true for every float32: the program's IsSubnormal and the reference's answer the same. No condition. -/
import Derived.Test.YtmkbipplkjhpeaaRows
import Derived.Test.YtmkbipplkjhpeaaIsSubI
import Derived.ProofKit
import Derived.OpenShut
import Derived.ShutString
namespace Go.Proofs.Ytmkbipplkjhpeaa.fnExactIsSubnormal
open Go.ChangeShapes Go.WideShapes Go.ChangeAt Go.RowKit Fl Ieee

theorem spec_any (x : Nat) (hx : x < 4294967296) (w : World) : Calls Try.prog 20 #[.float .f32 x] w fun e w' => e = .returned (.bool (subB x)) ∧ w = w' := by
  by_cases hz : FloatKind.f32.format.order x 0 = some .eq
  · have hn : isN .f32 x = false := by
      cases h : isN .f32 x
      · rfl
      · rw [order_nan_l h] at hz; cases hz
    have hs : subB x = false := by unfold subB; rw [decide_eq_false_iff_not]; intro h; exact h.1 ((order_zero hx hn).1 hz)
    rw [hs]; clear hs hn
    go_enter Try.func20, Try.ntmps20
    go_wp2
    go_ret
    exact ⟨rfl, rfl⟩
  · have hb : (FloatKind.f32.format.order x 0 != some .eq) = true := by simpa using hz
    have hs : subB x = (bits .and .i64 (bitsN x) 2139095040 == 0) := by
      unfold subB
      by_cases hn : isN .f32 x = true
      · have h2 : ¬ x % 2147483648 < 8388608 := by
          intro g
          obtain ⟨s, t, e⟩ := (isN_iff _ _).1 hn
          unfold FloatKind.decode Format.read at e
          simp only [fmt32, S32, B32] at e
          rw [if_pos g] at e
          cases e
        have e1 : bits .and .i64 (bitsN x) 2139095040 = 2139095040 := by
          unfold bitsN; rw [if_pos hn]; exact and_exp 2143289344 (by omega)
        rw [e1]
        simp [h2]
      · have h0 : x % 2147483648 ≠ 0 := fun e => hz ((order_zero hx (by simpa using hn)).2 e)
        have e1 : bits .and .i64 (bitsN x) 2139095040 = ((x / 8388608 % 256 * 8388608 : Nat) : Int) := by
          unfold bitsN; rw [if_neg hn]; exact and_exp x hx
        rw [e1, Bool.eq_iff_iff]
        simp only [decide_eq_true_eq, beq_iff_eq]
        have := exp_zero (x := x)
        omega
    have HS := Lib.hid hs
    clear hs hz
    go_enter Try.func20, Try.ntmps20
    go_wp2_with (go_at_call 28; refine (l01Bits_any _ hx _).mono ?_; rintro e w' ⟨rfl, rfl⟩)
    go_ret
    exact ⟨by rw [HS.out]; rfl, rfl⟩

theorem walk (x : Nat) (wx : (Lit.float .f32 x).wf = true) (w : World) :
    Calls Try.prog 8 #[.float .f32 x] w fun e w' => e = .returned (.bool true) ∧ Grown w w' := by
  have hx : x < 4294967296 := (wf_iff .f32 x).1 wx
  clear wx
  go_enter Try.func8, Try.ntmps8
  go_wp2_with (first | (go_at_call 20; refine (spec_any _ hx _).mono ?_; rintro e w' ⟨rfl, rfl⟩) | (go_at_call 21; refine (IsSubnormal_any _ hx _).mono ?_; rintro e w' ⟨rfl, n, rfl⟩))
  go_ret
  exact ⟨rfl, grown_drewN _ (Grown.refl _)⟩

theorem own : ownKnob Try.prog.godebug = none := by kernel_rfl

set_option maxRecDepth 100000 in
theorem lifted (os : Os) (started : os.Started) (H : Type) (enc : TypeId × Value → H) :
    ReturnsInHanded {} Try.checked os 8 .any (Rows.fnExactIsSubnormalSpec.pre6 enc Try.prog Try.f8 Rows.fnExactIsSubnormalRow.domain false) (Rows.fnExactIsSubnormalSpec.post enc Try.prog Try.f8 false true false false) := by
  refine returnsInHanded_of_change (C := Try.checked) own started (by kernel_rfl) Try.func8
    (ChangeSpec.witness6 (enc := enc) (C := Try.checked) false ⟨#[], #[.float .f32 0], []⟩ 8 (by kernel_rfl) (by kernel_rfl) (by kernel_rfl) (by kernel_rfl)) ?_
  intro W base args ds gs before hval0 hW _ _
  have hval : ∀ (j : Nat) t v, Try.f8.params[j]? = some t → args[j]? = some v → Value.okWide Try.prog W .any base t v := hval0
  have hW' := hW
  obtain ⟨p, q, hA0, hV, rfl, _, _⟩ := hW
  have hA : DataW.TrodAll enc Try.prog W 0 (fun _ => true) true Try.f8.params.toList args.toList ds p := hA0
  rw [Try.params8] at hA hval
  obtain ⟨v0, vs0, d0, ds0, p0, q0, hargs, rfl, rfl, h0, r0⟩ := trodAll_cons hA
  obtain ⟨rfl, rfl, rfl⟩ := trodAll_nil r0
  obtain rfl : args = #[v0] := by cases args; simp_all
  obtain ⟨rfl, rfl⟩ := trodVars_none hV
  obtain ⟨a0, rfl, rfl, rfl, w0⟩ := open_float Try.underlying23 (hval 0 23 v0 rfl rfl) h0
  clear hA0 hval0
  simp only [List.append_nil] at hW'
  refine (walk a0 w0 W).mono fun e W' ⟨he, hg⟩ => ?_
  subst he
  exact ⟨_, rfl, post_of_same (pa := []) (pv := []) hW' (fun _ _ _ => (trodAll_cons_mk (shut_bool Try.underlying4 _) trodAll_mk0)) (fun _ _ => (trodAll_cons_mk (shut_float Try.underlying23 w0) trodAll_mk0)) (fun _ _ => rfl) rfl
    (hg.frame _) hg.2.1 (ok_one (by kernel_rfl) rfl (okWide_bool_mk Try.underlying4 _))⟩

theorem over : Rows.fnExactIsSubnormalRow.holds Try.pinned (OpenSpec.ofChange Rows.fnExactIsSubnormalSpec) :=
  OpenClaim.holds_of_wide 8 Try.f8 rfl rfl rfl rfl rfl rfl rfl ⟨rfl, rfl, rfl, rfl, rfl⟩ rfl rfl rfl rfl rfl (by kernel_rfl) Try.func8 (by kernel_rfl)
    (of_decide_eq_true (by kernel_rfl)) (by unfold Func.isWrapper; first | (rw [if_pos (by decide +kernel)]; kernel_rfl) | (rw [if_neg (by decide +kernel)]; exact ⟨rfl, rfl⟩))
    (fun os started H enc _ => lifted os started H enc)

theorem proved : Rows.FnExactIsSubnormalSaid :=
  over
#print axioms proved
end Go.Proofs.Ytmkbipplkjhpeaa.fnExactIsSubnormal
