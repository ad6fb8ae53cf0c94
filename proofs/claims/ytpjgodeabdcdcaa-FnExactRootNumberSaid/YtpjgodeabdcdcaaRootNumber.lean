/- This proves that the law FnExactRootNumber returns true for every float32: the program's RootNumber and the reference's answer the same. No condition. -/
import Derived.Test.YtpjgodeabdcdcaaRows
import Derived.Test.YtpjgodeabdcdcaaSqrt
import Derived.Test.YtpjgodeabdcdcaaSame
import Derived.ProofKit
import Derived.OpenShut
import Derived.ShutString
namespace Go.Proofs.Ytpjgodeabdcdcaa.fnExactRootNumber
open Go.ChangeShapes Go.WideShapes Go.ChangeAt Go.RowKit Fl Ieee

/-- the root -/
def rootF (x : Nat) : Nat := cop .f64 (sop (cop .f32 x .f64)) .f32
theorem root_nar {x : Nat} (hx : x < 4294967296) : Nar (sop (cop .f32 x .f64)) := by
  rcases wide_kinds hx with ⟨_, h⟩ | ⟨s, h⟩ | ⟨_, h⟩
  · rcases sqrt_bd h (c := 1087) (by omega) (by omega) (by omega) (by omega) with g | g
    · exact .inl g
    · exact nar_of_bd g (by omega)
  · rw [h]; cases s
    · exact .inr ⟨single.word false single.infRung, by decide +kernel⟩
    · exact .inl (by decide +kernel)
  · rw [h]; exact .inl (by decide +kernel)
theorem root_sim {x : Nat} (hx : x < 4294967296) (w w' w'' : World) : Sim .f32 (cres .f64 (sres (cres .f32 x .f64 w) w') .f32 w'') (rootF x) :=
  nar_sim w'' (sres_of w' (wide_sim x w)) (root_nar hx)

theorem l01Narrow_any (x : Nat) (w : World) : Calls Try.prog 61 #[.float .f64 x] w fun e w' => e = .returned (.float .f32 (cres .f64 x .f32 w)) ∧ ∃ n, w' = w.drewN n := by
  go_enter Try.func61, Try.ntmps61
  go_wp2
  go_ret
  exact ⟨rfl, _, rfl⟩
theorem l01Sqrt_any (x : Nat) (hx : x < 4294967296) (w : World) : Calls Try.prog 44 #[.float .f32 x] w fun e w' => ∃ r n, e = .returned (.float .f32 r) ∧ Sim .f32 r (rootF x) ∧ w' = w.drewN n := by
  go_enter Try.func44, Try.ntmps44
  go_wp2_with (first | (go_at_call 45; refine (Sqrt_any _ _).mono ?_; rintro e w' ⟨rfl, rfl⟩) | (go_at_call 61; refine (l01Narrow_any _ _).mono ?_; rintro e w' ⟨rfl, n, rfl⟩))
  go_ret
  exact ⟨_, _, rfl, root_sim hx _ _ _, rfl⟩
theorem spec_any (x : Nat) (hx : x < 4294967296) (w : World) : Calls Try.prog 20 #[.float .f32 x] w fun e w' => ∃ r n, e = .returned (.float .f32 r) ∧ Sim .f32 r (rootF x) ∧ w' = w.drewN n := by
  go_enter Try.func20, Try.ntmps20
  go_wp2_with (go_at_call 44; refine (l01Sqrt_any _ hx _).mono ?_; rintro e w' ⟨r, n, rfl, hs, rfl⟩)
  go_ret
  exact ⟨_, _, rfl, hs, rfl⟩
theorem impl_any (x : Nat) (hx : x < 4294967296) (w : World) : Calls Try.prog 21 #[.float .f32 x] w fun e w' => ∃ r n, e = .returned (.float .f32 r) ∧ Sim .f32 r (rootF x) ∧ w' = w.drewN n := by
  go_enter Try.func21, Try.ntmps21
  go_wp2_with (go_at_call 45; refine (Sqrt_any _ _).mono ?_; rintro e w' ⟨rfl, rfl⟩)
  go_ret
  exact ⟨_, _, rfl, root_sim hx _ _ _, rfl⟩

theorem walk (x : Nat) (wx : (Lit.float .f32 x).wf = true) (w : World) :
    Calls Try.prog 5 #[.float .f32 x] w fun e w' => e = .returned (.bool true) ∧ Grown w w' := by
  have hx : x < 4294967296 := (wf_iff .f32 x).1 wx
  clear wx
  go_enter Try.func5, Try.ntmps5
  go_wp2_with (fail)
  refine (spec_any x hx _).mono ?_
  rintro e w' ⟨r, n, rfl, hr, rfl⟩
  go_wp2_with (fail)
  refine (impl_any x hx _).mono ?_
  rintro e w' ⟨q, m, rfl, hq, rfl⟩
  have hs := hq.trans hr.symm
  go_wp2_with (go_at_call 19; refine (sameFloat_any _ _ (wide_both _ _ hs) _).mono ?_; rintro e w' ⟨rfl, n, rfl⟩)
  go_ret
  exact ⟨rfl, by repeat (first | exact Grown.refl _ | apply grown_drewN)⟩

theorem own : ownKnob Try.prog.godebug = none := by kernel_rfl

set_option maxRecDepth 100000 in
theorem lifted (os : Os) (started : os.Started) (H : Type) (enc : TypeId × Value → H) :
    ReturnsInHanded {} Try.checked os 5 .any (Rows.fnExactRootNumberSpec.pre6 enc Try.prog Try.f5 Rows.fnExactRootNumberRow.domain false) (Rows.fnExactRootNumberSpec.post enc Try.prog Try.f5 false true false false) := by
  refine returnsInHanded_of_change (C := Try.checked) own started (by kernel_rfl) Try.func5
    (ChangeSpec.witness6 (enc := enc) (C := Try.checked) false ⟨#[], #[.float .f32 0], []⟩ 8 (by kernel_rfl) (by kernel_rfl) (by kernel_rfl) (by kernel_rfl)) ?_
  intro W base args ds gs before hval0 hW _ _
  have hval : ∀ (j : Nat) t v, Try.f5.params[j]? = some t → args[j]? = some v → Value.okWide Try.prog W .any base t v := hval0
  have hW' := hW
  obtain ⟨p, q, hA0, hV, rfl, _, _⟩ := hW
  have hA : DataW.TrodAll enc Try.prog W 0 (fun _ => true) true Try.f5.params.toList args.toList ds p := hA0
  rw [Try.params5] at hA hval
  obtain ⟨v0, vs0, d0, ds0, p0, q0, hargs, rfl, rfl, h0, r0⟩ := trodAll_cons hA
  obtain ⟨rfl, rfl, rfl⟩ := trodAll_nil r0
  obtain rfl : args = #[v0] := by cases args; simp_all
  obtain ⟨rfl, rfl⟩ := trodVars_none hV
  obtain ⟨a0, rfl, rfl, rfl, w0⟩ := open_float Try.underlying24 (hval 0 24 v0 rfl rfl) h0
  clear hA0 hval0
  simp only [List.append_nil] at hW'
  refine (walk a0 w0 W).mono fun e W' ⟨he, hg⟩ => ?_
  subst he
  exact ⟨_, rfl, post_of_same (pa := []) (pv := []) hW' (fun _ _ _ => (trodAll_cons_mk (shut_bool Try.underlying4 _) trodAll_mk0)) (fun _ _ => (trodAll_cons_mk (shut_float Try.underlying24 w0) trodAll_mk0)) (fun _ _ => rfl) rfl
    (hg.frame _) hg.2.1 (ok_one (by kernel_rfl) rfl (okWide_bool_mk Try.underlying4 _))⟩

theorem over : Rows.fnExactRootNumberRow.holds Try.pinned (OpenSpec.ofChange Rows.fnExactRootNumberSpec) :=
  OpenClaim.holds_of_wide 5 Try.f5 rfl rfl rfl rfl rfl rfl rfl ⟨rfl, rfl, rfl, rfl, rfl⟩ rfl rfl rfl rfl rfl (by kernel_rfl) Try.func5 (by kernel_rfl)
    (of_decide_eq_true (by kernel_rfl)) (by unfold Func.isWrapper; first | (rw [if_pos (by decide +kernel)]; kernel_rfl) | (rw [if_neg (by decide +kernel)]; exact ⟨rfl, rfl⟩))
    (fun os started H enc _ => lifted os started H enc)

theorem proved : Rows.FnExactRootNumberSaid :=
  over
#print axioms proved
end Go.Proofs.Ytpjgodeabdcdcaa.fnExactRootNumber
