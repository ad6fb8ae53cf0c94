/- This proves that the law FnExactPhasorOf returns true for every float64: the program's PhasorOf and the reference's answer the same. No condition. -/
import Derived.Test.YtpjgodeabdcdcaaRows
import Derived.Test.YtpjgodeabdcdcaaPhasor
import Derived.Test.YtpjgodeabdcdcaaCplx
import Derived.ProofKit
import Derived.OpenShut
import Derived.ShutString
namespace Go.Proofs.Ytpjgodeabdcdcaa.fnExactPhasorOf
open Go.ChangeShapes Go.WideShapes Go.ChangeAt Go.RowKit Fl Ieee

theorem l01From_any (w : World) : Calls Try.prog 66 #[.int .i64 2143289344] w fun e w' => e = .returned (.float .f32 2143289344) ∧ w = w' := by
  go_enter Try.func66, Try.ntmps66
  go_wp2
  go_ret
  exact ⟨rfl, rfl⟩
theorem lp_no (y : Nat) (g0 : (FloatKind.f64.format.order (fop .sub .f64 y y) 0 != some .eq) = true) (w : World) : Calls Try.prog 47 #[.float .f64 y] w fun e w' => e = .returned (.complex .f32 2143289344 2143289344) ∧ ∃ n, w' = w.drewN n := by
  go_enter Try.func47, Try.ntmps47
  go_wp2_with (go_at_call 66; refine (l01From_any _).mono ?_; rintro e w' ⟨rfl, rfl⟩)
  go_ret
  exact ⟨rfl, _, rfl⟩
theorem lp_big (y : Nat) (g0 : (FloatKind.f64.format.order (fop .sub .f64 y y) 0 != some .eq) = false) (hbig : (FloatKind.f64.format.order y 4841369599423283200 == some .gt || FloatKind.f64.format.order y 4841369599423283200 == some .eq) = true) (w : World) : Calls Try.prog 47 #[.float .f64 y] w fun e w' => e = .returned (.complex .f32 1065353216 0) ∧ ∃ n, w' = w.drewN n := by
  go_enter Try.func47, Try.ntmps47
  go_wp2
  go_ret
  exact ⟨rfl, _, rfl⟩
theorem lp_low (y : Nat) (g0 : (FloatKind.f64.format.order (fop .sub .f64 y y) 0 != some .eq) = false) (hbig : (FloatKind.f64.format.order y 4841369599423283200 == some .gt || FloatKind.f64.format.order y 4841369599423283200 == some .eq) = false) (hlow : (FloatKind.f64.format.order y 14064741636278059008 == some .lt || FloatKind.f64.format.order y 14064741636278059008 == some .eq) = true) (w : World) : Calls Try.prog 47 #[.float .f64 y] w fun e w' => e = .returned (.complex .f32 1065353216 0) ∧ ∃ n, w' = w.drewN n := by
  go_enter Try.func47, Try.ntmps47
  go_wp2
  go_ret
  exact ⟨rfl, _, rfl⟩
theorem spec_of (y A B : Nat) (h : ∀ w, Calls Try.prog 47 #[.float .f64 y] w fun e w' => ∃ a b, e = .returned (.complex .f32 a b) ∧ Sim .f32 a A ∧ Sim .f32 b B ∧ ∃ c, w' = w.drewN c) (w : World) :
    Calls Try.prog 23 #[.float .f64 y] w fun e w' => ∃ a b, e = .returned (.complex .f32 a b) ∧ Sim .f32 a A ∧ Sim .f32 b B ∧ ∃ c, w' = w.drewN c := by
  have H := Lib.hid h
  clear h
  go_enter Try.func23, Try.ntmps23
  go_wp2_with (go_at_call 47; refine (H.out _).mono ?_; rintro e w' ⟨a, b, rfl, ha, hb, n, rfl⟩)
  go_ret
  exact ⟨_, _, rfl, ha, hb, _, rfl⟩
theorem impl_no (y : Nat) (g0 : (FloatKind.f64.format.order (fop .sub .f64 y y) 0 == some .eq) = false) (w : World) : Calls Try.prog 24 #[.float .f64 y] w fun e w' => ∃ a b, e = .returned (.complex .f32 a b) ∧ Sim .f32 a 2143289344 ∧ Sim .f32 b 2143289344 ∧ ∃ n, w' = w.drewN n := by
  go_enter Try.func24, Try.ntmps24
  go_wp2_with (first | (go_at_call 48; refine (isFinite64_any _ _).mono ?_; rintro e w' ⟨rfl, m, rfl⟩) | (go_at_call 38; refine (NaN_any _).mono ?_; rintro e w' ⟨rfl, rfl⟩))
  go_ret
  have hn : ∀ w, Sim .f32 (cres .f64 9221120237041090561 .f32 w) 2143289344 := fun w => .inr ⟨cres_nan w (by decide) (by decide +kernel), by decide +kernel⟩
  exact ⟨_, _, rfl, hn _, hn _, _, rfl⟩
theorem impl_big (y : Nat) (g0 : (FloatKind.f64.format.order (fop .sub .f64 y y) 0 == some .eq) = true) (hy : y < 18446744073709551616) (hbig : (FloatKind.f64.format.order (y % 9223372036854775808) 4841369599423283200 == some .gt || FloatKind.f64.format.order (y % 9223372036854775808) 4841369599423283200 == some .eq) = true) (w : World) : Calls Try.prog 24 #[.float .f64 y] w fun e w' => ∃ a b, e = .returned (.complex .f32 a b) ∧ Sim .f32 a 1065353216 ∧ Sim .f32 b 0 ∧ ∃ n, w' = w.drewN n := by
  have HY := Lib.hid hy
  clear hy
  go_enter Try.func24, Try.ntmps24
  go_wp2_with (first | (go_at_call 48; refine (isFinite64_any _ _).mono ?_; rintro e w' ⟨rfl, m, rfl⟩) | (go_at_call 42; refine (Abs_any _ HY.out _).mono ?_; rintro e w' ⟨rfl, rfl⟩))
  go_ret
  exact ⟨_, _, rfl, Sim.refl .., Sim.refl .., _, rfl⟩

/-- both compute the same -/
theorem both (y : Nat) (hy : y < 18446744073709551616) : ∃ A B, (∀ w, Calls Try.prog 23 #[.float .f64 y] w fun e w' => ∃ a b, e = .returned (.complex .f32 a b) ∧ Sim .f32 a A ∧ Sim .f32 b B ∧ ∃ c, w' = w.drewN c) ∧
    (∀ w, Calls Try.prog 24 #[.float .f64 y] w fun e w' => ∃ a b, e = .returned (.complex .f32 a b) ∧ Sim .f32 a A ∧ Sim .f32 b B ∧ ∃ c, w' = w.drewN c) := by
  have no : isN .f64 (fop .sub .f64 y y) = true → ∃ A B, (∀ w, Calls Try.prog 23 #[.float .f64 y] w fun e w' => ∃ a b, e = .returned (.complex .f32 a b) ∧ Sim .f32 a A ∧ Sim .f32 b B ∧ ∃ c, w' = w.drewN c) ∧
    (∀ w, Calls Try.prog 24 #[.float .f64 y] w fun e w' => ∃ a b, e = .returned (.complex .f32 a b) ∧ Sim .f32 a A ∧ Sim .f32 b B ∧ ∃ c, w' = w.drewN c) := fun h =>
    ⟨_, _, spec_of y _ _ (fun w => (lp_no y (self_no h) w).mono fun e w' ⟨h1, h2⟩ => ⟨_, _, h1, Sim.refl .., Sim.refl .., h2⟩), impl_no y (by rw [order_nan_l h]; rfl)⟩
  rcases kinds .f64 (w := y) hy with ⟨s, q, hq, rfl⟩ | ⟨s, rfl⟩ | h
  · rw [fmt64] at *
    have g0 := self_ok s hq
    have g1 : (FloatKind.f64.format.order (fop .sub .f64 (double.word s q) (double.word s q)) 0 == some .eq) = true := by
      have := self_zero .f64 s (r := q) hq
      rw [fmt64] at this ⊢
      rw [this]; decide +kernel
    by_cases hb : R52 ≤ q
    · refine ⟨_, _, spec_of _ 1065353216 0 (fun w => ?_), impl_big _ g1 hy (by rw [abs_word s hq, big_pos hq]; exact decide_eq_true hb)⟩
      cases s with
      | false => exact (lp_big _ g0 (by rw [big_pos hq]; exact decide_eq_true hb) w).mono fun e w' ⟨h1, h2⟩ => ⟨_, _, h1, Sim.refl .., Sim.refl .., h2⟩
      | true => exact (lp_low _ g0 (big_pos' hq) (by rw [big_neg hq]; exact decide_eq_true hb) w).mono fun e w' ⟨h1, h2⟩ => ⟨_, _, h1, Sim.refl .., Sim.refl .., h2⟩
    · obtain ⟨K, hK⟩ : ∃ K : Nat, K = 1074 := ⟨_, rfl⟩
      have hn := small_int hK s hq hb
      have hB := rest_bd s hK hq (small_val hK hb)
      have h1 : (FloatKind.f64.format.order (double.word s q) 4841369599423283200 == some .gt || FloatKind.f64.format.order (double.word s q) 4841369599423283200 == some .eq) = false := by
        cases s with
        | false => rw [big_pos hq]; exact decide_eq_false hb
        | true => exact big_pos' hq
      have h2 : (FloatKind.f64.format.order (double.word s q) 14064741636278059008 == some .lt || FloatKind.f64.format.order (double.word s q) 14064741636278059008 == some .eq) = false := by
        cases s with
        | true => rw [big_neg hq]; exact decide_eq_false hb
        | false => exact big_neg' hq
      exact ⟨_, _, spec_of _ _ _ (l01Phasor_yes _ _ hn hB g0 h1 h2), PhasorOf_yes _ _ hn hB g1 hy (by rw [abs_word s hq, big_pos hq]; exact decide_eq_false hb)⟩
  · exact no (self_inf .f64 s)
  · exact no (self_nan h)

theorem walk (y : Nat) (wy : (Lit.float .f64 y).wf = true) (w : World) :
    Calls Try.prog 7 #[.float .f64 y] w fun e w' => e = .returned (.bool true) ∧ Grown w w' := by
  have hy : y < 18446744073709551616 := (wf_iff .f64 y).1 wy
  clear wy
  obtain ⟨A, B, hS, hI⟩ := both y hy
  have HS := Lib.hid hS
  have HI := Lib.hid hI
  clear hS hI
  go_enter Try.func7, Try.ntmps7
  go_wp2_with (fail)
  refine (HS.out _).mono ?_
  rintro e w' ⟨a, b, rfl, ha, hb, n, rfl⟩
  go_wp2_with (fail)
  refine (HI.out _).mono ?_
  rintro e w' ⟨c, d, rfl, hc, hd, m, rfl⟩
  have h1 := Lib.hid (hc.trans ha.symm)
  have h2 := Lib.hid (hd.trans hb.symm)
  clear ha hb hc hd
  go_wp2_with (go_at_call 25; refine (sameComplex_any _ _ _ _ (wide_both _ _ h1.out) (wide_both _ _ h2.out) _).mono ?_; rintro e w' ⟨rfl, n, rfl⟩)
  go_ret
  exact ⟨rfl, by repeat (first | exact Grown.refl _ | apply grown_drewN)⟩

theorem own : ownKnob Try.prog.godebug = none := by kernel_rfl

set_option maxRecDepth 100000 in
theorem lifted (os : Os) (started : os.Started) (H : Type) (enc : TypeId × Value → H) :
    ReturnsInHanded {} Try.checked os 7 .any (Rows.fnExactPhasorOfSpec.pre6 enc Try.prog Try.f7 Rows.fnExactPhasorOfRow.domain false) (Rows.fnExactPhasorOfSpec.post enc Try.prog Try.f7 false true false false) := by
  refine returnsInHanded_of_change (C := Try.checked) own started (by kernel_rfl) Try.func7
    (ChangeSpec.witness6 (enc := enc) (C := Try.checked) false ⟨#[], #[.float .f64 0], []⟩ 8 (by kernel_rfl) (by kernel_rfl) (by kernel_rfl) (by kernel_rfl)) ?_
  intro W base args ds gs before hval0 hW _ _
  have hval : ∀ (j : Nat) t v, Try.f7.params[j]? = some t → args[j]? = some v → Value.okWide Try.prog W .any base t v := hval0
  have hW' := hW
  obtain ⟨p, q, hA0, hV, rfl, _, _⟩ := hW
  have hA : DataW.TrodAll enc Try.prog W 0 (fun _ => true) true Try.f7.params.toList args.toList ds p := hA0
  rw [Try.params7] at hA hval
  obtain ⟨v0, vs0, d0, ds0, p0, q0, hargs, rfl, rfl, h0, r0⟩ := trodAll_cons hA
  obtain ⟨rfl, rfl, rfl⟩ := trodAll_nil r0
  obtain rfl : args = #[v0] := by cases args; simp_all
  obtain ⟨rfl, rfl⟩ := trodVars_none hV
  obtain ⟨a0, rfl, rfl, rfl, w0⟩ := open_float Try.underlying27 (hval 0 27 v0 rfl rfl) h0
  clear hA0 hval0
  simp only [List.append_nil] at hW'
  refine (walk a0 w0 W).mono fun e W' ⟨he, hg⟩ => ?_
  subst he
  exact ⟨_, rfl, post_of_same (pa := []) (pv := []) hW' (fun _ _ _ => (trodAll_cons_mk (shut_bool Try.underlying4 _) trodAll_mk0)) (fun _ _ => (trodAll_cons_mk (shut_float Try.underlying27 w0) trodAll_mk0)) (fun _ _ => rfl) rfl
    (hg.frame _) hg.2.1 (ok_one (by kernel_rfl) rfl (okWide_bool_mk Try.underlying4 _))⟩

theorem over : Rows.fnExactPhasorOfRow.holds Try.pinned (OpenSpec.ofChange Rows.fnExactPhasorOfSpec) :=
  OpenClaim.holds_of_wide 7 Try.f7 rfl rfl rfl rfl rfl rfl rfl ⟨rfl, rfl, rfl, rfl, rfl⟩ rfl rfl rfl rfl rfl (by kernel_rfl) Try.func7 (by kernel_rfl)
    (of_decide_eq_true (by kernel_rfl)) (by unfold Func.isWrapper; first | (rw [if_pos (by decide +kernel)]; kernel_rfl) | (rw [if_neg (by decide +kernel)]; exact ⟨rfl, rfl⟩))
    (fun os started H enc _ => lifted os started H enc)

theorem proved : Rows.FnExactPhasorOfSaid :=
  over
#print axioms proved
end Go.Proofs.Ytpjgodeabdcdcaa.fnExactPhasorOf
