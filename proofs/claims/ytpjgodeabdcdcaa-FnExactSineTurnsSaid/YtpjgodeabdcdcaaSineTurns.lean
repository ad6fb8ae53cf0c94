/- This proves that the law FnExactSineTurns returns true for every float32: the program's SineTurns and the reference's answer the same. No condition. -/
import Derived.Test.YtpjgodeabdcdcaaRows
import Derived.Test.YtpjgodeabdcdcaaRange
import Derived.Test.YtpjgodeabdcdcaaSame
import Derived.ProofKit
import Derived.OpenShut
import Derived.ShutString
namespace Go.Proofs.Ytpjgodeabdcdcaa.fnExactSineTurns
open Go.ChangeShapes Go.WideShapes Go.ChangeAt Go.RowKit Fl Ieee

theorem l01Sine_no (y : Nat) (g0 : (FloatKind.f64.format.order (fop .sub .f64 y y) 0 != some .eq) = true) (w : World) : Calls Try.prog 62 #[.float .f64 y] w fun e w' => e = .returned (.float .f64 9221120237041090561) ∧ ∃ n, w' = w.drewN n := by
  go_enter Try.func62, Try.ntmps62
  go_wp2_with (go_at_call 38; refine (NaN_any _).mono ?_; rintro e w' ⟨rfl, rfl⟩)
  go_ret
  exact ⟨rfl, _, rfl⟩
theorem l01Sine_big (y : Nat) (g0 : (FloatKind.f64.format.order (fop .sub .f64 y y) 0 != some .eq) = false) (hbig : (FloatKind.f64.format.order y 4841369599423283200 == some .gt || FloatKind.f64.format.order y 4841369599423283200 == some .eq) = true) (w : World) : Calls Try.prog 62 #[.float .f64 y] w fun e w' => e = .returned (.float .f64 0) ∧ ∃ n, w' = w.drewN n := by
  go_enter Try.func62, Try.ntmps62
  go_wp2
  go_ret
  exact ⟨rfl, _, rfl⟩
theorem l01Sine_low (y : Nat) (g0 : (FloatKind.f64.format.order (fop .sub .f64 y y) 0 != some .eq) = false) (hbig : (FloatKind.f64.format.order y 4841369599423283200 == some .gt || FloatKind.f64.format.order y 4841369599423283200 == some .eq) = false) (hlow : (FloatKind.f64.format.order y 14064741636278059008 == some .lt || FloatKind.f64.format.order y 14064741636278059008 == some .eq) = true) (w : World) : Calls Try.prog 62 #[.float .f64 y] w fun e w' => e = .returned (.float .f64 0) ∧ ∃ n, w' = w.drewN n := by
  go_enter Try.func62, Try.ntmps62
  go_wp2
  go_ret
  exact ⟨rfl, _, rfl⟩

/-- what both compute: the reference's wide sine, narrowed -/
theorem l01Sine_of (x T : Nat) (h : ∀ w w2, Calls Try.prog 62 #[.float .f64 (cres .f32 x .f64 w2)] w fun e w' => ∃ v, e = .returned (.float .f64 v) ∧ Sim .f64 v T ∧ ∃ n, w' = w.drewN n) (hT : Nar T) (w : World) :
    Calls Try.prog 41 #[.float .f32 x] w fun e w' => ∃ r n, e = .returned (.float .f32 r) ∧ Sim .f32 r (cop .f64 T .f32) ∧ w' = w.drewN n := by
  have H := Lib.hid h
  have HT := Lib.hid hT
  clear h hT
  go_enter Try.func41, Try.ntmps41
  go_wp2_with (first | (go_at_call 62; refine (H.out _ _).mono ?_; rintro e w' ⟨v, rfl, hv, n, rfl⟩) | (go_at_call 61; refine (l01Narrow_any _ _).mono ?_; rintro e w' ⟨rfl, n, rfl⟩))
  go_ret
  exact ⟨_, _, rfl, nar_sim _ hv HT.out, rfl⟩
theorem spec_of (x T : Nat) (h : ∀ w w2, Calls Try.prog 62 #[.float .f64 (cres .f32 x .f64 w2)] w fun e w' => ∃ v, e = .returned (.float .f64 v) ∧ Sim .f64 v T ∧ ∃ n, w' = w.drewN n) (hT : Nar T) (w : World) :
    Calls Try.prog 17 #[.float .f32 x] w fun e w' => ∃ r n, e = .returned (.float .f32 r) ∧ Sim .f32 r (cop .f64 T .f32) ∧ w' = w.drewN n := by
  have H := Lib.hid (l01Sine_of x T h hT)
  clear h hT
  go_enter Try.func17, Try.ntmps17
  go_wp2_with (go_at_call 41; refine (H.out _).mono ?_; rintro e w' ⟨r, n, rfl, hr, rfl⟩)
  go_ret
  exact ⟨_, _, rfl, hr, rfl⟩

theorem impl_no (x : Nat) (hf : finB x = false) (w : World) :
    Calls Try.prog 18 #[.float .f32 x] w fun e w' => ∃ r n, e = .returned (.float .f32 r) ∧ Sim .f32 r (cop .f64 (qn .f64) .f32) ∧ w' = w.drewN n := by
  go_enter Try.func18, Try.ntmps18
  go_wp2_with (first | (go_at_call 39; refine (IsFinite_any _ _).mono ?_; rintro e w' ⟨rfl, n, rfl⟩) | (go_at_call 38; refine (NaN_any _).mono ?_; rintro e w' ⟨rfl, rfl⟩))
  go_ret
  exact ⟨_, _, rfl, nar_sim _ (.inr ⟨by decide +kernel, by decide +kernel⟩) (.inl (by decide +kernel)), rfl⟩
theorem impl_big (x y : Nat) (hy : y < 18446744073709551616) (hf : finB x = true) (hc : ∀ w, cres .f32 x .f64 w = y) (hb : (FloatKind.f64.format.order (y % 9223372036854775808) 4841369599423283200 == some .gt || FloatKind.f64.format.order (y % 9223372036854775808) 4841369599423283200 == some .eq) = true) (w : World) :
    Calls Try.prog 18 #[.float .f32 x] w fun e w' => ∃ r n, e = .returned (.float .f32 r) ∧ Sim .f32 r (cop .f64 0 .f32) ∧ w' = w.drewN n := by
  have HY := Lib.hid hy
  clear hy
  go_enter Try.func18, Try.ntmps18
  go_wp2_with (first | (go_at_call 39; refine (IsFinite_any _ _).mono ?_; rintro e w' ⟨rfl, n, rfl⟩) | (go_at_call 42; refine (Abs_any _ HY.out _).mono ?_; rintro e w' ⟨rfl, rfl⟩))
  go_ret
  exact ⟨_, _, rfl, .inl (by decide +kernel), rfl⟩
theorem impl_yes (x y : Nat) (n : Int) (hy : y < 18446744073709551616) (hf : finB x = true) (hc : ∀ w, cres .f32 x .f64 w = y) (hb : (FloatKind.f64.format.order (y % 9223372036854775808) 4841369599423283200 == some .gt || FloatKind.f64.format.order (y % 9223372036854775808) 4841369599423283200 == some .eq) = false) (hn : floatToIntVal .f64 y .i64 = some n) (hT : Nar (sineF y)) (w : World) :
    Calls Try.prog 18 #[.float .f32 x] w fun e w' => ∃ r n, e = .returned (.float .f32 r) ∧ Sim .f32 r (cop .f64 (sineF y) .f32) ∧ w' = w.drewN n := by
  have HY := Lib.hid hy
  have HN := Lib.hid hn
  have HT := Lib.hid hT
  clear hy hn hT
  go_enter Try.func18, Try.ntmps18
  go_wp2_with (first | (go_at_call 39; refine (IsFinite_any _ _).mono ?_; rintro e w' ⟨rfl, n, rfl⟩) | (go_at_call 42; refine (Abs_any _ HY.out _).mono ?_; rintro e w' ⟨rfl, rfl⟩) | (go_at_call 43; refine (sine_any _ _ HN.out _).mono ?_; rintro e w' ⟨v, rfl, hv, n, rfl⟩))
  go_ret
  exact ⟨_, _, rfl, nar_sim _ hv HT.out, rfl⟩

/-- both compute the same -/
theorem both (x : Nat) (hx : x < 4294967296) : ∃ T, (∀ w, Calls Try.prog 17 #[.float .f32 x] w fun e w' => ∃ r n, e = .returned (.float .f32 r) ∧ Sim .f32 r T ∧ w' = w.drewN n) ∧
    (∀ w, Calls Try.prog 18 #[.float .f32 x] w fun e w' => ∃ r n, e = .returned (.float .f32 r) ∧ Sim .f32 r T ∧ w' = w.drewN n) := by
  rcases wide_cases hx with ⟨s, q, hq, hc, _, hf, hbd⟩ | ⟨hf, hn⟩
  · have hy : double.word s q < 18446744073709551616 := bd_lt hbd
    have g0 := self_ok s hq
    by_cases hb : R52 ≤ q
    · refine ⟨_, spec_of x 0 (fun w w2 => ?_) (nar_of_bd (e := 1) (const_bd (by omega) (by omega) (by omega)) (by omega)), impl_big x _ hy hf hc (by rw [abs_word s hq, big_pos hq]; exact decide_eq_true hb)⟩
      rw [hc]
      cases s with
      | false => exact (l01Sine_big _ g0 (by rw [big_pos hq]; exact decide_eq_true hb) w).mono fun e w' ⟨h1, h2⟩ => ⟨_, h1, Sim.refl .., h2⟩
      | true => exact (l01Sine_low _ g0 (big_pos' hq) (by rw [big_neg hq]; exact decide_eq_true hb) w).mono fun e w' ⟨h1, h2⟩ => ⟨_, h1, Sim.refl .., h2⟩
    · obtain ⟨K, hK⟩ : ∃ K : Nat, K = 1074 := ⟨_, rfl⟩
      have hn := small_int hK s hq hb
      have hT : Nar (sineF (double.word s q)) := nar_of_bd (sin_bd (frac_bd hK hq (small_val hK hb))) (by omega)
      have h1 : (FloatKind.f64.format.order (double.word s q) 4841369599423283200 == some .gt || FloatKind.f64.format.order (double.word s q) 4841369599423283200 == some .eq) = false := by
        cases s with
        | false => rw [big_pos hq]; exact decide_eq_false hb
        | true => exact big_pos' hq
      have h2 : (FloatKind.f64.format.order (double.word s q) 14064741636278059008 == some .lt || FloatKind.f64.format.order (double.word s q) 14064741636278059008 == some .eq) = false := by
        cases s with
        | true => rw [big_neg hq]; exact decide_eq_false hb
        | false => exact big_neg' hq
      exact ⟨_, spec_of x _ (fun w w2 => by rw [hc]; exact l01Sine_yes _ _ hn g0 h1 h2 w) hT, impl_yes x _ _ hy hf hc (by rw [abs_word s hq, big_pos hq]; exact decide_eq_false hb) hn hT⟩
  · exact ⟨_, spec_of x (qn .f64) (fun w w2 => (l01Sine_no _ (self_no (hn w2)) w).mono fun e w' ⟨h1, h2⟩ => ⟨_, h1, .inr ⟨by decide +kernel, by decide +kernel⟩, h2⟩) (.inl (isN_qn _)), impl_no x hf⟩

theorem walk (x : Nat) (wx : (Lit.float .f32 x).wf = true) (w : World) :
    Calls Try.prog 4 #[.float .f32 x] w fun e w' => e = .returned (.bool true) ∧ Grown w w' := by
  have hx : x < 4294967296 := (wf_iff .f32 x).1 wx
  clear wx
  obtain ⟨T, hS, hI⟩ := both x hx
  have HS := Lib.hid hS
  have HI := Lib.hid hI
  clear hS hI
  go_enter Try.func4, Try.ntmps4
  go_wp2_with (fail)
  refine (HS.out _).mono ?_
  rintro e w' ⟨r, n, rfl, hr, rfl⟩
  go_wp2_with (fail)
  refine (HI.out _).mono ?_
  rintro e w' ⟨q, m, rfl, hq, rfl⟩
  have hs := hq.trans hr.symm
  go_wp2_with (go_at_call 19; refine (sameFloat_any _ _ (wide_both _ _ hs) _).mono ?_; rintro e w' ⟨rfl, n, rfl⟩)
  go_ret
  exact ⟨rfl, by repeat (first | exact Grown.refl _ | apply grown_drewN)⟩

theorem own : ownKnob Try.prog.godebug = none := by kernel_rfl

set_option maxRecDepth 100000 in
theorem lifted (os : Os) (started : os.Started) (H : Type) (enc : TypeId × Value → H) :
    ReturnsInHanded {} Try.checked os 4 .any (Rows.fnExactSineTurnsSpec.pre6 enc Try.prog Try.f4 Rows.fnExactSineTurnsRow.domain false) (Rows.fnExactSineTurnsSpec.post enc Try.prog Try.f4 false true false false) := by
  refine returnsInHanded_of_change (C := Try.checked) own started (by kernel_rfl) Try.func4
    (ChangeSpec.witness6 (enc := enc) (C := Try.checked) false ⟨#[], #[.float .f32 0], []⟩ 8 (by kernel_rfl) (by kernel_rfl) (by kernel_rfl) (by kernel_rfl)) ?_
  intro W base args ds gs before hval0 hW _ _
  have hval : ∀ (j : Nat) t v, Try.f4.params[j]? = some t → args[j]? = some v → Value.okWide Try.prog W .any base t v := hval0
  have hW' := hW
  obtain ⟨p, q, hA0, hV, rfl, _, _⟩ := hW
  have hA : DataW.TrodAll enc Try.prog W 0 (fun _ => true) true Try.f4.params.toList args.toList ds p := hA0
  rw [Try.params4] at hA hval
  obtain ⟨v0, vs0, d0, ds0, p0, q0, hargs, rfl, rfl, h0, r0⟩ := trodAll_cons hA
  obtain ⟨rfl, rfl, rfl⟩ := trodAll_nil r0
  obtain rfl : args = #[v0] := by cases args; simp_all
  obtain ⟨rfl, rfl⟩ := trodVars_none hV
  obtain ⟨a0, rfl, rfl, rfl, w0⟩ := open_float Try.underlying24 (hval 0 24 v0 rfl rfl) h0
  clear hA0 hval0
  simp only [List.append_nil] at hW'
  refine (walk a0 w0 W).mono fun e W' ⟨he, hg⟩ => ?_
  subst he
  exact ⟨_, rfl, post_of_same (pa := []) (pv := []) hW' (fun _ _ _ => (trodAll_cons_mk (shut_bool Try.underlying4 _) trodAll_mk0)) (fun _ _ => (trodAll_cons_mk (shut_float Try.underlying24 w0) trodAll_mk0)) (fun _ _ => rfl) rfl
    (hg.frame _) hg.2.1 (ok_one (by kernel_rfl) rfl (okWide_bool_mk Try.underlying4 _))⟩

theorem over : Rows.fnExactSineTurnsRow.holds Try.pinned (OpenSpec.ofChange Rows.fnExactSineTurnsSpec) :=
  OpenClaim.holds_of_wide 4 Try.f4 rfl rfl rfl rfl rfl rfl rfl ⟨rfl, rfl, rfl, rfl, rfl⟩ rfl rfl rfl rfl rfl (by kernel_rfl) Try.func4 (by kernel_rfl)
    (of_decide_eq_true (by kernel_rfl)) (by unfold Func.isWrapper; first | (rw [if_pos (by decide +kernel)]; kernel_rfl) | (rw [if_neg (by decide +kernel)]; exact ⟨rfl, rfl⟩))
    (fun os started H enc _ => lifted os started H enc)

theorem proved : Rows.FnExactSineTurnsSaid :=
  over
#print axioms proved
end Go.Proofs.Ytpjgodeabdcdcaa.fnExactSineTurns
