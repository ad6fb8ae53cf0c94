/- This proves that the law FnExactLogNumber returns true for every float32: the program's LogNumber and the reference's answer the same. No condition. -/
import Derived.Test.YtpjgodeabdcdcaaRows
import Derived.Test.YtpjgodeabdcdcaaLog
import Derived.Test.YtpjgodeabdcdcaaSame
import Derived.ProofKit
import Derived.OpenShut
import Derived.ShutString
namespace Go.Proofs.Ytpjgodeabdcdcaa.fnExactLogNumber
open Go.ChangeShapes Go.WideShapes Go.ChangeAt Go.RowKit Fl Ieee

theorem Inf_neg (w : World) : Calls Try.prog 37 #[.int .i64 (-1)] w fun e w' => e = .returned (.float .f64 18442240474082181120) ∧ w = w' := by
  go_enter Try.func37, Try.ntmps37
  go_wp2
  go_ret
  exact ⟨rfl, rfl⟩
theorem lw_nan (y : Nat) (g : (FloatKind.f64.format.order y y != some .eq) = true) (w : World) : Calls Try.prog 65 #[.float .f64 y] w fun e w' => e = .returned (.float .f64 9221120237041090561) ∧ ∃ n, w' = w.drewN n := by
  go_enter Try.func65, Try.ntmps65
  go_wp2_with (go_at_call 38; refine (NaN_any _).mono ?_; rintro e w' ⟨rfl, rfl⟩)
  go_ret
  exact ⟨rfl, 0, rfl⟩
theorem lw_neg (y : Nat) (g : (FloatKind.f64.format.order y y != some .eq) = false) (g2 : (FloatKind.f64.format.order y 0 == some .lt) = true) (w : World) : Calls Try.prog 65 #[.float .f64 y] w fun e w' => e = .returned (.float .f64 9221120237041090561) ∧ ∃ n, w' = w.drewN n := by
  go_enter Try.func65, Try.ntmps65
  go_wp2_with (go_at_call 38; refine (NaN_any _).mono ?_; rintro e w' ⟨rfl, rfl⟩)
  go_ret
  exact ⟨rfl, 0, rfl⟩
theorem lw_zero (y : Nat) (g : (FloatKind.f64.format.order y y != some .eq) = false) (g2 : (FloatKind.f64.format.order y 0 == some .lt) = false) (g3 : (FloatKind.f64.format.order y 0 == some .eq) = true) (w : World) : Calls Try.prog 65 #[.float .f64 y] w fun e w' => e = .returned (.float .f64 18442240474082181120) ∧ ∃ n, w' = w.drewN n := by
  go_enter Try.func65, Try.ntmps65
  go_wp2_with (go_at_call 37; refine (Inf_neg _).mono ?_; rintro e w' ⟨rfl, rfl⟩)
  go_ret
  exact ⟨rfl, 0, rfl⟩
theorem lw_inf (y : Nat) (g : (FloatKind.f64.format.order y y != some .eq) = false) (g2 : (FloatKind.f64.format.order y 0 == some .lt) = false) (g3 : (FloatKind.f64.format.order y 0 == some .eq) = false) (g4 : (FloatKind.f64.format.order y 9218868437227405311 == some .gt) = true) (w : World) : Calls Try.prog 65 #[.float .f64 y] w fun e w' => e = .returned (.float .f64 y) ∧ ∃ n, w' = w.drewN n := by
  go_enter Try.func65, Try.ntmps65
  go_wp2_with (go_at_call 72; refine (IsInf_any _ _).mono ?_; rintro e w' ⟨rfl, rfl⟩)
  go_ret
  exact ⟨rfl, 0, rfl⟩

theorem l01Log_of (x T : Nat) (h : ∀ w w2, Calls Try.prog 65 #[.float .f64 (cres .f32 x .f64 w2)] w fun e w' => ∃ v, e = .returned (.float .f64 v) ∧ Sim .f64 v T ∧ ∃ n, w' = w.drewN n) (hT : Nar T) (w : World) :
    Calls Try.prog 46 #[.float .f32 x] w fun e w' => ∃ r n, e = .returned (.float .f32 r) ∧ Sim .f32 r (cop .f64 T .f32) ∧ w' = w.drewN n := by
  have H := Lib.hid h
  have HT := Lib.hid hT
  clear h hT
  go_enter Try.func46, Try.ntmps46
  go_wp2_with (first | (go_at_call 65; refine (H.out _ _).mono ?_; rintro e w' ⟨v, rfl, hv, n, rfl⟩) | (go_at_call 61; refine (l01Narrow_any _ _).mono ?_; rintro e w' ⟨rfl, n, rfl⟩))
  go_ret
  exact ⟨_, _, rfl, nar_sim _ hv HT.out, rfl⟩
theorem spec_of (x T : Nat) (h : ∀ w w2, Calls Try.prog 65 #[.float .f64 (cres .f32 x .f64 w2)] w fun e w' => ∃ v, e = .returned (.float .f64 v) ∧ Sim .f64 v T ∧ ∃ n, w' = w.drewN n) (hT : Nar T) (w : World) :
    Calls Try.prog 22 #[.float .f32 x] w fun e w' => ∃ r n, e = .returned (.float .f32 r) ∧ Sim .f32 r (cop .f64 T .f32) ∧ w' = w.drewN n := by
  have H := Lib.hid (l01Log_of x T h hT)
  clear h hT
  go_enter Try.func22, Try.ntmps22
  go_wp2_with (go_at_call 46; refine (H.out _).mono ?_; rintro e w' ⟨r, n, rfl, hr, rfl⟩)
  go_ret
  exact ⟨_, _, rfl, hr, rfl⟩

theorem impl_zero (x : Nat) (g1 : (FloatKind.f32.format.order x 0 == some .eq) = true) (w : World) :
    Calls Try.prog 16 #[.float .f32 x] w fun e w' => ∃ r n, e = .returned (.float .f32 r) ∧ Sim .f32 r (cop .f64 18442240474082181120 .f32) ∧ w' = w.drewN n := by
  go_enter Try.func16, Try.ntmps16
  go_wp2_with (go_at_call 37; refine (Inf_neg _).mono ?_; rintro e w' ⟨rfl, rfl⟩)
  go_ret
  exact ⟨_, _, rfl, nar_sim _ (Sim.refl ..) (.inr ⟨4286578688, by decide +kernel⟩), rfl⟩
theorem impl_neg (x : Nat) (g1 : (FloatKind.f32.format.order x 0 == some .eq) = false) (g2 : (FloatKind.f32.format.order x 0 == some .lt) = true) (w : World) :
    Calls Try.prog 16 #[.float .f32 x] w fun e w' => ∃ r n, e = .returned (.float .f32 r) ∧ Sim .f32 r (cop .f64 9221120237041090561 .f32) ∧ w' = w.drewN n := by
  go_enter Try.func16, Try.ntmps16
  go_wp2_with (go_at_call 38; refine (NaN_any _).mono ?_; rintro e w' ⟨rfl, rfl⟩)
  go_ret
  exact ⟨_, _, rfl, nar_sim _ (Sim.refl ..) (.inl (by decide +kernel)), rfl⟩
theorem impl_nan (x : Nat) (g1 : (FloatKind.f32.format.order x 0 == some .eq) = false) (g2 : (FloatKind.f32.format.order x 0 == some .lt) = false) (g3 : (FloatKind.f32.format.order x x != some .eq) = true) (w : World) :
    Calls Try.prog 16 #[.float .f32 x] w fun e w' => ∃ r n, e = .returned (.float .f32 r) ∧ Sim .f32 r (cop .f64 9221120237041090561 .f32) ∧ w' = w.drewN n := by
  go_enter Try.func16, Try.ntmps16
  go_wp2_with (go_at_call 38; refine (NaN_any _).mono ?_; rintro e w' ⟨rfl, rfl⟩)
  go_ret
  exact ⟨_, _, rfl, nar_sim _ (Sim.refl ..) (.inl (by decide +kernel)), rfl⟩
theorem impl_inf (x : Nat) (g1 : (FloatKind.f32.format.order x 0 == some .eq) = false) (g2 : (FloatKind.f32.format.order x 0 == some .lt) = false) (g3 : (FloatKind.f32.format.order x x != some .eq) = false) (hf : finB x = false) (w : World) :
    Calls Try.prog 16 #[.float .f32 x] w fun e w' => e = .returned (.float .f32 x) ∧ ∃ n, w' = w.drewN n := by
  go_enter Try.func16, Try.ntmps16
  go_wp2_with (go_at_call 39; refine (IsFinite_any _ _).mono ?_; rintro e w' ⟨rfl, n, rfl⟩)
  go_ret
  exact ⟨rfl, _, rfl⟩
theorem impl_yes (x y : Nat) (hc : ∀ w, cres .f32 x .f64 w = y) (h1 : 3936146074321813504 ≤ y) (h2 : y ≤ 5183643171103440896) (g1 : (FloatKind.f32.format.order x 0 == some .eq) = false) (g2 : (FloatKind.f32.format.order x 0 == some .lt) = false) (g3 : (FloatKind.f32.format.order x x != some .eq) = false) (hf : finB x = true) (w : World) :
    Calls Try.prog 16 #[.float .f32 x] w fun e w' => ∃ r n, e = .returned (.float .f32 r) ∧ Sim .f32 r (cop .f64 (logF y) .f32) ∧ w' = w.drewN n := by
  have H1 := Lib.hid h1
  have H2 := Lib.hid h2
  clear h1 h2
  go_enter Try.func16, Try.ntmps16
  go_wp2_with (first | (go_at_call 39; refine (IsFinite_any _ _).mono ?_; rintro e w' ⟨rfl, n, rfl⟩) | (go_at_call 40; refine (naturalLog_any _ H1.out H2.out _).mono ?_; rintro e w' ⟨v, rfl, hv, n, rfl⟩))
  go_ret
  exact ⟨_, _, rfl, nar_sim _ hv (nar_of_bd (log_bd H1.out H2.out) (by omega)), rfl⟩

theorem order0_32 (s : Bool) {r : Nat} (hr : r < 2139095040) (h0 : r ≠ 0) : FloatKind.f32.format.order (single.word s r) 0 = some (if s then .lt else .gt) := by
  have h := order_words single s false (r := r) (q := 0) (by rw [I32]; exact hr) (by rw [I32]; omega)
  have e : single.word false 0 = 0 := rfl
  rw [e] at h
  rw [fmt32, h]
  have h1 : mval single 0 = 0 := mval_small (by rw [B32]; omega)
  have h2 : 0 < mval single r := Nat.pos_of_ne_zero (fun e => h0 (mval_zero e))
  rw [h1]
  cases s
  · rw [if_neg (by decide)]; congr 1; rw [cmp_gt]; unfold sv; simp; omega
  · rw [if_pos rfl]; congr 1; rw [cmp_lt]; unfold sv; simp; omega
theorem order0_64 {q : Nat} (hq : q < 9218868437227405312) (h0 : q ≠ 0) : FloatKind.f64.format.order (double.word true q) 0 = some .lt := by
  have h := order_words double true false (r := q) (q := 0) (by rw [I64]; exact hq) (by rw [I64]; omega)
  rw [word_false] at h
  rw [fmt64, h]
  have h1 : mval double 0 = 0 := mval_small (by rw [B64]; omega)
  have h2 : 0 < mval double q := Nat.pos_of_ne_zero (fun e => h0 (mval_zero e))
  rw [h1]
  congr 1; rw [cmp_lt]; unfold sv; simp; omega
theorem self_eq (k : FloatKind) (s : Bool) {r : Nat} (hr : r ≤ k.format.infRung) : (k.format.order (k.format.word s r) (k.format.word s r) != some .eq) = false := by
  rw [order_self (isN_word k s hr)]; rfl

/-- both compute the same -/
theorem both (x : Nat) (hx : x < 4294967296) : ∃ T, (∀ w, Calls Try.prog 22 #[.float .f32 x] w fun e w' => ∃ r n, e = .returned (.float .f32 r) ∧ Sim .f32 r T ∧ w' = w.drewN n) ∧
    (∀ w, Calls Try.prog 16 #[.float .f32 x] w fun e w' => ∃ r n, e = .returned (.float .f32 r) ∧ Sim .f32 r T ∧ w' = w.drewN n) := by
  rcases kinds .f32 (w := x) hx with ⟨s, r, hr, rfl⟩ | ⟨s, rfl⟩ | h
  · rw [fmt32] at *
    have hr' := hr
    rw [I32] at hr'
    by_cases h0 : r = 0
    · subst h0
      refine ⟨_, spec_of _ 18442240474082181120 (fun w w2 => ?_) (by cases s <;> exact .inr ⟨4286578688, by decide +kernel⟩), impl_zero _ (by cases s <;> decide +kernel)⟩
      obtain ⟨y, hy, e⟩ : ∃ y, floatToFloatBits .f32 (single.word s 0) .f64 = some y ∧ (y = 0 ∨ y = 9223372036854775808) := by
        cases s
        · exact ⟨0, by decide +kernel, .inl rfl⟩
        · exact ⟨9223372036854775808, by decide +kernel, .inr rfl⟩
      rw [cres_some w2 hy]
      refine (lw_zero y ?_ ?_ ?_ w).mono fun e w' ⟨h1, h2⟩ => ⟨_, h1, Sim.refl .., h2⟩ <;> (rcases e with rfl | rfl <;> decide +kernel)
    · obtain ⟨K, hK⟩ : ∃ K : Nat, K = 925 := ⟨_, rfl⟩
      obtain ⟨q, hq, hv, e⟩ := widen_word s hK hr'
      have hc : ∀ w, cres .f32 (single.word s r) .f64 w = double.word s q := fun w => cres_some w e
      have hv1 : 1 ≤ mval single r := Nat.pos_of_ne_zero (fun e => h0 (mval_zero e))
      have hfin : finB (single.word s r) = true := by
        unfold finB
        have := self_zero .f32 s (r := r) (by rw [fmt32]; exact hr)
        rw [fmt32] at this
        rw [this]; decide +kernel
      have hself := self_eq .f32 s (r := r) (by rw [fmt32]; omega)
      rw [fmt32] at hself
      have ho := order0_32 s hr' h0
      cases s with
      | true =>
        have hq0 : q ≠ 0 := by
          intro e0
          rw [e0] at hv
          have h1 : mval double 0 = 0 := mval_small (by rw [B64]; omega)
          rw [h1] at hv
          have := Nat.mul_pos hv1 (Nat.two_pow_pos K)
          omega
        refine ⟨_, spec_of _ 9221120237041090561 (fun w w2 => ?_) (.inl (by decide +kernel)), impl_neg _ (by rw [ho]; rfl) (by rw [ho]; rfl)⟩
        rw [hc]
        have hs := self_eq .f64 true (r := q) (by rw [fmt64, I64]; omega)
        rw [fmt64] at hs
        exact (lw_neg _ hs (by rw [order0_64 hq hq0]; rfl) w).mono fun e w' ⟨h1, h2⟩ => ⟨_, h1, Sim.refl .., h2⟩
      | false =>
        have hlo : 3936146074321813504 ≤ q := by
          refine le_of_mval (f := double) ?_
          have h1 : mval double 3936146074321813504 = 1 * 2 ^ K := by subst hK; decide +kernel
          rw [h1, hv]; exact Nat.mul_le_mul_right _ hv1
        have hhi : q ≤ 5183643171103440896 := by
          refine le_of_mval (f := double) ?_
          have h1 : mval double 5183643171103440896 = mval single 2139095040 * 2 ^ K := by subst hK; decide +kernel
          rw [h1, hv]; exact Nat.mul_le_mul_right _ (mval_le (by omega))
        rw [word_false] at hc
        exact ⟨_, spec_of _ (logF q) (fun w w2 => by rw [hc]; exact l01Log_yes q hlo hhi w) (nar_of_bd (log_bd hlo hhi) (by omega)), impl_yes _ q hc hlo hhi (by rw [ho]; rfl) (by rw [ho]; rfl) hself hfin⟩
  · rw [fmt32] at *
    have hc : ∀ w, cres .f32 (single.word s single.infRung) .f64 w = double.word s double.infRung := fun w => cres_some w (widen_inf s)
    cases s with
    | true =>
      refine ⟨_, spec_of _ 9221120237041090561 (fun w w2 => ?_) (.inl (by decide +kernel)), impl_neg _ (by decide +kernel) (by decide +kernel)⟩
      rw [hc]
      exact (lw_neg _ (by decide +kernel) (by decide +kernel) w).mono fun e w' ⟨h1, h2⟩ => ⟨_, h1, Sim.refl .., h2⟩
    | false =>
      refine ⟨_, spec_of _ (double.word false double.infRung) (fun w w2 => ?_) (nar_inf false), fun w => (impl_inf _ (by decide +kernel) (by decide +kernel) (by decide +kernel) (by decide +kernel) w).mono fun e w' ⟨h1, n, h2⟩ => ⟨_, n, h1, .inl (by decide +kernel), h2⟩⟩
      rw [hc]
      exact (lw_inf _ (by decide +kernel) (by decide +kernel) (by decide +kernel) (by decide +kernel) w).mono fun e w' ⟨h1, h2⟩ => ⟨_, h1, Sim.refl .., h2⟩
  · refine ⟨_, spec_of _ 9221120237041090561 (fun w w2 => ?_) (.inl (by decide +kernel)), impl_nan _ (by rw [order_nan_l h]; rfl) (by rw [order_nan_l h]; rfl) (by rw [order_nan_l h]; rfl)⟩
    exact (lw_nan _ (by rw [order_nan_l (cres_nan w2 (by decide) h)]; rfl) w).mono fun e w' ⟨h1, h2⟩ => ⟨_, h1, Sim.refl .., h2⟩

theorem walk (x : Nat) (wx : (Lit.float .f32 x).wf = true) (w : World) :
    Calls Try.prog 6 #[.float .f32 x] w fun e w' => e = .returned (.bool true) ∧ Grown w w' := by
  have hx : x < 4294967296 := (wf_iff .f32 x).1 wx
  clear wx
  obtain ⟨T, hS, hI⟩ := both x hx
  have HS := Lib.hid hS
  have HI := Lib.hid hI
  clear hS hI
  go_enter Try.func6, Try.ntmps6
  go_wp2_with (fail)
  refine (HS.out _).mono ?_
  rintro e w' ⟨r, n, rfl, hr, rfl⟩
  go_wp2_with (fail)
  refine (HI.out _).mono ?_
  rintro e w' ⟨q, m, rfl, hq, rfl⟩
  have hs := hq.trans hr.symm
  go_wp2_with (go_at_call 19; refine (sameFloat_any _ _ (wide_both _ _ hs) _).mono ?_; rintro e w' ⟨rfl, n, rfl⟩)
  go_ret
  exact ⟨rfl, by repeat (first | exact Grown.refl _ | apply grown_drewN)⟩

theorem own : ownKnob Try.prog.godebug = none := by kernel_rfl

set_option maxRecDepth 100000 in
theorem lifted (os : Os) (started : os.Started) (H : Type) (enc : TypeId × Value → H) :
    ReturnsInHanded {} Try.checked os 6 .any (Rows.fnExactLogNumberSpec.pre6 enc Try.prog Try.f6 Rows.fnExactLogNumberRow.domain false) (Rows.fnExactLogNumberSpec.post enc Try.prog Try.f6 false true false false) := by
  refine returnsInHanded_of_change (C := Try.checked) own started (by kernel_rfl) Try.func6
    (ChangeSpec.witness6 (enc := enc) (C := Try.checked) false ⟨#[], #[.float .f32 0], []⟩ 8 (by kernel_rfl) (by kernel_rfl) (by kernel_rfl) (by kernel_rfl)) ?_
  intro W base args ds gs before hval0 hW _ _
  have hval : ∀ (j : Nat) t v, Try.f6.params[j]? = some t → args[j]? = some v → Value.okWide Try.prog W .any base t v := hval0
  have hW' := hW
  obtain ⟨p, q, hA0, hV, rfl, _, _⟩ := hW
  have hA : DataW.TrodAll enc Try.prog W 0 (fun _ => true) true Try.f6.params.toList args.toList ds p := hA0
  rw [Try.params6] at hA hval
  obtain ⟨v0, vs0, d0, ds0, p0, q0, hargs, rfl, rfl, h0, r0⟩ := trodAll_cons hA
  obtain ⟨rfl, rfl, rfl⟩ := trodAll_nil r0
  obtain rfl : args = #[v0] := by cases args; simp_all
  obtain ⟨rfl, rfl⟩ := trodVars_none hV
  obtain ⟨a0, rfl, rfl, rfl, w0⟩ := open_float Try.underlying24 (hval 0 24 v0 rfl rfl) h0
  clear hA0 hval0
  simp only [List.append_nil] at hW'
  refine (walk a0 w0 W).mono fun e W' ⟨he, hg⟩ => ?_
  subst he
  exact ⟨_, rfl, post_of_same (pa := []) (pv := []) hW' (fun _ _ _ => (trodAll_cons_mk (shut_bool Try.underlying4 _) trodAll_mk0)) (fun _ _ => (trodAll_cons_mk (shut_float Try.underlying24 w0) trodAll_mk0)) (fun _ _ => rfl) rfl
    (hg.frame _) hg.2.1 (ok_one (by kernel_rfl) rfl (okWide_bool_mk Try.underlying4 _))⟩

theorem over : Rows.fnExactLogNumberRow.holds Try.pinned (OpenSpec.ofChange Rows.fnExactLogNumberSpec) :=
  OpenClaim.holds_of_wide 6 Try.f6 rfl rfl rfl rfl rfl rfl rfl ⟨rfl, rfl, rfl, rfl, rfl⟩ rfl rfl rfl rfl rfl (by kernel_rfl) Try.func6 (by kernel_rfl)
    (of_decide_eq_true (by kernel_rfl)) (by unfold Func.isWrapper; first | (rw [if_pos (by decide +kernel)]; kernel_rfl) | (rw [if_neg (by decide +kernel)]; exact ⟨rfl, rfl⟩))
    (fun os started H enc _ => lifted os started H enc)

theorem proved : Rows.FnExactLogNumberSaid :=
  over
#print axioms proved
end Go.Proofs.Ytpjgodeabdcdcaa.fnExactLogNumber
