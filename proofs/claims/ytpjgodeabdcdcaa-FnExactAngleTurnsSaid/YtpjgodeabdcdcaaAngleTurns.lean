/- This proves that the law FnExactAngleTurns returns true for all float32: the program's AngleTurns and the reference's answer the same. No condition. -/
import Derived.Test.YtpjgodeabdcdcaaRows
import Derived.Test.YtpjgodeabdcdcaaAngle
import Derived.Test.YtpjgodeabdcdcaaSame
import Derived.ProofKit
import Derived.OpenShut
import Derived.ShutString
namespace Go.Proofs.Ytpjgodeabdcdcaa.fnExactAngleTurns
open Go.ChangeShapes Go.WideShapes Go.ChangeAt Go.RowKit Fl Ieee

theorem la_no1 (Y X : Nat) (h : (FloatKind.f64.format.order (fop .sub .f64 Y Y) 0 != some .eq) = true) (w : World) : Calls Try.prog 69 #[.float .f64 Y, .float .f64 X] w fun e w' => e = .returned (.float .f64 9221120237041090561) ∧ ∃ n, w' = w.drewN n := by
  go_enter Try.func69, Try.ntmps69
  go_wp2_with (go_at_call 38; refine (NaN_any _).mono ?_; rintro e w' ⟨rfl, rfl⟩)
  go_ret
  exact ⟨rfl, _, rfl⟩
theorem la_no2 (Y X : Nat) (h0 : (FloatKind.f64.format.order (fop .sub .f64 Y Y) 0 != some .eq) = false) (h : (FloatKind.f64.format.order (fop .sub .f64 X X) 0 != some .eq) = true) (w : World) : Calls Try.prog 69 #[.float .f64 Y, .float .f64 X] w fun e w' => e = .returned (.float .f64 9221120237041090561) ∧ ∃ n, w' = w.drewN n := by
  go_enter Try.func69, Try.ntmps69
  go_wp2_with (go_at_call 38; refine (NaN_any _).mono ?_; rintro e w' ⟨rfl, rfl⟩)
  go_ret
  exact ⟨rfl, _, rfl⟩
theorem la_zero (Y X : Nat) (h0 : (FloatKind.f64.format.order (fop .sub .f64 Y Y) 0 != some .eq) = false) (h : (FloatKind.f64.format.order (fop .sub .f64 X X) 0 != some .eq) = false) (hzx : (FloatKind.f64.format.order X 0 == some .eq) = true) (hzy : (FloatKind.f64.format.order Y 0 == some .eq) = true) (w : World) : Calls Try.prog 69 #[.float .f64 Y, .float .f64 X] w fun e w' => e = .returned (.float .f64 0) ∧ ∃ n, w' = w.drewN n := by
  go_enter Try.func69, Try.ntmps69
  go_wp2
  go_ret
  exact ⟨rfl, _, rfl⟩
theorem l01Angle_of (y x T : Nat) (h : ∀ w w2 w3, Calls Try.prog 69 #[.float .f64 (cres .f32 y .f64 w2), .float .f64 (cres .f32 x .f64 w3)] w fun e w' => ∃ v, e = .returned (.float .f64 v) ∧ Sim .f64 v T ∧ ∃ n, w' = w.drewN n) (hT : Nar T) (w : World) :
    Calls Try.prog 53 #[.float .f32 y, .float .f32 x] w fun e w' => ∃ r, e = .returned (.float .f32 r) ∧ Sim .f32 r (cop .f64 T .f32) ∧ ∃ n, w' = w.drewN n := by
  have H := Lib.hid h
  have HT := Lib.hid hT
  clear h hT
  go_enter Try.func53, Try.ntmps53
  go_wp2_with (first | (go_at_call 69; refine (H.out _ _ _).mono ?_; rintro e w' ⟨v, rfl, hv, n, rfl⟩) | (go_at_call 61; refine (l01Narrow_any _ _).mono ?_; rintro e w' ⟨rfl, n, rfl⟩))
  go_ret
  exact ⟨_, rfl, nar_sim _ hv HT.out, _, rfl⟩
theorem spec_of (y x T : Nat) (h : ∀ w w2 w3, Calls Try.prog 69 #[.float .f64 (cres .f32 y .f64 w2), .float .f64 (cres .f32 x .f64 w3)] w fun e w' => ∃ v, e = .returned (.float .f64 v) ∧ Sim .f64 v T ∧ ∃ n, w' = w.drewN n) (hT : Nar T) (w : World) :
    Calls Try.prog 28 #[.float .f32 y, .float .f32 x] w fun e w' => ∃ r, e = .returned (.float .f32 r) ∧ Sim .f32 r (cop .f64 T .f32) ∧ ∃ n, w' = w.drewN n := by
  have H := Lib.hid (l01Angle_of y x T h hT)
  clear h hT
  go_enter Try.func28, Try.ntmps28
  go_wp2_with (go_at_call 53; refine (H.out _).mono ?_; rintro e w' ⟨r, rfl, hr, n, rfl⟩)
  go_ret
  exact ⟨_, rfl, hr, _, rfl⟩
theorem impl_no1 (y x : Nat) (hf : finB x = false) (w : World) :
    Calls Try.prog 29 #[.float .f32 y, .float .f32 x] w fun e w' => ∃ r, e = .returned (.float .f32 r) ∧ Sim .f32 r (cop .f64 9221120237041090561 .f32) ∧ ∃ n, w' = w.drewN n := by
  go_enter Try.func29, Try.ntmps29
  go_wp2_with (first | (go_at_call 39; refine (IsFinite_any _ _).mono ?_; rintro e w' ⟨rfl, n, rfl⟩) | (go_at_call 38; refine (NaN_any _).mono ?_; rintro e w' ⟨rfl, rfl⟩))
  go_ret
  exact ⟨_, rfl, nar_sim _ (Sim.refl ..) (.inl (by decide +kernel)), _, rfl⟩
theorem impl_no2 (y x : Nat) (hf : finB x = true) (hf2 : finB y = false) (w : World) :
    Calls Try.prog 29 #[.float .f32 y, .float .f32 x] w fun e w' => ∃ r, e = .returned (.float .f32 r) ∧ Sim .f32 r (cop .f64 9221120237041090561 .f32) ∧ ∃ n, w' = w.drewN n := by
  go_enter Try.func29, Try.ntmps29
  go_wp2_with (first | (go_at_call 39; refine (IsFinite_any _ _).mono ?_; rintro e w' ⟨rfl, n, rfl⟩) | (go_at_call 38; refine (NaN_any _).mono ?_; rintro e w' ⟨rfl, rfl⟩))
  go_ret
  exact ⟨_, rfl, nar_sim _ (Sim.refl ..) (.inl (by decide +kernel)), _, rfl⟩
theorem impl_zero (y x : Nat) (hf : finB x = true) (hf2 : finB y = true) (hzx : (FloatKind.f32.format.order x 0 == some .eq) = true) (hzy : (FloatKind.f32.format.order y 0 == some .eq) = true) (w : World) :
    Calls Try.prog 29 #[.float .f32 y, .float .f32 x] w fun e w' => ∃ r, e = .returned (.float .f32 r) ∧ Sim .f32 r (cop .f64 0 .f32) ∧ ∃ n, w' = w.drewN n := by
  go_enter Try.func29, Try.ntmps29
  go_wp2_with (go_at_call 39; refine (IsFinite_any _ _).mono ?_; rintro e w' ⟨rfl, n, rfl⟩)
  go_ret
  exact ⟨_, rfl, .inl (by decide +kernel), _, rfl⟩

/-- a finite float32 and its widening -/
theorem fin_cases {x : Nat} (hx : x < 4294967296) : (∃ s q, q < 9218868437227405312 ∧ (∀ w, cres .f32 x .f64 w = double.word s q) ∧ finB x = true ∧ double.word s q < 18446744073709551616 ∧
      FloatKind.f32.format.order x 0 = FloatKind.f64.format.order (double.word s q) 0 ∧ ((FloatKind.f64.format.order (double.word s q) 0 == some .eq) = false → q ≠ 0)) ∨
    (finB x = false ∧ ∀ w, isN .f64 (fop .sub .f64 (cres .f32 x .f64 w) (cres .f32 x .f64 w)) = true) := by
  rcases kinds .f32 (w := x) hx with ⟨s, r, hr, rfl⟩ | ⟨s, rfl⟩ | h
  · left
    rw [fmt32] at *
    have hr' := hr
    rw [I32] at hr'
    obtain ⟨K, hK⟩ : ∃ K : Nat, K = 925 := ⟨_, rfl⟩
    obtain ⟨q, hq, hv, e⟩ := widen_word s hK hr'
    refine ⟨s, q, hq, fun w => cres_some w e, ?_, ?_, ?_, ?_⟩
    · unfold finB
      have := self_zero .f32 s (r := r) (by rw [fmt32]; exact hr)
      rw [fmt32] at this
      rw [this]; decide +kernel
    · cases s
      · rw [word_false]; omega
      · rw [word_true]; omega
    · have h1 := order_words single s false (r := r) (q := 0) hr (by rw [I32]; omega)
      have h2 := order_words double s false (r := q) (q := 0) (by rw [I64]; exact hq) (by rw [I64]; omega)
      have e1 : single.word false 0 = 0 := rfl
      rw [e1] at h1
      rw [word_false] at h2
      rw [fmt64, h1, h2, hv]
      have z1 : mval single 0 = 0 := mval_small (by rw [B32]; omega)
      have z2 : mval double 0 = 0 * 2 ^ K := by rw [Nat.zero_mul]; exact mval_small (by rw [B64]; omega)
      rw [z1, z2, sv_mul, sv_mul, compare_mul _ (Nat.two_pow_pos _)]
    · intro h h0
      rw [h0] at h
      have : (FloatKind.f64.format.order (double.word s 0) 0 == some .eq) = true := by cases s <;> decide +kernel
      rw [this] at h; cases h
  · right
    refine ⟨?_, fun w => ?_⟩
    · unfold finB
      rw [order_nan_l (self_inf .f32 s)]; rfl
    · rw [fmt32, cres_some w (widen_inf s)]
      exact self_inf .f64 s
  · right
    refine ⟨?_, fun w => ?_⟩
    · unfold finB
      rw [order_nan_l (self_nan h)]; rfl
    · exact self_nan (cres_nan w (by decide) h)

/-- both compute the same -/
theorem both (y x : Nat) (hy : y < 4294967296) (hx : x < 4294967296) : ∃ T, (∀ w, Calls Try.prog 28 #[.float .f32 y, .float .f32 x] w fun e w' => ∃ r, e = .returned (.float .f32 r) ∧ Sim .f32 r T ∧ ∃ n, w' = w.drewN n) ∧
    (∀ w, Calls Try.prog 29 #[.float .f32 y, .float .f32 x] w fun e w' => ∃ r, e = .returned (.float .f32 r) ∧ Sim .f32 r T ∧ ∃ n, w' = w.drewN n) := by
  rcases fin_cases hx with ⟨s, q, hq, hcx, hfx, hX, hox, hqx⟩ | ⟨hfx, hnx⟩
  · rcases fin_cases hy with ⟨t, p, hp, hcy, hfy, hY, hoy, hpy⟩ | ⟨hfy, hny⟩
    · have gx := self_ok s (q := q) (by rw [I64]; exact hq)
      have gy := self_ok t (q := p) (by rw [I64]; exact hp)
      by_cases hz : (FloatKind.f64.format.order (double.word s q) 0 == some .eq) = true ∧ (FloatKind.f64.format.order (double.word t p) 0 == some .eq) = true
      · refine ⟨_, spec_of y x 0 (fun w w2 w3 => ?_) (nar_of_bd (e := 1) (const_bd (by omega) (by omega) (by omega)) (by omega)), impl_zero y x hfx hfy (by rw [hox]; exact hz.1) (by rw [hoy]; exact hz.2)⟩
        rw [hcx, hcy]
        exact (la_zero _ _ gy gx hz.1 hz.2 w).mono fun e w' ⟨h1, h2⟩ => ⟨_, h1, Sim.refl .., h2⟩
      · have hA := abs_word t (q := p) (by rw [I64]; exact hp)
        have hB := abs_word s (q := q) (by rw [I64]; exact hq)
        rw [word_false] at hA hB
        have hz' : ((FloatKind.f64.format.order (double.word s q) 0 == some .eq) && (FloatKind.f64.format.order (double.word t p) 0 == some .eq)) = false := by
          rw [Bool.eq_false_iff]; intro h; rw [Bool.and_eq_true] at h; exact hz h
        have h0 : p ≠ 0 ∨ q ≠ 0 := by
          rcases Bool.and_eq_false_iff.1 hz' with h | h
          · exact .inr (hqx h)
          · exact .inl (hpy h)
        have hNb := tN_nb (tA_nb hp hq h0) 3
        have hN := fun o bx b2 => nar_of_bd (ang3_bd o bx b2 hNb) (by omega)
        exact ⟨_, spec_of y x _ (fun w w2 w3 => by rw [hcx, hcy]; exact l01Angle_yes _ _ p q _ _ _ _ _ hz' gx gy rfl rfl hX hY hA hB rfl rfl rfl w) (hN _ _ _),
          AngleTurns_yes y x _ _ p q _ _ _ _ _ hz' hfx hfy (by rw [hox]) (by rw [hoy]) hX hY hcx hcy hA hB rfl (by rw [hox]) (by rw [hoy]) (hN _ _ _)⟩
    · refine ⟨_, spec_of y x 9221120237041090561 (fun w w2 w3 => ?_) (.inl (by decide +kernel)), impl_no2 y x hfx hfy⟩
      exact (la_no1 _ _ (self_no (hny w2)) w).mono fun e w' ⟨h1, h2⟩ => ⟨_, h1, Sim.refl .., h2⟩
  · refine ⟨_, spec_of y x 9221120237041090561 (fun w w2 w3 => ?_) (.inl (by decide +kernel)), impl_no1 y x hfx⟩
    cases hg : (FloatKind.f64.format.order (fop .sub .f64 (cres .f32 y .f64 w2) (cres .f32 y .f64 w2)) 0 != some .eq) with
    | true => exact (la_no1 _ _ hg w).mono fun e w' ⟨h1, h2⟩ => ⟨_, h1, Sim.refl .., h2⟩
    | false => exact (la_no2 _ _ hg (self_no (hnx w3)) w).mono fun e w' ⟨h1, h2⟩ => ⟨_, h1, Sim.refl .., h2⟩

theorem walk (y x : Nat) (wy : (Lit.float .f32 y).wf = true) (wx : (Lit.float .f32 x).wf = true) (w : World) :
    Calls Try.prog 9 #[.float .f32 y, .float .f32 x] w fun e w' => e = .returned (.bool true) ∧ Grown w w' := by
  have hx : x < 4294967296 := (wf_iff .f32 x).1 wx
  have hy : y < 4294967296 := (wf_iff .f32 y).1 wy
  clear wx wy
  obtain ⟨T, hS, hI⟩ := both y x hy hx
  have HS := Lib.hid hS
  have HI := Lib.hid hI
  clear hS hI
  go_enter Try.func9, Try.ntmps9
  go_wp2_with (fail)
  refine (HS.out _).mono ?_
  rintro e w' ⟨r, rfl, hr, n, rfl⟩
  go_wp2_with (fail)
  refine (HI.out _).mono ?_
  rintro e w' ⟨q, rfl, hq, m, rfl⟩
  have hs := hq.trans hr.symm
  go_wp2_with (go_at_call 19; refine (sameFloat_any _ _ (wide_both _ _ hs) _).mono ?_; rintro e w' ⟨rfl, n, rfl⟩)
  go_ret
  exact ⟨rfl, by repeat (first | exact Grown.refl _ | apply grown_drewN)⟩

theorem own : ownKnob Try.prog.godebug = none := by kernel_rfl

set_option maxRecDepth 100000 in
theorem lifted (os : Os) (started : os.Started) (H : Type) (enc : TypeId × Value → H) :
    ReturnsInHanded {} Try.checked os 9 .any (Rows.fnExactAngleTurnsSpec.pre6 enc Try.prog Try.f9 Rows.fnExactAngleTurnsRow.domain false) (Rows.fnExactAngleTurnsSpec.post enc Try.prog Try.f9 false true false false) := by
  refine returnsInHanded_of_change (C := Try.checked) own started (by kernel_rfl) Try.func9
    (ChangeSpec.witness6 (enc := enc) (C := Try.checked) false ⟨#[], #[.float .f32 0, .float .f32 0], []⟩ 8 (by kernel_rfl) (by kernel_rfl) (by kernel_rfl) (by kernel_rfl)) ?_
  intro W base args ds gs before hval0 hW _ _
  have hval : ∀ (j : Nat) t v, Try.f9.params[j]? = some t → args[j]? = some v → Value.okWide Try.prog W .any base t v := hval0
  have hW' := hW
  obtain ⟨p, q, hA0, hV, rfl, _, _⟩ := hW
  have hA : DataW.TrodAll enc Try.prog W 0 (fun _ => true) true Try.f9.params.toList args.toList ds p := hA0
  rw [Try.params9] at hA hval
  obtain ⟨v0, vs0, d0, ds0, p0, q0, hargs, rfl, rfl, h0, r0⟩ := trodAll_cons hA
  obtain ⟨v1, vs1, d1, ds1, p1, q1, rfl, rfl, rfl, h1, r1⟩ := trodAll_cons r0
  obtain ⟨rfl, rfl, rfl⟩ := trodAll_nil r1
  obtain rfl : args = #[v0, v1] := by cases args; simp_all
  obtain ⟨rfl, rfl⟩ := trodVars_none hV
  obtain ⟨a0, rfl, rfl, rfl, w0⟩ := open_float Try.underlying24 (hval 0 24 v0 rfl rfl) h0
  obtain ⟨a1, rfl, rfl, rfl, w1⟩ := open_float Try.underlying24 (hval 1 24 v1 rfl rfl) h1
  clear hA0 hval0
  simp only [List.append_nil] at hW'
  refine (walk a0 a1 w0 w1 W).mono fun e W' ⟨he, hg⟩ => ?_
  subst he
  exact ⟨_, rfl, post_of_same (pa := []) (pv := []) hW' (fun _ _ _ => (trodAll_cons_mk (shut_bool Try.underlying4 _) trodAll_mk0)) (fun _ _ => (trodAll_cons_mk (shut_float Try.underlying24 w0) (trodAll_cons_mk (shut_float Try.underlying24 w1) trodAll_mk0))) (fun _ _ => rfl) rfl
    (hg.frame _) hg.2.1 (ok_one (by kernel_rfl) rfl (okWide_bool_mk Try.underlying4 _))⟩

theorem over : Rows.fnExactAngleTurnsRow.holds Try.pinned (OpenSpec.ofChange Rows.fnExactAngleTurnsSpec) :=
  OpenClaim.holds_of_wide 9 Try.f9 rfl rfl rfl rfl rfl rfl rfl ⟨rfl, rfl, rfl, rfl, rfl⟩ rfl rfl rfl rfl rfl (by kernel_rfl) Try.func9 (by kernel_rfl)
    (of_decide_eq_true (by kernel_rfl)) (by unfold Func.isWrapper; first | (rw [if_pos (by decide +kernel)]; kernel_rfl) | (rw [if_neg (by decide +kernel)]; exact ⟨rfl, rfl⟩))
    (fun os started H enc _ => lifted os started H enc)

theorem proved : Rows.FnExactAngleTurnsSaid :=
  over
#print axioms proved
end Go.Proofs.Ytpjgodeabdcdcaa.fnExactAngleTurns
