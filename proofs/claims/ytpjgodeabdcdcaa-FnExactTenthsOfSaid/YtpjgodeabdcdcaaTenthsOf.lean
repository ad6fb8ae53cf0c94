/- This proves that the law FnExactTenthsOf returns true for every float32: the program's TenthsOf and the reference's answer the same. No condition. -/
import Derived.Test.YtpjgodeabdcdcaaRows
import Derived.Test.YtpjgodeabdcdcaaTenths
import Derived.ProofKit
import Derived.OpenShut
import Derived.ShutString
namespace Go.Proofs.Ytpjgodeabdcdcaa.fnExactTenthsOf
open Go.ChangeShapes Go.WideShapes Go.ChangeAt Go.RowKit Fl Ieee

/-- above 0, or not -/
def leq0 (x : Nat) : Bool := FloatKind.f32.format.order x 0 == some .lt || FloatKind.f32.format.order x 0 == some .eq

theorem l01Tenths_any (x y : Nat) (hc : ∀ w, cres .f32 x .f64 w = y) (h1 : 3936146074321813504 ≤ y) (h2 : y ≤ 5183643171103440896) (n : Int) (hn : floatToIntVal .f64 (floorF (tenF y)) .i64 = some n) (w : World) :
    Calls Try.prog 51 #[.float .f32 x] w fun e w' => e = .returned (.int .i64 n) ∧ ∃ c, w' = w.drewN c := by
  have H1 := Lib.hid h1
  have H2 := Lib.hid h2
  have ha : ∀ w, fres .mul .f64 (logF y) 4631308968768463603 w = fop .mul .f64 (logF y) 4631308968768463603 := fun w => fres_bd w (mul_ten h1 h2)
  have hb : ∀ w, fres .add .f64 (fop .mul .f64 (logF y) 4631308968768463603) 4602678819172646912 w = tenF y := fun w => fres_bd w (ten_bd h1 h2)
  have hi : ∀ w, ires .f64 (floorF (tenF y)) .i64 w = n := fun w => ires_some w hn
  have HT := Lib.hid (bd_isN (ten_bd h1 h2))
  have HL := Lib.hid (log_bd2 h1 h2)
  generalize hg : tenF y = t at *
  clear h1 h2 hg hn
  go_enter Try.func51, Try.ntmps51
  go_wp2_with (first | (go_at_call 65; refine (l01Log_yes _ H1.out H2.out _).mono ?_; rintro e w' ⟨v, rfl, hv, m, rfl⟩; obtain rfl := hv.eq_bd HL.out; clear hv) | (go_at_call 52; refine (Floor_any _ HT.out _).mono ?_; rintro e w' ⟨rfl, rfl⟩))
  go_ret
  exact ⟨rfl, _, rfl⟩

theorem spec_no (x : Nat) (h : finB x = false ∨ finB x = true ∧ leq0 x = true) (w : World) :
    Calls Try.prog 26 #[.float .f32 x] w fun e w' => e = .returned (.tuple #[.int .i64 0, .bool false]) ∧ ∃ c, w' = w.drewN c := by
  rcases h with h | ⟨h, h2⟩
  · go_enter Try.func26, Try.ntmps26
    go_wp2_with (go_at_call 50; refine (l01Finite_any _ _).mono ?_; rintro e w' ⟨rfl, n, rfl⟩)
    go_ret2
    exact ⟨rfl, _, rfl⟩
  · unfold leq0 at h2
    go_enter Try.func26, Try.ntmps26
    go_wp2_with (go_at_call 50; refine (l01Finite_any _ _).mono ?_; rintro e w' ⟨rfl, n, rfl⟩)
    go_ret2
    exact ⟨rfl, _, rfl⟩
theorem impl_no (x : Nat) (h : finB x = false ∨ finB x = true ∧ leq0 x = true) (w : World) :
    Calls Try.prog 27 #[.float .f32 x] w fun e w' => e = .returned (.tuple #[.int .i64 0, .bool false]) ∧ ∃ c, w' = w.drewN c := by
  rcases h with h | ⟨h, h2⟩
  · go_enter Try.func27, Try.ntmps27
    go_wp2_with (go_at_call 39; refine (IsFinite_any _ _).mono ?_; rintro e w' ⟨rfl, n, rfl⟩)
    go_ret2
    exact ⟨rfl, _, rfl⟩
  · unfold leq0 at h2
    go_enter Try.func27, Try.ntmps27
    go_wp2_with (go_at_call 39; refine (IsFinite_any _ _).mono ?_; rintro e w' ⟨rfl, n, rfl⟩)
    go_ret2
    exact ⟨rfl, _, rfl⟩
theorem spec_yes (x y : Nat) (hc : ∀ w, cres .f32 x .f64 w = y) (h1 : 3936146074321813504 ≤ y) (h2 : y ≤ 5183643171103440896) (n : Int) (hn : floatToIntVal .f64 (floorF (tenF y)) .i64 = some n) (hf : finB x = true) (hl : leq0 x = false) (w : World) :
    Calls Try.prog 26 #[.float .f32 x] w fun e w' => e = .returned (.tuple #[.int .i64 n, .bool true]) ∧ ∃ c, w' = w.drewN c := by
  have HC := Lib.hid (l01Tenths_any x y hc h1 h2 n hn)
  unfold leq0 at hl
  clear hc h1 h2 hn
  go_enter Try.func26, Try.ntmps26
  go_wp2_with (first | (go_at_call 50; refine (l01Finite_any _ _).mono ?_; rintro e w' ⟨rfl, n, rfl⟩) | (go_at_call 51; refine (HC.out _).mono ?_; rintro e w' ⟨rfl, n, rfl⟩))
  go_ret2
  exact ⟨rfl, _, rfl⟩
theorem impl_yes (x y : Nat) (hc : ∀ w, cres .f32 x .f64 w = y) (h1 : 3936146074321813504 ≤ y) (h2 : y ≤ 5183643171103440896) (n : Int) (hn : floatToIntVal .f64 (floorF (tenF y)) .i64 = some n) (hf : finB x = true) (hl : leq0 x = false) (w : World) :
    Calls Try.prog 27 #[.float .f32 x] w fun e w' => e = .returned (.tuple #[.int .i64 n, .bool true]) ∧ ∃ c, w' = w.drewN c := by
  have H1 := Lib.hid h1
  have H2 := Lib.hid h2
  have ha : ∀ w, fres .mul .f64 (logF y) 4631308968768463603 w = fop .mul .f64 (logF y) 4631308968768463603 := fun w => fres_bd w (mul_ten h1 h2)
  have hb : ∀ w, fres .add .f64 (fop .mul .f64 (logF y) 4631308968768463603) 4602678819172646912 w = tenF y := fun w => fres_bd w (ten_bd h1 h2)
  have hi : ∀ w, ires .f64 (floorF (tenF y)) .i64 w = n := fun w => ires_some w hn
  have HT := Lib.hid (bd_isN (ten_bd h1 h2))
  have HL := Lib.hid (log_bd2 h1 h2)
  generalize hg : tenF y = t at *
  unfold leq0 at hl
  clear h1 h2 hg hn
  go_enter Try.func27, Try.ntmps27
  go_wp2_with (first | (go_at_call 39; refine (IsFinite_any _ _).mono ?_; rintro e w' ⟨rfl, n, rfl⟩) | (go_at_call 40; refine (naturalLog_any _ H1.out H2.out _).mono ?_; rintro e w' ⟨v, rfl, hv, m, rfl⟩; obtain rfl := hv.eq_bd HL.out; clear hv) | (go_at_call 52; refine (Floor_any _ HT.out _).mono ?_; rintro e w' ⟨rfl, rfl⟩))
  go_ret2
  exact ⟨rfl, _, rfl⟩

theorem order0_32 (s : Bool) {r : Nat} (hr : r < 2139095040) (h0 : r ≠ 0) : FloatKind.f32.format.order (single.word s r) 0 = some (if s then .lt else .gt) := by
  have h := order_words single s false (r := r) (q := 0) (by rw [I32]; exact hr) (by rw [I32]; omega)
  have e : single.word false 0 = 0 := rfl
  rw [e] at h
  rw [fmt32, h]
  have h1 : mval single 0 = 0 := mval_small (by rw [B32]; omega)
  have h2 : 0 < mval single r := Nat.pos_of_ne_zero (fun e => h0 (mval_zero e))
  rw [h1]
  cases s
  · rw [if_neg (by decide)]; congr 1; rw [cmp_gt]; unfold sv; simp; omega
  · rw [if_pos rfl]; congr 1; rw [cmp_lt]; unfold sv; simp; omega

/-- both compute the same -/
theorem both (x : Nat) (hx : x < 4294967296) : ∃ n b, (∀ w, Calls Try.prog 26 #[.float .f32 x] w fun e w' => e = .returned (.tuple #[.int .i64 n, .bool b]) ∧ ∃ c, w' = w.drewN c) ∧
    (∀ w, Calls Try.prog 27 #[.float .f32 x] w fun e w' => e = .returned (.tuple #[.int .i64 n, .bool b]) ∧ ∃ c, w' = w.drewN c) := by
  cases hf : finB x with
  | false => exact ⟨_, _, spec_no x (.inl hf), impl_no x (.inl hf)⟩
  | true =>
    cases hl : leq0 x with
    | true => exact ⟨_, _, spec_no x (.inr ⟨hf, hl⟩), impl_no x (.inr ⟨hf, hl⟩)⟩
    | false =>
      rcases kinds .f32 (w := x) hx with ⟨s, r, hr, rfl⟩ | ⟨s, rfl⟩ | h
      · rw [fmt32] at *
        have hr' := hr
        rw [I32] at hr'
        have h0 : r ≠ 0 := by
          rintro rfl
          have : leq0 (single.word s 0) = true := by cases s <;> decide +kernel
          rw [this] at hl; cases hl
        cases s with
        | true => unfold leq0 at hl; rw [order0_32 true hr' h0] at hl; cases hl
        | false =>
          obtain ⟨K, hK⟩ : ∃ K : Nat, K = 925 := ⟨_, rfl⟩
          obtain ⟨q, hq, hv, e⟩ := widen_word false hK hr'
          have hc : ∀ w, cres .f32 (single.word false r) .f64 w = q := fun w => (cres_some w e).trans (word_false q)
          have hv1 : 1 ≤ mval single r := Nat.pos_of_ne_zero (fun e => h0 (mval_zero e))
          have hlo : 3936146074321813504 ≤ q := by
            refine le_of_mval (f := double) ?_
            have h1 : mval double 3936146074321813504 = 1 * 2 ^ K := by subst hK; decide +kernel
            rw [h1, hv]; exact Nat.mul_le_mul_right _ hv1
          have hhi : q ≤ 5183643171103440896 := by
            refine le_of_mval (f := double) ?_
            have h1 : mval double 5183643171103440896 = mval single 2139095040 * 2 ^ K := by subst hK; decide +kernel
            rw [h1, hv]; exact Nat.mul_le_mul_right _ (mval_le (by omega))
          obtain ⟨n, hn⟩ := bd_int (floor_bd (ten_bd hlo hhi))
          exact ⟨n, true, spec_yes _ q hc hlo hhi n hn hf hl, impl_yes _ q hc hlo hhi n hn hf hl⟩
      · exfalso
        have : finB (FloatKind.f32.format.word s FloatKind.f32.format.infRung) = false := by cases s <;> decide +kernel
        rw [this] at hf; cases hf
      · exfalso
        unfold finB at hf; rw [order_nan_l (self_nan h)] at hf; cases hf

theorem walk (x : Nat) (wx : (Lit.float .f32 x).wf = true) (w : World) :
    Calls Try.prog 8 #[.float .f32 x] w fun e w' => e = .returned (.bool true) ∧ Grown w w' := by
  have hx : x < 4294967296 := (wf_iff .f32 x).1 wx
  clear wx
  obtain ⟨n, b, hS, hI⟩ := both x hx
  have HS := Lib.hid hS
  have HI := Lib.hid hI
  clear hS hI
  go_enter Try.func8, Try.ntmps8
  go_wp2_with (fail)
  refine (HS.out _).mono ?_
  rintro e w' ⟨rfl, c, rfl⟩
  go_wp2_with (fail)
  refine (HI.out _).mono ?_
  rintro e w' ⟨rfl, c, rfl⟩
  go_wp2
  go_ret
  exact ⟨rfl, by repeat (first | exact Grown.refl _ | apply grown_drewN)⟩

theorem own : ownKnob Try.prog.godebug = none := by kernel_rfl

set_option maxRecDepth 100000 in
theorem lifted (os : Os) (started : os.Started) (H : Type) (enc : TypeId × Value → H) :
    ReturnsInHanded {} Try.checked os 8 .any (Rows.fnExactTenthsOfSpec.pre6 enc Try.prog Try.f8 Rows.fnExactTenthsOfRow.domain false) (Rows.fnExactTenthsOfSpec.post enc Try.prog Try.f8 false true false false) := by
  refine returnsInHanded_of_change (C := Try.checked) own started (by kernel_rfl) Try.func8
    (ChangeSpec.witness6 (enc := enc) (C := Try.checked) false ⟨#[], #[.float .f32 0], []⟩ 8 (by kernel_rfl) (by kernel_rfl) (by kernel_rfl) (by kernel_rfl)) ?_
  intro W base args ds gs before hval0 hW _ _
  have hval : ∀ (j : Nat) t v, Try.f8.params[j]? = some t → args[j]? = some v → Value.okWide Try.prog W .any base t v := hval0
  have hW' := hW
  obtain ⟨p, q, hA0, hV, rfl, _, _⟩ := hW
  have hA : DataW.TrodAll enc Try.prog W 0 (fun _ => true) true Try.f8.params.toList args.toList ds p := hA0
  rw [Try.params8] at hA hval
  obtain ⟨v0, vs0, d0, ds0, p0, q0, hargs, rfl, rfl, h0, r0⟩ := trodAll_cons hA
  obtain ⟨rfl, rfl, rfl⟩ := trodAll_nil r0
  obtain rfl : args = #[v0] := by cases args; simp_all
  obtain ⟨rfl, rfl⟩ := trodVars_none hV
  obtain ⟨a0, rfl, rfl, rfl, w0⟩ := open_float Try.underlying24 (hval 0 24 v0 rfl rfl) h0
  clear hA0 hval0
  simp only [List.append_nil] at hW'
  refine (walk a0 w0 W).mono fun e W' ⟨he, hg⟩ => ?_
  subst he
  exact ⟨_, rfl, post_of_same (pa := []) (pv := []) hW' (fun _ _ _ => (trodAll_cons_mk (shut_bool Try.underlying4 _) trodAll_mk0)) (fun _ _ => (trodAll_cons_mk (shut_float Try.underlying24 w0) trodAll_mk0)) (fun _ _ => rfl) rfl
    (hg.frame _) hg.2.1 (ok_one (by kernel_rfl) rfl (okWide_bool_mk Try.underlying4 _))⟩

theorem over : Rows.fnExactTenthsOfRow.holds Try.pinned (OpenSpec.ofChange Rows.fnExactTenthsOfSpec) :=
  OpenClaim.holds_of_wide 8 Try.f8 rfl rfl rfl rfl rfl rfl rfl ⟨rfl, rfl, rfl, rfl, rfl⟩ rfl rfl rfl rfl rfl (by kernel_rfl) Try.func8 (by kernel_rfl)
    (of_decide_eq_true (by kernel_rfl)) (by unfold Func.isWrapper; first | (rw [if_pos (by decide +kernel)]; kernel_rfl) | (rw [if_neg (by decide +kernel)]; exact ⟨rfl, rfl⟩))
    (fun os started H enc _ => lifted os started H enc)

theorem proved : Rows.FnExactTenthsOfSaid :=
  over
#print axioms proved
end Go.Proofs.Ytpjgodeabdcdcaa.fnExactTenthsOf
