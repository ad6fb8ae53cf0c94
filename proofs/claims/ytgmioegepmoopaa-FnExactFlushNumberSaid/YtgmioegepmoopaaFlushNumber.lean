/- This proves that the law FnExactFlushNumber returns true for every float32: the program's FlushNumber and the reference's answer the same. No condition. -/
import Derived.Test.YtgmioegepmoopaaRows
import Derived.Test.YtgmioegepmoopaaFlush
import Derived.Test.YtgmioegepmoopaaSame
import Derived.ProofKit
import Derived.OpenShut
import Derived.ShutString
namespace Go.Proofs.Ytgmioegepmoopaa.fnExactFlushNumber
open Go.ChangeShapes Go.WideShapes Go.ChangeAt Go.RowKit Fl Ieee

theorem l01Flush_any (x : Nat) (hx : x < 4294967296) (w : World) : Calls Try.prog 57 #[.float .f32 x] w fun e w' => e = .returned (.float .f32 (flushF x)) ∧ w = w' := by
  by_cases hg : x % 2147483648 < 8388608
  · have hn : isN .f32 x = false := by
      cases h : isN .f32 x
      · rfl
      · exact absurd hg (nan_rung h)
    have hf : flushF x = x / 2147483648 * 2147483648 := by unfold flushF; rw [if_pos hg]
    have hb : bitsN x = x := by unfold bitsN; rw [hn]; rfl
    have h1 := and_exp x hx
    have h2 := and_sign x hx
    have h3 : ((x / 8388608 % 256 * 8388608 : Nat) : Int) = 0 := by have := (exp_zero (x := x)).2 hg; omega
    have h4 : bits .and .i64 (x : Int) 2139095040 = 0 := by rw [h1, h3]
    rw [hf]; clear hf h1 h3 hg hn
    go_enter Try.func57, Try.ntmps57
    go_wp2_with (fail)
    refine (l01Bits_any x hx _).mono ?_
    rw [hb]; clear hb
    rintro e w' ⟨rfl, rfl⟩
    go_wp2
    go_ret
    exact ⟨rfl, rfl⟩
  · have hf : flushF x = x := by unfold flushF; rw [if_neg hg]
    have hs : (bits .and .i64 (bitsN x) 2139095040 == 0) = false := by
      by_cases hn : isN .f32 x = true
      · have e1 : bits .and .i64 (bitsN x) 2139095040 = 2139095040 := by
          unfold bitsN; rw [if_pos hn]; exact and_exp 2143289344 (by omega)
        rw [e1]; rfl
      · have e1 : bits .and .i64 (bitsN x) 2139095040 = ((x / 8388608 % 256 * 8388608 : Nat) : Int) := by
          unfold bitsN; rw [if_neg hn]; exact and_exp x hx
        rw [e1]
        have := exp_zero (x := x)
        exact beq_eq_false_iff_ne.2 (by omega)
    rw [hf]; clear hf hg
    go_enter Try.func57, Try.ntmps57
    go_wp2_with (fail)
    refine (l01Bits_any x hx _).mono ?_
    rintro e w' ⟨rfl, rfl⟩
    go_wp2
    go_ret
    exact ⟨rfl, rfl⟩

theorem spec_any (x : Nat) (hx : x < 4294967296) (w : World) : Calls Try.prog 24 #[.float .f32 x] w fun e w' => e = .returned (.float .f32 (flushF x)) ∧ w = w' := by
  go_enter Try.func24, Try.ntmps24
  go_wp2_with (go_at_call 57; refine (l01Flush_any _ hx _).mono ?_; rintro e w' ⟨rfl, rfl⟩)
  go_ret
  exact ⟨rfl, rfl⟩

theorem walk (x : Nat) (wx : (Lit.float .f32 x).wf = true) (w : World) :
    Calls Try.prog 6 #[.float .f32 x] w fun e w' => e = .returned (.bool true) ∧ Grown w w' := by
  have hx : x < 4294967296 := (wf_iff .f32 x).1 wx
  clear wx
  go_enter Try.func6, Try.ntmps6
  go_wp2_with (first | (go_at_call 24; refine (spec_any _ hx _).mono ?_; rintro e w' ⟨rfl, rfl⟩) | (go_at_call 25; refine (FlushNumber_any _ hx _).mono ?_; rintro e w' ⟨rfl, n, rfl⟩) | (go_at_call 17; refine (sameFloat_any _ _ (wide_both _ _ (Sim.refl _ _)) _).mono ?_; rintro e w' ⟨rfl, n, rfl⟩))
  go_ret
  exact ⟨rfl, by repeat (first | exact Grown.refl _ | apply grown_drewN)⟩

theorem own : ownKnob Try.prog.godebug = none := by kernel_rfl

set_option maxRecDepth 100000 in
theorem lifted (os : Os) (started : os.Started) (H : Type) (enc : TypeId × Value → H) :
    ReturnsInHanded {} Try.checked os 6 .any (Rows.fnExactFlushNumberSpec.pre6 enc Try.prog Try.f6 Rows.fnExactFlushNumberRow.domain false) (Rows.fnExactFlushNumberSpec.post enc Try.prog Try.f6 false true false false) := by
  refine returnsInHanded_of_change (C := Try.checked) own started (by kernel_rfl) Try.func6
    (ChangeSpec.witness6 (enc := enc) (C := Try.checked) false ⟨#[], #[.float .f32 0], []⟩ 8 (by kernel_rfl) (by kernel_rfl) (by kernel_rfl) (by kernel_rfl)) ?_
  intro W base args ds gs before hval0 hW _ _
  have hval : ∀ (j : Nat) t v, Try.f6.params[j]? = some t → args[j]? = some v → Value.okWide Try.prog W .any base t v := hval0
  have hW' := hW
  obtain ⟨p, q, hA0, hV, rfl, _, _⟩ := hW
  have hA : DataW.TrodAll enc Try.prog W 0 (fun _ => true) true Try.f6.params.toList args.toList ds p := hA0
  rw [Try.params6] at hA hval
  obtain ⟨v0, vs0, d0, ds0, p0, q0, hargs, rfl, rfl, h0, r0⟩ := trodAll_cons hA
  obtain ⟨rfl, rfl, rfl⟩ := trodAll_nil r0
  obtain rfl : args = #[v0] := by cases args; simp_all
  obtain ⟨rfl, rfl⟩ := trodVars_none hV
  obtain ⟨a0, rfl, rfl, rfl, w0⟩ := open_float Try.underlying22 (hval 0 22 v0 rfl rfl) h0
  clear hA0 hval0
  simp only [List.append_nil] at hW'
  refine (walk a0 w0 W).mono fun e W' ⟨he, hg⟩ => ?_
  subst he
  exact ⟨_, rfl, post_of_same (pa := []) (pv := []) hW' (fun _ _ _ => (trodAll_cons_mk (shut_bool Try.underlying4 _) trodAll_mk0)) (fun _ _ => (trodAll_cons_mk (shut_float Try.underlying22 w0) trodAll_mk0)) (fun _ _ => rfl) rfl
    (hg.frame _) hg.2.1 (ok_one (by kernel_rfl) rfl (okWide_bool_mk Try.underlying4 _))⟩

theorem over : Rows.fnExactFlushNumberRow.holds Try.pinned (OpenSpec.ofChange Rows.fnExactFlushNumberSpec) :=
  OpenClaim.holds_of_wide 6 Try.f6 rfl rfl rfl rfl rfl rfl rfl ⟨rfl, rfl, rfl, rfl, rfl⟩ rfl rfl rfl rfl rfl (by kernel_rfl) Try.func6 (by kernel_rfl)
    (of_decide_eq_true (by kernel_rfl)) (by unfold Func.isWrapper; first | (rw [if_pos (by decide +kernel)]; kernel_rfl) | (rw [if_neg (by decide +kernel)]; exact ⟨rfl, rfl⟩))
    (fun os started H enc _ => lifted os started H enc)

theorem proved : Rows.FnExactFlushNumberSaid :=
  over
#print axioms proved
end Go.Proofs.Ytgmioegepmoopaa.fnExactFlushNumber
