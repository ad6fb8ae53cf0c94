/- What the law FnCircles calls, at 64ths of turns and at products of eighths. No condition. -/
import Derived.Test.YtdbcjldengemeaaCirP
import Derived.Test.YtdbcjldengemeaaCirN
namespace Go.Proofs.Ytdbcjldengemeaa.Cir
open Go.RowKit Fl Ieee
def leq0 (x : Nat) : Bool := FloatKind.f32.format.order x 0 == some .lt || FloatKind.f32.format.order x 0 == some .eq
theorem TenthsOf_yes (x y : Nat) (hc : ∀ w, cres .f32 x .f64 w = y) (h1 : 3936146074321813504 ≤ y) (h2 : y ≤ 5183643171103440896) (n : Int) (hn : floatToIntVal .f64 (floorF (tenF y)) .i64 = some n) (hf : finB x = true) (hl : leq0 x = false) (w : World) :
    Calls Try.prog 12 #[.float .f32 x] w fun e w' => e = .returned (.tuple #[.int .i64 n, .bool true]) ∧ ∃ c, w' = w.drewN c := by
  have H1 := Lib.hid h1
  have H2 := Lib.hid h2
  have ha : ∀ w, fres .mul .f64 (logF y) 4631308968768463603 w = fop .mul .f64 (logF y) 4631308968768463603 := fun w => fres_bd w (mul_ten h1 h2)
  have hb : ∀ w, fres .add .f64 (fop .mul .f64 (logF y) 4631308968768463603) 4602678819172646912 w = tenF y := fun w => fres_bd w (ten_bd h1 h2)
  have hi : ∀ w, ires .f64 (floorF (tenF y)) .i64 w = n := fun w => ires_some w hn
  have HT := Lib.hid (bd_isN (ten_bd h1 h2))
  have HL := Lib.hid (log_bd2 h1 h2)
  generalize hg : tenF y = t at *
  unfold leq0 at hl
  clear h1 h2 hg hn
  go_enter Try.func12, Try.ntmps12
  go_wp2_with (first | (go_at_call 23; refine (IsFinite_any _ _).mono ?_; rintro e w' ⟨rfl, n, rfl⟩) | (go_at_call 25; refine (naturalLog_any _ H1.out H2.out _).mono ?_; rintro e w' ⟨v, rfl, hv, m, rfl⟩; obtain rfl := hv.eq_bd HL.out; clear hv) | (go_at_call 24; refine (Floor_any _ HT.out _).mono ?_; rintro e w' ⟨rfl, rfl⟩))
  go_ret2
  exact ⟨rfl, _, rfl⟩

theorem order0_32 (s : Bool) {r : Nat} (hr : r < 2139095040) (h0 : r ≠ 0) : FloatKind.f32.format.order (single.word s r) 0 = some (if s then .lt else .gt) := by
  have h := order_words single s false (r := r) (q := 0) (by rw [I32]; exact hr) (by rw [I32]; omega)
  have e : single.word false 0 = 0 := rfl
  rw [e] at h
  rw [fmt32, h]
  have h1 : mval single 0 = 0 := mval_small (by rw [B32]; omega)
  have h2 : 0 < mval single r := Nat.pos_of_ne_zero (fun e => h0 (mval_zero e))
  rw [h1]
  cases s
  · rw [if_neg (by decide)]; congr 1; rw [cmp_gt]; unfold sv; simp; omega
  · rw [if_pos rfl]; congr 1; rw [cmp_lt]; unfold sv; simp; omega


theorem bd_mod {x : Nat} (hx : x < 18446744073709551616) (h : x % 9223372036854775808 ≤ 4607182418800017408) : Bd 1023 x := by
  have hs := word_split double (w := x) (by rw [S64]; omega)
  rw [S64] at hs
  refine ⟨_, x % 9223372036854775808, hs, by rw [I64]; omega, ?_⟩
  rw [← mval_pow (c := 1023) (by omega)]
  exact mval_le (by rw [B64]; omega)
theorem tab {f : Nat → Bool} {n i : Nat} (h : (List.range n).all f = true) (hi : i < n) : f i = true := (List.all_eq_true.1 h) i (List.mem_range.2 hi)
theorem nn_ok : (List.range 64).all (fun i => !isN .f32 (PRt.getD i 0) && !isN .f32 (PIt.getD i 0) && !isN .f32 (ANt.getD i 0)) = true := by decide +kernel
theorem nn {i : Nat} (hi : i < 64) : isN .f32 (PRt.getD i 0) = false ∧ isN .f32 (PIt.getD i 0) = false ∧ isN .f32 (ANt.getD i 0) = false := by
  have h := tab nn_ok hi
  simp only [Bool.and_eq_true, Bool.not_eq_true'] at h
  exact ⟨h.1.1, h.1.2, h.2⟩
theorem sim_eq {k : FloatKind} {a T : Nat} (h : Sim k a T) (hn : isN k T = false) : a = T := by
  rcases h with h | ⟨_, h⟩
  · exact h
  · rw [hn] at h; cases h
theorem wide {i : Nat} (hi : i < 64) : floatToFloatBits .f32 (PRt.getD i 0) .f64 = some (PRw.getD i 0) ∧ floatToFloatBits .f32 (PIt.getD i 0) .f64 = some (PIw.getD i 0) ∧ floatToFloatBits .f32 (ANt.getD i 0) .f64 = some (ANw.getD i 0) ∧
    PRt.getD i 0 < 4294967296 ∧ PIt.getD i 0 < 4294967296 ∧ PRw.getD i 0 < 18446744073709551616 ∧ PIw.getD i 0 < 18446744073709551616 ∧ Bd 1023 (PRw.getD i 0) ∧ Bd 1023 (PIw.getD i 0) := by
  have h := tab wide_ok hi
  simp only [Bool.and_eq_true, beq_iff_eq, decide_eq_true_eq] at h
  obtain ⟨⟨⟨⟨⟨⟨⟨⟨h1, h2⟩, h3⟩, h4⟩, h5⟩, h6⟩, h7⟩, h8⟩, h9⟩ := h
  exact ⟨h1, h2, h3, h4, h5, h6, h7, bd_mod h6 h8, bd_mod h7 h9⟩
theorem phasor_at {c : Nat} (hc : c < 511) (w : World) : Calls Try.prog 6 #[.float .f64 (YTt.getD c 0)] w fun e w' => e = .returned (.complex .f32 (PRt.getD (c % 64) 0) (PIt.getD (c % 64) 0)) ∧ ∃ n, w' = w.drewN n := by
  have h := tab y_ok hc
  unfold ckY at h
  simp only [Bool.and_eq_true, beq_iff_eq, decide_eq_true_eq, Bool.not_eq_true'] at h
  obtain ⟨⟨⟨⟨⟨⟨h1, h2⟩, h3⟩, h4⟩, h5⟩, h6⟩, h7⟩ := h
  obtain ⟨n, hn⟩ := Option.isSome_iff_exists.1 h3
  have hi : c % 64 < 64 := Nat.mod_lt _ (by decide)
  have hp := tab ph_ok hi
  have hb : Bd 1023 (fop .sub .f64 (YTt.getD c 0) (wholeF (YTt.getD c 0))) := bd_mod (fop_lt .sub .f64 _ _) h7
  refine (PhasorOf_yes (YTt.getD c 0) n hn hb (by rw [h4]; rfl) h5 h6 w).mono ?_
  rintro e w' ⟨a, b, rfl, ha, hb2, hd⟩
  rw [phasF_is, h2] at ha hb2
  obtain ⟨n1, n2, _⟩ := nn hi
  generalize gF (FRt.getD (c % 64) 0) = g at hp ha hb2
  obtain ⟨g1, g2⟩ := g
  simp only [Bool.and_eq_true, beq_iff_eq] at hp
  simp only at ha hb2
  rw [hp.1] at ha
  rw [hp.2] at hb2
  rw [sim_eq ha n1, sim_eq hb2 n2]
  exact ⟨rfl, hd⟩
theorem angle_at {i : Nat} (hi : i < 64) (w : World) : Calls Try.prog 19 #[.float .f32 (PIt.getD i 0), .float .f32 (PRt.getD i 0)] w fun e w' => e = .returned (.float .f32 (ANt.getD i 0)) ∧ ∃ n, w' = w.drewN n := by
  have h := tab a_ok hi
  unfold ckA at h
  simp only [Bool.and_eq_true, beq_iff_eq, decide_eq_true_eq, Bool.not_eq_true'] at h
  obtain ⟨⟨⟨⟨h1, h2⟩, h3⟩, h4⟩, h5⟩ := h
  obtain ⟨w1, w2, _, l1, l2, l3, l4, _, _⟩ := wide hi
  have hb1 := tab wide_ok hi
  simp only [Bool.and_eq_true, beq_iff_eq, decide_eq_true_eq] at hb1
  have hNb := tN_nb (tA_nb (a := PIw.getD i 0 % 9223372036854775808) (b := PRw.getD i 0 % 9223372036854775808) (by omega) (by omega) h5) 3
  refine (AngleTurns_yes (PIt.getD i 0) (PRt.getD i 0) (PIw.getD i 0) (PRw.getD i 0) _ _ _ _ _ _ _ h3 h1 h2 rfl rfl l3 l4 (fun w => cres_some w w1) (fun w => cres_some w w2) rfl rfl rfl rfl rfl (nar_of_bd (ang3_bd _ _ _ hNb) (by omega)) w).mono ?_
  rintro e w' ⟨r, rfl, hr, hd⟩
  rw [h4] at hr
  rw [sim_eq hr (nn hi).2.2]
  exact ⟨rfl, hd⟩
theorem AngleOf_at (y x T : Nat) (h : ∀ w, Calls Try.prog 19 #[.float .f32 y, .float .f32 x] w fun e w' => e = .returned (.float .f32 T) ∧ ∃ n, w' = w.drewN n) (w : World) :
    Calls Try.prog 7 #[.complex .f32 x y] w fun e w' => e = .returned (.float .f32 T) ∧ ∃ n, w' = w.drewN n := by
  have H := Lib.hid h
  clear h
  go_enter Try.func7, Try.ntmps7
  go_wp2_with (go_at_call 19; refine (H.out _).mono ?_; rintro e w' ⟨rfl, n, rfl⟩)
  go_ret
  exact ⟨rfl, _, rfl⟩
theorem angle_i (w : World) : Calls Try.prog 19 #[.float .f32 1065353216, .float .f32 0] w fun e w' => e = .returned (.float .f32 1048576000) ∧ ∃ n, w' = w.drewN n := by
  have hNb := tN_nb (tA_nb (a := 4607182418800017408) (b := 0) (by omega) (by omega) (.inl (by omega))) 3
  refine (AngleTurns_yes 1065353216 0 4607182418800017408 0 4607182418800017408 0 true false true false false rfl (by decide +kernel) (by decide +kernel) (by decide +kernel) (by decide +kernel) (by omega) (by omega) (fun w => cres_some w (by decide +kernel)) (fun w => cres_some w (by decide +kernel)) (by decide +kernel) (by decide +kernel) (by decide +kernel) (by decide +kernel) (by decide +kernel) (nar_of_bd (ang3_bd _ _ _ hNb) (by omega)) w).mono ?_
  rintro e w' ⟨r, rfl, hr, hd⟩
  rw [show cop .f64 (ang3 true false false (tN (tA 4607182418800017408 0) 3)) .f32 = 1048576000 by decide +kernel] at hr
  rw [sim_eq hr (by decide +kernel)]
  exact ⟨rfl, hd⟩
theorem b10Gap_any (a b : Nat) (w : World) : Calls Try.prog 8 #[.float .f64 a, .float .f64 b] w fun e w' => ∃ r, e = .returned (.float .f64 r) ∧ Sim .f64 r (gapF a b) ∧ ∃ n, w' = w.drewN n := by
  unfold gapF
  cases hg : (FloatKind.f64.format.order a b == some .lt) with
  | true =>
    go_enter Try.func8, Try.ntmps8
    go_wp2
    go_ret
    exact ⟨_, rfl, by first | exact fres_sim .. | (rw [if_pos rfl]; exact fres_sim ..), _, rfl⟩
  | false =>
    go_enter Try.func8, Try.ntmps8
    go_wp2
    go_ret
    exact ⟨_, rfl, by first | exact fres_sim .. | (rw [if_neg (by decide)]; exact fres_sim ..), _, rfl⟩
theorem b10Near_true (u v r s U V R S : Nat) (hu : ∀ w, cres .f32 u .f64 w = U) (hv : ∀ w, cres .f32 v .f64 w = V) (hr : ∀ w, cres .f32 r .f64 w = R) (hs : ∀ w, cres .f32 s .f64 w = S) (h1 : leB (gapF U R) most64 = true) (h2 : leB (gapF V S) most64 = true) (w : World) :
    Calls Try.prog 10 #[.complex .f32 u v, .complex .f32 r s, .float .f64 most64] w fun e w' => e = .returned (.bool true) ∧ ∃ n, w' = w.drewN n := by
  unfold leB at h1 h2
  have H1 := Lib.hid h1
  have H2 := Lib.hid h2
  clear h1 h2
  go_enter Try.func10, Try.ntmps10
  go_wp2_with fail
  refine (b10Gap_any U R _).mono ?_
  rintro e w' ⟨g, rfl, hg, n, rfl⟩
  have e1 : (FloatKind.f64.format.order g most64 == some .lt || FloatKind.f64.format.order g most64 == some .eq) = true := by rw [order_congr hg (Sim.refl ..)]; exact H1.out
  clear hg
  go_wp2_with fail
  refine (b10Gap_any V S _).mono ?_
  rintro e w' ⟨g2, rfl, hg, m, rfl⟩
  have e2 : (FloatKind.f64.format.order g2 most64 == some .lt || FloatKind.f64.format.order g2 most64 == some .eq) = true := by rw [order_congr hg (Sim.refl ..)]; exact H2.out
  clear hg
  go_wp2
  go_ret
  exact ⟨rfl, _, rfl⟩
set_option maxHeartbeats 4000000 in
set_option maxRecDepth 100000 in
theorem PowerOf_at {i : Nat} (hi : i < 64) : ∃ P W, (∀ w, cres .f32 P .f64 w = W) ∧ notGt (gapF W 4607182418800017408) most64 = true ∧ ∀ w, Calls Try.prog 9 #[.complex .f32 (PRt.getD i 0) (PIt.getD i 0)] w fun e w' => e = .returned (.float .f32 P) ∧ ∃ n, w' = w.drewN n := by
  have h := tab p_ok hi
  unfold ckP at h
  split at h
  · rename_i A hA
    split at h
    · rename_i B hB
      split at h
      · rename_i S hS
        split at h
        · rename_i P hP
          split at h
          · rename_i W hW
            obtain ⟨w1, w2, _⟩ := wide hi
            refine ⟨P, W, fun w => cres_some w hW, h, fun w => ?_⟩
            have c1 : ∀ w, cres .f32 (PRt.getD i 0) .f64 w = PRw.getD i 0 := fun w => cres_some w w1
            have c2 : ∀ w, cres .f32 (PIt.getD i 0) .f64 w = PIw.getD i 0 := fun w => cres_some w w2
            have c3 : ∀ w, fres .mul .f64 (PRw.getD i 0) (PRw.getD i 0) w = A := fun w => fres_some w hA
            have c4 : ∀ w, fres .mul .f64 (PIw.getD i 0) (PIw.getD i 0) w = B := fun w => fres_some w hB
            have c5 : ∀ w, fres .add .f64 A B w = S := fun w => fres_some w hS
            have c6 : ∀ w, cres .f64 S .f32 w = P := fun w => cres_some w hP
            clear h hA hB hS hP hW w1 w2
            generalize PRt.getD i 0 = a1 at *
            generalize PIt.getD i 0 = a2 at *
            generalize PRw.getD i 0 = b1 at *
            generalize PIw.getD i 0 = b2 at *
            go_enter Try.func9, Try.ntmps9
            go_wp2
            go_ret
            exact ⟨rfl, _, rfl⟩
          · cases h
        · cases h
      · cases h
    · cases h
  · cases h
set_option maxHeartbeats 4000000 in
set_option maxRecDepth 100000 in
theorem Mul_at {i j : Nat} (hi : i < 64) (hj : j < 64) : (∃ U V, (∀ w, cres .f32 (uM i j) .f64 w = U) ∧ (∀ w, cres .f32 (vM i j) .f64 w = V) ∧ U = cop .f32 (uM i j) .f64 ∧ V = cop .f32 (vM i j) .f64) ∧
    ∀ w, Calls Try.prog 11 #[.complex .f32 (PRt.getD i 0) (PIt.getD i 0), .complex .f32 (PRt.getD j 0) (PIt.getD j 0)] w fun e w' => e = .returned (.complex .f32 (uM i j) (vM i j)) ∧ ∃ n, w' = w.drewN n := by
  obtain ⟨w1, w2, _, _, _, _, _, d1, d2⟩ := wide hi
  obtain ⟨w3, w4, _, _, _, _, _, d3, d4⟩ := wide hj
  have b1 := mul_bd d1 d3 (c := 1023) (by omega) (by omega) (by omega)
  have b2 := mul_bd d2 d4 (c := 1023) (by omega) (by omega) (by omega)
  have b3 := mul_bd d1 d4 (c := 1023) (by omega) (by omega) (by omega)
  have b4 := mul_bd d2 d3 (c := 1023) (by omega) (by omega) (by omega)
  have b5 := sub_bd b1 b2 (c := 1024) (by omega) (by omega) (by omega)
  have b6 := add_bd b3 b4 (c := 1024) (by omega) (by omega) (by omega)
  obtain ⟨s, r, hr, e1⟩ := narrow_bd b5 (by omega)
  obtain ⟨t, q, hq, e2⟩ := narrow_bd b6 (by omega)
  have hu : uM i j = single.word s r := by unfold uM cop; rw [e1]; rfl
  have hv : vM i j = single.word t q := by unfold vM cop; rw [e2]; rfl
  refine ⟨?_, fun w => ?_⟩
  · obtain ⟨K2, hK2⟩ : ∃ K : Nat, K = 925 := ⟨_, rfl⟩
    obtain ⟨z1, _, _, f1⟩ := widen_word s hK2 (r := r) (by rw [I32] at hr; exact hr)
    obtain ⟨z2, _, _, f2⟩ := widen_word t hK2 (r := q) (by rw [I32] at hq; exact hq)
    rw [hu, hv]
    exact ⟨_, _, fun w => cres_some w f1, fun w => cres_some w f2, by unfold cop; rw [f1]; rfl, by unfold cop; rw [f2]; rfl⟩
  · have c1 : ∀ w, cres .f32 (PRt.getD i 0) .f64 w = PRw.getD i 0 := fun w => cres_some w w1
    have c2 : ∀ w, cres .f32 (PIt.getD i 0) .f64 w = PIw.getD i 0 := fun w => cres_some w w2
    have c3 : ∀ w, cres .f32 (PRt.getD j 0) .f64 w = PRw.getD j 0 := fun w => cres_some w w3
    have c4 : ∀ w, cres .f32 (PIt.getD j 0) .f64 w = PIw.getD j 0 := fun w => cres_some w w4
    have c5 : ∀ w, fres .mul .f64 (PRw.getD i 0) (PRw.getD j 0) w = fop .mul .f64 (PRw.getD i 0) (PRw.getD j 0) := fun w => fres_bd w b1
    have c6 : ∀ w, fres .mul .f64 (PIw.getD i 0) (PIw.getD j 0) w = fop .mul .f64 (PIw.getD i 0) (PIw.getD j 0) := fun w => fres_bd w b2
    have c7 : ∀ w, fres .mul .f64 (PRw.getD i 0) (PIw.getD j 0) w = fop .mul .f64 (PRw.getD i 0) (PIw.getD j 0) := fun w => fres_bd w b3
    have c8 : ∀ w, fres .mul .f64 (PIw.getD i 0) (PRw.getD j 0) w = fop .mul .f64 (PIw.getD i 0) (PRw.getD j 0) := fun w => fres_bd w b4
    have c9 : ∀ w, fres .sub .f64 (fop .mul .f64 (PRw.getD i 0) (PRw.getD j 0)) (fop .mul .f64 (PIw.getD i 0) (PIw.getD j 0)) w = fop .sub .f64 (fop .mul .f64 (PRw.getD i 0) (PRw.getD j 0)) (fop .mul .f64 (PIw.getD i 0) (PIw.getD j 0)) := fun w => fres_bd w b5
    have c10 : ∀ w, fres .add .f64 (fop .mul .f64 (PRw.getD i 0) (PIw.getD j 0)) (fop .mul .f64 (PIw.getD i 0) (PRw.getD j 0)) w = fop .add .f64 (fop .mul .f64 (PRw.getD i 0) (PIw.getD j 0)) (fop .mul .f64 (PIw.getD i 0) (PRw.getD j 0)) := fun w => fres_bd w b6
    have c11 : ∀ w, cres .f64 (fop .sub .f64 (fop .mul .f64 (PRw.getD i 0) (PRw.getD j 0)) (fop .mul .f64 (PIw.getD i 0) (PIw.getD j 0))) .f32 w = uM i j := fun w => by rw [hu]; exact cres_some w e1
    have c12 : ∀ w, cres .f64 (fop .add .f64 (fop .mul .f64 (PRw.getD i 0) (PIw.getD j 0)) (fop .mul .f64 (PIw.getD i 0) (PRw.getD j 0))) .f32 w = vM i j := fun w => by rw [hv]; exact cres_some w e2
    clear hu hv e1 e2 hr hq b1 b2 b3 b4 b5 b6 d1 d2 d3 d4 w1 w2 w3 w4
    generalize uM i j = u at *
    generalize vM i j = v at *
    generalize fop .sub .f64 (fop .mul .f64 (PRw.getD i 0) (PRw.getD j 0)) (fop .mul .f64 (PIw.getD i 0) (PIw.getD j 0)) = m5 at *
    generalize fop .add .f64 (fop .mul .f64 (PRw.getD i 0) (PIw.getD j 0)) (fop .mul .f64 (PIw.getD i 0) (PRw.getD j 0)) = m6 at *
    generalize fop .mul .f64 (PRw.getD i 0) (PRw.getD j 0) = m1 at *
    generalize fop .mul .f64 (PIw.getD i 0) (PIw.getD j 0) = m2 at *
    generalize fop .mul .f64 (PRw.getD i 0) (PIw.getD j 0) = m3 at *
    generalize fop .mul .f64 (PIw.getD i 0) (PRw.getD j 0) = m4 at *
    generalize PRt.getD i 0 = a1 at *
    generalize PIt.getD i 0 = a2 at *
    generalize PRw.getD i 0 = b1 at *
    generalize PIw.getD i 0 = b2 at *
    generalize PRt.getD j 0 = a3 at *
    generalize PIt.getD j 0 = a4 at *
    generalize PRw.getD j 0 = b3 at *
    generalize PIw.getD j 0 = b4 at *
    go_enter Try.func11, Try.ntmps11
    go_wp2
    go_ret
    exact ⟨rfl, _, rfl⟩
theorem Tenths_at {z p : Nat} (hz : z < 2139095040) (mz : mval single z = p * 2 ^ 143) (hp : 0 < p) (ht : Ten p) (w : World) :
    Calls Try.prog 12 #[.float .f32 z] w fun e w' => e = .returned (.tuple #[.int .i64 (Tt p), .bool true]) ∧ ∃ c, w' = w.drewN c := by
  obtain ⟨W, mW, hn, h1, h2⟩ := ht
  have wf : single.word false z = z := by unfold Format.word; simp
  obtain ⟨K2, hK2⟩ : ∃ K : Nat, K = 925 := ⟨_, rfl⟩
  obtain ⟨q, hq, hv, e⟩ := widen_word false hK2 (r := z) hz
  have hqW : q = W := by
    apply mval_inj (f := double)
    obtain ⟨E, hE⟩ : ∃ E : Nat, E = 1068 := ⟨_, rfl⟩
    rw [← hE] at mW
    rw [hv, mz, mW, Nat.mul_assoc, ← Nat.pow_add, show 143 + K2 = E by omega]
  rw [wf, word_false, hqW] at e
  have hz0 : z ≠ 0 := by
    intro h0
    rw [h0, mval_small (by rw [B32]; omega)] at mz
    have := Nat.mul_pos hp (Nat.two_pow_pos 143)
    omega
  have ho := order0_32 false hz hz0
  rw [wf, if_neg (by decide)] at ho
  refine TenthsOf_yes z W (fun w => cres_some w e) h1 h2 (Tt p) hn ?_ (by unfold leq0; rw [ho]; rfl) w
  have hs := self_zero .f32 false (r := z) (by rw [fmt32, I32]; exact hz)
  rw [fmt32, wf] at hs
  unfold finB
  rw [hs]
  decide +kernel
end Go.Proofs.Ytdbcjldengemeaa.Cir
