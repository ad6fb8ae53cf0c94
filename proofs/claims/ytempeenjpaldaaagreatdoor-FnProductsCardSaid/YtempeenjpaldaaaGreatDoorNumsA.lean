/- What the law FnNumbers calls: angles, sums, narrowed and flushed numbers, comparisons, for all numbers. -/
import Derived.Test.YtempeenjpaldaaaGreatDoorFlA
import Derived.Test.YtempeenjpaldaaaGreatDoorRowF
namespace Go.Proofs.YtempeenjpaldaaaGreatDoor.NumsA
open Go.RowKit Go.Proofs.YtempeenjpaldaaaGreatDoorW.PrintWords Go.Proofs.YtempeenjpaldaaaGreatDoorW.PrintLast Fl Ieee
/-- the sum from left to right, one NaN standing for all -/
def sumF (l : List Nat) : Nat := l.foldl (fun s x => fop .add .f32 s x) 0
theorem sumF_step {l : List Nat} {j : Nat} (hj : j < l.length) : sumF (l.take (j + 1)) = fop .add .f32 (sumF (l.take j)) (l.getD j 0) := by
  unfold sumF
  rw [List.take_succ_eq_append_getElem hj, List.foldl_append, List.getD_eq_getElem?_getD, List.getElem?_eq_getElem hj]; rfl

set_option maxHeartbeats 1000000 in
set_option maxRecDepth 100000 in
theorem SumNumbers_yes (A : Option Addr) (c : Nat) (l : List Nat) (w : World) (hr0 : FK.C w A l.length l) (hn : l.length ≤ 256) :
    Calls Tryz.prog 12 #[.slice A l.length c] w fun e w' => ∃ r, e = .returned (.tuple #[.float .f32 r, .bool true]) ∧ Sim .f32 r (sumF l) ∧ ∃ n, w' = w.drewN n := by
  have HR0 := Aside0.mk hr0
  clear hr0
  obtain ⟨n, hn'⟩ : ∃ n, n = l.length := ⟨_, rfl⟩
  have HN := Aside0.mk hn'
  rw [← hn'] at HR0 hn ⊢
  clear hn'
  have h1 : ¬ 256 < (n : Int) := by omega
  go_enter Tryz.func12, Tryz.ntmps12
  go_wp2
  go_loopw [4, 12] (fun v3 v4 w' => ∃ (s j : Nat), v3 = .float .f32 s ∧ v4 = .int .i64 j ∧ Aside0 (j ≤ n) ∧ Aside0 (Sim .f32 s (sumF (l.take j))) ∧ Aside0 (∃ k, w' = w.drewN k)) (fun _ v4 _ => n - (intOf v4).toNat)
  case atStart => exact ⟨0, 0, rfl, rfl, ⟨by omega⟩, ⟨.inl rfl⟩, ⟨0, rfl⟩⟩
  case round =>
    obtain ⟨s, j, rfl, rfl, HJ, HS, HK⟩ := hrel
    by_cases hlt : j < n
    · obtain ⟨ad, ea, hx⟩ := at_f32 HR0.out j hlt
      subst ea
      replace hx : wr.cell? (ad.add j) = some (.float .f32 (l.getD j 0)) := by obtain ⟨k, e⟩ := HK.out; rw [e]; exact hx
      have HE := Aside0.mk (sumF_step (l := l) (j := j) (by rw [← HN.out]; exact hlt))
      generalize l.getD j 0 = x at *
      go_wp2
      go_roundw
      case rel => exact ⟨_, j + 1, rfl, by go_num, ⟨by omega⟩, ⟨by rw [HE.out]; exact fres_of _ HS.out (Sim.refl _ _)⟩, ⟨by obtain ⟨k, e⟩ := HK.out; exact ⟨_, by rw [e, World.drewN_drewN]⟩⟩⟩
      case measure => simp [intOf]; omega
    · obtain rfl : j = n := by have := HJ.out; omega
      have HS2 : Aside0 (Sim .f32 s (sumF l)) := ⟨by have := HS.out; rw [HN.out, List.take_length] at this; exact this⟩
      clear HS
      go_wp2
      go_ret2
      exact ⟨s, rfl, HS2.out, HK.out⟩

theorem FromBits_yes (m : Nat) (hm : m < 4294967296) (w : World) : Calls Tryz.prog 7 #[.int .i64 m] w fun e w' => e = .returned (.tuple #[.float .f32 m, .bool true]) ∧ w = w' := by
  have h1 : (m : Int) ≤ 4294967295 := by omega
  go_enter Tryz.func7, Tryz.ntmps7
  go_wp2
  go_ret2
  exact ⟨rfl, rfl⟩
/-! ### the same number -/
theorem l01Bits_nan (x : Nat) (hn : isN .f32 x = true) (w : World) : Calls Tryz.prog 78 #[.float .f32 x] w fun e w' => e = .returned (.int .i64 2143289344) ∧ w = w' := by
  have ho := order_nan_l (y := x) hn
  clear hn
  go_enter Tryz.func78, Tryz.ntmps78
  go_wp2
  go_ret
  exact ⟨rfl, rfl⟩
theorem SameNumber_any (a b : Nat) (ha : a < 4294967296) (hb : b < 4294967296) (w : World) : Calls Tryz.prog 15 #[.float .f32 a, .float .f32 b] w fun e w' => e = .returned (.bool (sameB a b)) ∧ w = w' := by
  have HA := Lib.hid ha
  have HB := Lib.hid hb
  clear ha hb
  go_enter Tryz.func15, Tryz.ntmps15
  go_wp2_with (go_at_call 52; refine (l01Same_any _ _ HA.out HB.out _).mono ?_; rintro e w' ⟨rfl, rfl⟩)
  go_ret
  exact ⟨rfl, rfl⟩
set_option maxRecDepth 100000 in
theorem l01Same_nan (a b : Nat) (ha : isN .f32 a = true) (hb : isN .f32 b = true) (w : World) : Calls Tryz.prog 52 #[.float .f32 a, .float .f32 b] w fun e w' => e = .returned (.bool true) ∧ w = w' := by
  have HA := Lib.hid ha
  have HB := Lib.hid hb
  clear ha hb
  go_enter Tryz.func52, Tryz.ntmps52
  go_wp2_with fail
  refine (l01Bits_nan a HA.out _).mono ?_
  rintro e w' ⟨rfl, rfl⟩
  go_wp2_with fail
  refine (l01Bits_nan b HB.out _).mono ?_
  rintro e w' ⟨rfl, rfl⟩
  go_wp2
  go_ret
  exact ⟨rfl, rfl⟩
theorem SameNumber_nan (a b : Nat) (ha : isN .f32 a = true) (hb : isN .f32 b = true) (w : World) : Calls Tryz.prog 15 #[.float .f32 a, .float .f32 b] w fun e w' => e = .returned (.bool true) ∧ w = w' := by
  have HA := Lib.hid ha
  have HB := Lib.hid hb
  clear ha hb
  go_enter Tryz.func15, Tryz.ntmps15
  go_wp2_with (go_at_call 52; refine (l01Same_nan _ _ HA.out HB.out _).mono ?_; rintro e w' ⟨rfl, rfl⟩)
  go_ret
  exact ⟨rfl, rfl⟩
theorem SameNumber_sim (a b T : Nat) (ha : Sim .f32 a T) (hb : Sim .f32 b T) (hT : T < 4294967296) (w : World) : Calls Tryz.prog 15 #[.float .f32 a, .float .f32 b] w fun e w' => e = .returned (.bool true) ∧ w = w' := by
  by_cases hn : isN .f32 T = true
  · exact SameNumber_nan a b (by rw [ha.isN_eq]; exact hn) (by rw [hb.isN_eq]; exact hn) w
  · have e1 : a = T := by
      rcases ha with h | ⟨_, h⟩
      · exact h
      · exact absurd h hn
    have e2 : b = T := by
      rcases hb with h | ⟨_, h⟩
      · exact h
      · exact absurd h hn
    subst e1
    rw [e2]
    have := SameNumber_any a a hT hT w
    have e : sameB a a = true := by unfold sameB; rw [beq_iff_eq]
    rw [e] at this
    exact this
theorem sumF_lt (l : List Nat) : sumF l < 4294967296 := by
  rcases List.eq_nil_or_concat l with rfl | ⟨m, x, rfl⟩
  · decide
  · unfold sumF
    rw [List.concat_eq_append, List.foldl_append]
    exact fop_lt .add .f32 _ _
/-! ### bits and flushing -/
theorem same_bits (x : Nat) : sameB (bitsN x).toNat x = true := by
  unfold sameB
  rw [beq_iff_eq]
  by_cases hn : isN .f32 x = true
  · rw [bitsN_nan hn]
    exact bitsN_nan isN_quiet
  · have hn' : isN .f32 x = false := by simpa using hn
    rw [bitsN_of hn', Int.toNat_natCast, bitsN_of hn']
theorem flush_sub {x : Nat} (hx : x < 4294967296) : subB (flushF x) = false ∧ flushF x < 4294967296 := by
  unfold subB flushF
  split
  · refine ⟨decide_eq_false ?_, ?_⟩ <;> omega
  · rename_i h
    exact ⟨decide_eq_false (fun g => h g.2), hx⟩
theorem flush_same (x : Nat) : (subB x == sameB x (flushF x)) = false := by
  by_cases h : x % 2147483648 < 8388608
  · have hn : isN .f32 x = false := by
      cases hc : isN .f32 x with
      | false => rfl
      | true => exact absurd h (nan_rung hc)
    have hf : flushF x = x / 2147483648 * 2147483648 := by unfold flushF; rw [if_pos h]
    have hn2 : isN .f32 (x / 2147483648 * 2147483648) = false := by
      cases hc : isN .f32 (x / 2147483648 * 2147483648) with
      | false => rfl
      | true => exact absurd (show x / 2147483648 * 2147483648 % 2147483648 < 8388608 by omega) (nan_rung hc)
    unfold sameB subB
    rw [hf, bitsN_of hn, bitsN_of hn2]
    by_cases h0 : x % 2147483648 = 0
    · rw [decide_eq_false (fun g => g.1 h0)]
      rw [show ((x : Int) == ((x / 2147483648 * 2147483648 : Nat) : Int)) = true by rw [beq_iff_eq]; omega]; rfl
    · rw [decide_eq_true ⟨h0, h⟩]
      rw [show ((x : Int) == ((x / 2147483648 * 2147483648 : Nat) : Int)) = false by rw [beq_eq_false_iff_ne]; omega]; rfl
  · have hf : flushF x = x := by unfold flushF; rw [if_neg h]
    rw [hf, show sameB x x = true by unfold sameB; rw [beq_iff_eq]]
    unfold subB
    rw [decide_eq_false (fun g => h g.2)]; rfl
/-! ### narrowed again -/
theorem narrow_word (s : Bool) {r : Nat} (hr : r < 2139095040) : ∃ q, floatToFloatBits .f32 (single.word s r) .f64 = some (double.word s q) ∧ floatToFloatBits .f64 (double.word s q) .f32 = some (single.word s r) := by
  obtain ⟨K, hK⟩ : ∃ K : Nat, K = 925 := ⟨_, rfl⟩
  obtain ⟨q, hq, hv, e⟩ := widen_word s hK hr
  obtain ⟨m, d, e1, e2, _, _⟩ := read_num double s (r := q) (by rw [I64]; exact hq)
  have hri : r < single.infRung := by rw [I32]; exact hr
  have hpl : double.leastPlace + (d : Int) = single.leastPlace + (d : Int) - (K : Int) := by rw [P64, P32, hK]; omega
  have e3 := nearest_exact single s (m := m) (d := d) (b := K) (r := r) (e2.trans hv) hri
  refine ⟨q, e, ?_⟩
  unfold floatToFloatBits
  rw [if_neg (by decide)]
  have hd2 : FloatKind.f64.decode (double.word s q) = .number s m (double.leastPlace + d) := e1
  rw [hd2, hpl]
  simp only [FloatKind.encode, fmt32, Format.write, e3]
  rw [if_neg]
  obtain ⟨m', d', e', _⟩ := read_num single s hri
  simp only [FloatKind.decode, fmt32, e', Datum.isInfinity]
  simp
theorem narrow_back {x : Nat} (hx : x < 4294967296) (w w' : World) : Sim .f32 (cres .f64 (cres .f32 x .f64 w) .f32 w') x := by
  rcases kinds .f32 (w := x) hx with ⟨s, r, hr, rfl⟩ | ⟨s, rfl⟩ | h
  · rw [fmt32] at *
    obtain ⟨q, e1, e2⟩ := narrow_word s (r := r) (by rw [I32] at hr; exact hr)
    rw [cres_some w e1, cres_some w' e2]
    exact Sim.refl ..
  · rw [fmt32, cres_some w (widen_inf s), cres_some w' (show floatToFloatBits .f64 (double.word s double.infRung) .f32 = some (single.word s single.infRung) by cases s <;> decide +kernel)]
    exact Sim.refl ..
  · exact .inr ⟨cres_nan _ (by decide) (cres_nan _ (by decide) h), h⟩
theorem NarrowNumber_any (y : Nat) (w : World) : Calls Tryz.prog 19 #[.float .f64 y] w fun e w' => ∃ w2, e = .returned (.float .f32 (cres .f64 y .f32 w2)) ∧ ∃ n, w' = w.drewN n := by
  go_enter Tryz.func19, Tryz.ntmps19
  go_wp2
  go_ret
  exact ⟨_, rfl, _, rfl⟩
/-! ### the sine of a quarter -/
theorem SineTurns_yes (x y : Nat) (n : Int) (hy : y < 18446744073709551616) (hf : finB x = true) (hc : ∀ w, cres .f32 x .f64 w = y) (hb : (FloatKind.f64.format.order (y % 9223372036854775808) 4841369599423283200 == some .gt || FloatKind.f64.format.order (y % 9223372036854775808) 4841369599423283200 == some .eq) = false) (hn : floatToIntVal .f64 y .i64 = some n) (hT : Nar (sineF y)) (w : World) :
    Calls Tryz.prog 20 #[.float .f32 x] w fun e w' => ∃ r n, e = .returned (.float .f32 r) ∧ Sim .f32 r (cop .f64 (sineF y) .f32) ∧ w' = w.drewN n := by
  have HY := Lib.hid hy
  have HN := Lib.hid hn
  have HT := Lib.hid hT
  clear hy hn hT
  go_enter Tryz.func20, Tryz.ntmps20
  go_wp2_with (first | (go_at_call 54; refine (IsFinite_any _ _).mono ?_; rintro e w' ⟨rfl, n, rfl⟩) | (go_at_call 53; refine (Abs_any _ HY.out _).mono ?_; rintro e w' ⟨rfl, rfl⟩) | (go_at_call 57; refine (sine_any _ _ HN.out _).mono ?_; rintro e w' ⟨v, rfl, hv, n, rfl⟩))
  go_ret
  exact ⟨_, _, rfl, nar_sim _ hv HT.out, rfl⟩


theorem quarter (w : World) : Calls Tryz.prog 20 #[.float .f32 1048576000] w fun e w' => e = .returned (.float .f32 1065353216) ∧ ∃ n, w' = w.drewN n := by
  have hs : sineF 4598175219545276416 = 4607182418800017604 := by decide +kernel
  refine (SineTurns_yes 1048576000 4598175219545276416 0 (by omega) (by decide +kernel) (fun w => cres_some w (by decide +kernel)) (by decide +kernel) (by decide +kernel) (by rw [hs]; exact .inr ⟨1065353216, by decide +kernel⟩) w).mono ?_
  rintro e w' ⟨r, n, rfl, hr, rfl⟩
  rw [hs, show cop .f64 4607182418800017604 .f32 = 1065353216 by decide +kernel] at hr
  rcases hr with rfl | ⟨_, h⟩
  · exact ⟨rfl, _, rfl⟩
  · exact absurd h (by decide +kernel)
/-! ### angles -/
theorem impl_no1 (y x : Nat) (hf : finB x = false) (w : World) :
    Calls Tryz.prog 17 #[.float .f32 y, .float .f32 x] w fun e w' => ∃ r, e = .returned (.float .f32 r) ∧ Sim .f32 r (cop .f64 9221120237041090561 .f32) ∧ ∃ n, w' = w.drewN n := by
  go_enter Tryz.func17, Tryz.ntmps17
  go_wp2_with (first | (go_at_call 54; refine (IsFinite_any _ _).mono ?_; rintro e w' ⟨rfl, n, rfl⟩) | (go_at_call 55; refine (NaN_any _).mono ?_; rintro e w' ⟨rfl, rfl⟩))
  go_ret
  exact ⟨_, rfl, nar_sim _ (Sim.refl ..) (.inl (by decide +kernel)), _, rfl⟩
theorem impl_no2 (y x : Nat) (hf : finB x = true) (hf2 : finB y = false) (w : World) :
    Calls Tryz.prog 17 #[.float .f32 y, .float .f32 x] w fun e w' => ∃ r, e = .returned (.float .f32 r) ∧ Sim .f32 r (cop .f64 9221120237041090561 .f32) ∧ ∃ n, w' = w.drewN n := by
  go_enter Tryz.func17, Tryz.ntmps17
  go_wp2_with (first | (go_at_call 54; refine (IsFinite_any _ _).mono ?_; rintro e w' ⟨rfl, n, rfl⟩) | (go_at_call 55; refine (NaN_any _).mono ?_; rintro e w' ⟨rfl, rfl⟩))
  go_ret
  exact ⟨_, rfl, nar_sim _ (Sim.refl ..) (.inl (by decide +kernel)), _, rfl⟩
theorem impl_zero (y x : Nat) (hf : finB x = true) (hf2 : finB y = true) (hzx : (FloatKind.f32.format.order x 0 == some .eq) = true) (hzy : (FloatKind.f32.format.order y 0 == some .eq) = true) (w : World) :
    Calls Tryz.prog 17 #[.float .f32 y, .float .f32 x] w fun e w' => ∃ r, e = .returned (.float .f32 r) ∧ Sim .f32 r (cop .f64 0 .f32) ∧ ∃ n, w' = w.drewN n := by
  go_enter Tryz.func17, Tryz.ntmps17
  go_wp2_with (go_at_call 54; refine (IsFinite_any _ _).mono ?_; rintro e w' ⟨rfl, n, rfl⟩)
  go_ret
  exact ⟨_, rfl, .inl (by decide +kernel), _, rfl⟩

/-- a finite float32 and its widening -/
theorem fin_cases {x : Nat} (hx : x < 4294967296) : (∃ s q, q < 9218868437227405312 ∧ (∀ w, cres .f32 x .f64 w = double.word s q) ∧ finB x = true ∧ double.word s q < 18446744073709551616 ∧
      FloatKind.f32.format.order x 0 = FloatKind.f64.format.order (double.word s q) 0 ∧ ((FloatKind.f64.format.order (double.word s q) 0 == some .eq) = false → q ≠ 0)) ∨
    (finB x = false ∧ ∀ w, isN .f64 (fop .sub .f64 (cres .f32 x .f64 w) (cres .f32 x .f64 w)) = true) := by
  rcases kinds .f32 (w := x) hx with ⟨s, r, hr, rfl⟩ | ⟨s, rfl⟩ | h
  · left
    rw [fmt32] at *
    have hr' := hr
    rw [I32] at hr'
    obtain ⟨K, hK⟩ : ∃ K : Nat, K = 925 := ⟨_, rfl⟩
    obtain ⟨q, hq, hv, e⟩ := widen_word s hK hr'
    refine ⟨s, q, hq, fun w => cres_some w e, ?_, ?_, ?_, ?_⟩
    · unfold finB
      have := self_zero .f32 s (r := r) (by rw [fmt32]; exact hr)
      rw [fmt32] at this
      rw [this]; decide +kernel
    · cases s
      · rw [word_false]; omega
      · rw [word_true]; omega
    · have h1 := order_words single s false (r := r) (q := 0) hr (by rw [I32]; omega)
      have h2 := order_words double s false (r := q) (q := 0) (by rw [I64]; exact hq) (by rw [I64]; omega)
      have e1 : single.word false 0 = 0 := rfl
      rw [e1] at h1
      rw [word_false] at h2
      rw [fmt64, h1, h2, hv]
      have z1 : mval single 0 = 0 := mval_small (by rw [B32]; omega)
      have z2 : mval double 0 = 0 * 2 ^ K := by rw [Nat.zero_mul]; exact mval_small (by rw [B64]; omega)
      rw [z1, z2, sv_mul, sv_mul, compare_mul _ (Nat.two_pow_pos _)]
    · intro h h0
      rw [h0] at h
      have : (FloatKind.f64.format.order (double.word s 0) 0 == some .eq) = true := by cases s <;> decide +kernel
      rw [this] at h; cases h
  · right
    refine ⟨?_, fun w => ?_⟩
    · unfold finB
      rw [order_nan_l (self_inf .f32 s)]; rfl
    · rw [fmt32, cres_some w (widen_inf s)]
      exact self_inf .f64 s
  · right
    refine ⟨?_, fun w => ?_⟩
    · unfold finB
      rw [order_nan_l (self_nan h)]; rfl
    · exact self_nan (cres_nan w (by decide) h)


theorem angle_all (y x : Nat) (hy : y < 4294967296) (hx : x < 4294967296) : ∃ T, T < 4294967296 ∧
    (∀ w, Calls Tryz.prog 17 #[.float .f32 y, .float .f32 x] w fun e w' => ∃ r, e = .returned (.float .f32 r) ∧ Sim .f32 r T ∧ ∃ n, w' = w.drewN n) := by
  rcases fin_cases hx with ⟨s, q, hq, hcx, hfx, hX, hox, hqx⟩ | ⟨hfx, hnx⟩
  · rcases fin_cases hy with ⟨t, p, hp, hcy, hfy, hY, hoy, hpy⟩ | ⟨hfy, hny⟩
    · by_cases hz : (FloatKind.f64.format.order (double.word s q) 0 == some .eq) = true ∧ (FloatKind.f64.format.order (double.word t p) 0 == some .eq) = true
      · exact ⟨_, by decide +kernel, impl_zero y x hfx hfy (by rw [hox]; exact hz.1) (by rw [hoy]; exact hz.2)⟩
      · have hA := abs_word t (q := p) (by rw [I64]; exact hp)
        have hB := abs_word s (q := q) (by rw [I64]; exact hq)
        rw [word_false] at hA hB
        have hz' : ((FloatKind.f64.format.order (double.word s q) 0 == some .eq) && (FloatKind.f64.format.order (double.word t p) 0 == some .eq)) = false := by
          rw [Bool.eq_false_iff]; intro h; rw [Bool.and_eq_true] at h; exact hz h
        have h0 : p ≠ 0 ∨ q ≠ 0 := by
          rcases Bool.and_eq_false_iff.1 hz' with h | h
          · exact .inr (hqx h)
          · exact .inl (hpy h)
        have hNb := tN_nb (tA_nb hp hq h0) 3
        have hN := fun o bx b2 => nar_of_bd (ang3_bd o bx b2 hNb) (by omega)
        have hL : ∀ o bx b2, cop .f64 (ang3 o bx b2 (tN (tA p q) 3)) .f32 < 4294967296 := fun o bx b2 => by
          obtain ⟨s', r', hr', e'⟩ := narrow_bd (ang3_bd o bx b2 hNb) (by omega)
          unfold cop
          rw [e', Option.getD_some]
          rw [I32] at hr'
          unfold Format.word; rw [S32]
          cases s' <;> simp <;> omega
        exact ⟨_, hL _ _ _, AngleTurns_yes y x _ _ p q _ _ _ _ _ hz' hfx hfy (by rw [hox]) (by rw [hoy]) hX hY hcx hcy hA hB rfl (by rw [hox]) (by rw [hoy]) (hN _ _ _)⟩
    · exact ⟨_, by decide +kernel, impl_no2 y x hfx hfy⟩
  · exact ⟨_, by decide +kernel, impl_no1 y x hfx⟩
theorem AngleOf_any (y x T : Nat) (h : ∀ w, Calls Tryz.prog 17 #[.float .f32 y, .float .f32 x] w fun e w' => ∃ r, e = .returned (.float .f32 r) ∧ Sim .f32 r T ∧ ∃ n, w' = w.drewN n) (w : World) :
    Calls Tryz.prog 18 #[.complex .f32 x y] w fun e w' => ∃ r, e = .returned (.float .f32 r) ∧ Sim .f32 r T ∧ ∃ n, w' = w.drewN n := by
  have H := Lib.hid h
  clear h
  go_enter Tryz.func18, Tryz.ntmps18
  go_wp2_with (go_at_call 17; refine (H.out _).mono ?_; rintro e w' ⟨r, rfl, hr, n, rfl⟩)
  go_ret
  exact ⟨_, rfl, hr, _, rfl⟩
end Go.Proofs.YtempeenjpaldaaaGreatDoor.NumsA
