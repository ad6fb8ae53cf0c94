/- What the draws of numbers give, in plain lists: always something, and numbers of 32 bits. -/
import Derived.Test.YtempeenjpaldaaaGreatDoorSZ1
import Derived.Test.YtempeenjpaldaaaGreatDoorPNum
namespace Go.Proofs.YtempeenjpaldaaaGreatDoor.SZ
open Go.RowKit Go.Proofs.YtempeenjpaldaaaGreatDoorW.PrintWords Go.Proofs.YtempeenjpaldaaaGreatDoorW.PrintLast Go.Proofs.YtempeenjpaldaaaGreatDoorW.PrintMore Fl SNum
/-- bytes -/
def By (l : List Int) : Prop := ∀ x ∈ l, 0 ≤ x ∧ x < 256
theorem and_255 (X : Int) : 0 ≤ wrap64 (Go.bits .and .u64 (IntKind.u64.wrap X / 1099511627776) 255) ∧ wrap64 (Go.bits .and .u64 (IntKind.u64.wrap X / 1099511627776) 255) < 256 := by
  have hX : 0 ≤ IntKind.u64.wrap X ∧ IntKind.u64.wrap X < 18446744073709551616 := by rw [IntKind.wrap_u64]; omega
  obtain ⟨n, hn⟩ := Int.eq_ofNat_of_zero_le (show 0 ≤ IntKind.u64.wrap X / 1099511627776 by omega)
  have hb := (bits_nat .u64 64 (by decide) (fun n h0 h1 => by rw [IntKind.wrap_u64]; omega) n 255 (by omega) (by omega)).1
  rw [show ((255 : Nat) : Int) = 255 from rfl] at hb
  rw [hn]
  have e : Go.bits .and .u64 (Int.ofNat n) 255 = ((n &&& 255 : Nat) : Int) := hb
  have hle : n &&& 255 ≤ 255 := Nat.and_le_right
  have e' : Go.bits .and .u64 ((n : Nat) : Int) 255 = ((n &&& 255 : Nat) : Int) := hb
  rw [e', w64 _ (by omega) (by omega)]
  omega
theorem next_ok {l : List Int} (hl : By l) (a s : Int) (h0 : 0 ≤ a) (h1 : a < 4611686018427387904) : ∃ v s', spec_l00Src_next.f l a s = some (v, a + 1, s') ∧ 0 ≤ v ∧ v < 256 := by
  have hw : wrap64 (a + 1) = a + 1 := w64 _ (by omega) (by omega)
  unfold spec_l00Src_next.f
  rw [hw]
  by_cases h : a < (l.length : Int)
  · rw [if_pos h, if_pos h0]
    split
    · refine ⟨_, _, rfl, ?_⟩
      obtain ⟨n, rfl⟩ := Int.eq_ofNat_of_zero_le h0
      have hn : n < l.length := by omega
      have hm := hl _ (List.getElem_mem hn)
      have he : rd l (n : Int) = l[n] := rd_get l n hn
      rw [he, w64 _ (by omega) (by omega)]
      exact hm
    · exact ⟨_, _, rfl, and_255 _⟩
  · rw [if_neg h]
    split
    · exact ⟨_, _, rfl, by omega, by omega⟩
    · exact ⟨_, _, rfl, and_255 _⟩
theorem tmod_ok {x n : Int} (hx : 0 ≤ x) (hn : 1 < n) : 0 ≤ Int.tmod x n ∧ Int.tmod x n < n := by
  rw [Int.tmod_eq_emod_of_nonneg hx]
  exact ⟨Int.emod_nonneg _ (by omega), Int.emod_lt_of_pos _ (by omega)⟩
theorem pick_ok {l : List Int} (hl : By l) (a s n : Int) (h0 : 0 ≤ a) (h1 : a < 2305843009213693952) (hn : 1 < n) : ∃ v a' s', spec_l00Src_pick.f l a s n = some (v, a', s') ∧ 0 ≤ v ∧ v < n ∧ 0 ≤ a' ∧ a' ≤ a + 2 := by
  unfold spec_l00Src_pick.f
  obtain ⟨v, s1, e1, v0, v1⟩ := next_ok hl a s h0 (by omega)
  rw [if_neg (by omega), e1, Option.bind_some]
  simp only
  by_cases h : n > 200
  · obtain ⟨u, s2, e2, u0, u1⟩ := next_ok hl (a + 1) s1 (by omega) (by omega)
    rw [if_pos h, e2, Option.bind_some, if_neg (by omega)]
    simp only
    rw [w64 (v * 256) (by omega) (by omega), w64 _ (by omega) (by omega)]
    obtain ⟨t0, t1⟩ := tmod_ok (x := v * 256 + u) (by omega) hn
    exact ⟨_, _, _, rfl, t0, t1, by omega, by omega⟩
  · rw [if_neg h, if_neg (by omega)]
    obtain ⟨t0, t1⟩ := tmod_ok (x := v) (by omega) hn
    exact ⟨_, _, _, rfl, t0, t1, by omega, by omega⟩
theorem one_ok {l : List Int} (hl : By l) (a s n : Int) (h0 : 0 ≤ a) (h1 : a < 2305843009213693952) (hn : 1 < n) : ∃ b a' s', spec_l00Src_one.f l a s n = some (b, a', s') ∧ 0 ≤ a' ∧ a' ≤ a + 2 := by
  unfold spec_l00Src_one.f
  obtain ⟨v, a', s', e, _, _, h2, h3⟩ := pick_ok hl a s n h0 h1 hn
  rw [e, Option.bind_some]
  exact ⟨_, _, _, rfl, h2, h3⟩
theorem among_ok {l : List Int} (hl : By l) (a s : Int) (h0 : 0 ≤ a) (h1 : a < 2305843009213693952) (c : List Int) (hc : 1 < c.length) : ∃ v a' s', spec_l00Src_among.f l a s c = some (v, a', s') ∧ v ∈ c ∧ 0 ≤ a' ∧ a' ≤ a + 2 := by
  unfold spec_l00Src_among.f
  obtain ⟨v, a', s', e, v0, v1, h2, h3⟩ := pick_ok hl a s (c.length : Int) h0 h1 (by omega)
  rw [e, Option.bind_some]
  simp only
  rw [if_pos v0, if_pos v1]
  obtain ⟨n, rfl⟩ := Int.eq_ofNat_of_zero_le v0
  have hn : n < c.length := by omega
  have he : rd c (n : Int) = c[n] := rd_get c n hn
  exact ⟨_, _, _, rfl, by rw [he]; exact List.getElem_mem hn, h2, h3⟩
/-- a number of 32 bits -/
def B32 (r : Int) : Prop := 0 ≤ r ∧ r < 4294967296
theorem quo_b32 {a b r : Int} (h : quoF.f a b = some r) : B32 r := by
  have h1 := fop_lt .quo .f32 a.toNat b.toNat
  obtain ⟨n, hn, rfl⟩ := Option.map_eq_some_iff.1 h
  unfold fop at h1
  rw [hn] at h1
  have h2 : n < 4294967296 := h1
  exact ⟨Int.natCast_nonneg n, by have : (Int.ofNat n) = (n : Int) := rfl; omega⟩
theorem mul_b32 {a b r : Int} (h : mulF.f a b = some r) : B32 r := by
  have h1 := fop_lt .mul .f32 a.toNat b.toNat
  obtain ⟨n, hn, rfl⟩ := Option.map_eq_some_iff.1 h
  unfold fop at h1
  rw [hn] at h1
  have h2 : n < 4294967296 := h1
  exact ⟨Int.natCast_nonneg n, by have : (Int.ofNat n) = (n : Int) := rfl; omega⟩
/-- the numbers that are drawn plainly -/
def plain (m : Nat) (d : Nat) : Option Int := quoF.f ((floatOfInt .f32 ((m : Int) - 64) : Nat) : Int) (d : Int)
theorem plain_all : (List.range 129).all (fun m => [1088421888, 1098907648].all fun d => match plain m d with | some r => [8388608, 2130706432, 1610612736, 536870912].all (fun c => (mulF.f r c).isSome) | none => false) = true := by decide +kernel
def Pl (r : Int) : Prop := B32 r ∧ ∀ c ∈ ([8388608, 2130706432, 1610612736, 536870912] : List Int), (mulF.f r c).isSome = true
theorem plain_ok {m : Nat} (hm : m < 129) {d : Nat} (hd : d ∈ [1088421888, 1098907648]) : ∃ r, plain m d = some r ∧ Pl r := by
  have h := (List.all_eq_true.1 ((List.all_eq_true.1 plain_all) m (List.mem_range.2 hm))) d hd
  cases hp : plain m d with
  | none => rw [hp] at h; cases h
  | some r =>
    rw [hp] at h
    refine ⟨r, rfl, quo_b32 hp, fun c hc => ?_⟩
    exact (List.all_eq_true.1 h) c hc
theorem plainDraw_ok {l : List Int} (hl : By l) (a s : Int) (h0 : 0 ≤ a) (h1 : a < 1152921504606846976) : ∃ v a' s', spec_l01DrawPlain.f l a s = some (v, a', s') ∧ Pl v ∧ 0 ≤ a' ∧ a' ≤ a + 4 := by
  unfold spec_l01DrawPlain.f
  obtain ⟨v, a1, s1, e1, v0, v1, g0, g1⟩ := pick_ok hl a s 129 h0 (by omega) (by omega)
  rw [e1, Option.bind_some]
  simp only
  obtain ⟨b, a2, s2, e2, g2, g3⟩ := one_ok hl a1 s1 4 g0 (by omega) (by omega)
  rw [e2, Option.bind_some]
  simp only
  obtain ⟨m, rfl⟩ := Int.eq_ofNat_of_zero_le v0
  rw [w64 _ (by omega) (by omega)]
  unfold cvtF.f
  cases b with
  | true =>
    obtain ⟨r, hr, hp⟩ := plain_ok (m := m) (by omega) (d := 1088421888) (by simp)
    have e : quoF.f ((floatOfInt .f32 ((m : Int) - 64) : Nat) : Int) 1088421888 = some r := hr
    rw [if_pos rfl, Option.bind_some, e, Option.bind_some]
    exact ⟨_, _, _, rfl, hp, g2, by omega⟩
  | false =>
    obtain ⟨r, hr, hp⟩ := plain_ok (m := m) (by omega) (d := 1098907648) (by simp)
    have e : quoF.f ((floatOfInt .f32 ((m : Int) - 64) : Nat) : Int) 1098907648 = some r := hr
    rw [if_neg (by decide), Option.bind_some, e, Option.bind_some]
    exact ⟨_, _, _, rfl, hp, g2, by omega⟩
theorem from_ok {n : Int} (h : B32 n) : spec_l01From.f n = some n := if_pos h
theorem draw_ok {l : List Int} (hl : By l) (a s : Int) (h0 : 0 ≤ a) (h1 : a < 576460752303423488) : ∃ v a' s', spec_l01DrawFloat.f l a s = some (v, a', s') ∧ B32 v ∧ 0 ≤ a' ∧ a' ≤ a + 10 := by
  unfold spec_l01DrawFloat.f
  obtain ⟨b, a1, s1, e1, g0, g1⟩ := one_ok hl a s 12 h0 (by omega) (by omega)
  rw [e1, Option.bind_some]
  simp only
  cases b with
  | false =>
    obtain ⟨v, a2, s2, e2, hp, g2, g3⟩ := plainDraw_ok hl a1 s1 g0 (by omega)
    rw [if_neg (by decide), e2, Option.bind_some]
    exact ⟨v, a2, s2, rfl, hp.1, g2, by omega⟩
  | true =>
    obtain ⟨n, a2, s2, e2, n0, n1, g2, g3⟩ := pick_ok hl a1 s1 4 g0 (by omega) (by omega)
    rw [if_pos rfl, e2, Option.bind_some]
    simp only
    by_cases c0 : n = 0
    · obtain ⟨v, a3, s3, e3, hv, g4, g5⟩ := among_ok hl a2 s2 g2 (by omega) [0, 2147483648, 2139095040, 4286578688, 2143289344, 1, 2139095039, 8388608, 8388607, 2147483649] (by decide)
      rw [if_pos c0, e3, Option.bind_some]
      simp only
      have hb : B32 v := by
        have : ∀ x ∈ ([0, 2147483648, 2139095040, 4286578688, 2143289344, 1, 2139095039, 8388608, 8388607, 2147483649] : List Int), B32 x := by unfold B32; decide
        exact this v hv
      rw [from_ok hb, Option.bind_some]
      exact ⟨_, _, _, rfl, hb, g4, by omega⟩
    · rw [if_neg c0]
      by_cases c1 : n = 1
      · obtain ⟨v, a3, s3, e3, v0, v1, g4, g5⟩ := pick_ok hl a2 s2 65536 g2 (by omega) (by omega)
        rw [if_pos c1, e3, Option.bind_some]
        simp only
        obtain ⟨u, a4, s4, e4, u0, u1, g6, g7⟩ := pick_ok hl a3 s3 65536 g4 (by omega) (by omega)
        rw [e4, Option.bind_some]
        simp only
        rw [w64 (v * 65536) (by omega) (by omega), w64 _ (by omega) (by omega)]
        have hb : B32 (v * 65536 + u) := ⟨by omega, by omega⟩
        rw [from_ok hb, Option.bind_some]
        exact ⟨_, _, _, rfl, hb, g6, by omega⟩
      · rw [if_neg c1]
        by_cases c2 : n = 2
        · obtain ⟨v, a3, s3, e3, v0, v1, g4, g5⟩ := pick_ok hl a2 s2 65536 g2 (by omega) (by omega)
          rw [if_pos c2, e3, Option.bind_some]
          simp only
          rw [w64 (v * 65536) (by omega) (by omega)]
          have hb : B32 (v * 65536) := ⟨by omega, by omega⟩
          rw [from_ok hb, Option.bind_some]
          exact ⟨_, _, _, rfl, hb, g4, by omega⟩
        · obtain ⟨v, a3, s3, e3, hp, g4, g5⟩ := plainDraw_ok hl a2 s2 g2 (by omega)
          rw [if_neg c2, e3, Option.bind_some]
          simp only
          obtain ⟨u, a4, s4, e4, hu, g6, g7⟩ := among_ok hl a3 s3 g4 (by omega) [8388608, 2130706432, 1610612736, 536870912] (by decide)
          rw [e4, Option.bind_some]
          simp only
          have hb : B32 u := by
            have : ∀ x ∈ ([8388608, 2130706432, 1610612736, 536870912] : List Int), B32 x := by unfold B32; decide
            exact this u hu
          rw [from_ok hb, Option.bind_some]
          obtain ⟨r, hr⟩ := Option.isSome_iff_exists.1 (hp.2 u hu)
          rw [hr, Option.bind_some]
          exact ⟨_, _, _, rfl, mul_b32 hr, g6, by omega⟩
theorem B10Number_ok {l : List Int} (hl : By l) : ∃ r, spec_B10Number.f l = some r ∧ B32 r := by
  unfold spec_B10Number.f spec_l00From.f
  rw [Option.bind_some]
  simp only
  obtain ⟨b, a1, s1, e1, g0, g1⟩ := one_ok hl 0 0 2 (by omega) (by omega) (by omega)
  rw [e1, Option.bind_some]
  simp only
  cases b with
  | true =>
    obtain ⟨v, a3, s3, e3, v0, v1, g4, g5⟩ := pick_ok hl a1 s1 65536 g0 (by omega) (by omega)
    rw [if_pos rfl, e3, Option.bind_some]
    simp only
    obtain ⟨u, a4, s4, e4, u0, u1, g6, g7⟩ := pick_ok hl a3 s3 65536 g4 (by omega) (by omega)
    rw [e4, Option.bind_some]
    simp only
    rw [w64 (v * 65536) (by omega) (by omega), w64 _ (by omega) (by omega)]
    have hb : B32 (v * 65536 + u) := ⟨by omega, by omega⟩
    rw [from_ok hb, Option.bind_some]
    exact ⟨_, rfl, hb⟩
  | false =>
    obtain ⟨v, a2, s2, e2, hp, g2, g3⟩ := draw_ok hl a1 s1 g0 (by omega)
    rw [if_neg (by decide), e2, Option.bind_some]
    exact ⟨_, rfl, hp⟩
theorem floats_ok {l : List Int} (hl : By l) (b : Bool) : ∀ (m k : Nat) (X : List Int) (a s : Int), m + 1 ≤ k → X.length + m ≤ 1000 → 0 ≤ a → a + 10 * m < 288230376151711744 → (∀ x ∈ X, B32 x) →
    ∃ r a' s', spec_l01DrawFloats.l0 k m X b l a s = some (r, a', s') ∧ r.length = X.length + m ∧ ∀ x ∈ r, B32 x
  | _, 0, _, _, _, hk, _, _, _, _ => by omega
  | 0, k + 1, X, a, s, _, _, _, _, hX => by
    unfold spec_l01DrawFloats.l0
    rw [if_neg (by omega)]
    exact ⟨_, _, _, rfl, rfl, hX⟩
  | m + 1, k + 1, X, a, s, hk, hl2, h0, h1, hX => by
    unfold spec_l01DrawFloats.l0
    rw [if_pos (by omega)]
    have go : ∀ (v a1 s1 : Int), B32 v → 0 ≤ a1 → a1 ≤ a + 10 → ∃ r a' s', (if X.length < 35184372088832 then (spec_l01DrawFloats.l0 k (wrap64 (((m + 1 : Nat) : Int) - 1)) (X ++ [v]) b l a1 s1) else none) = some (r, a', s') ∧ r.length = X.length + (m + 1) ∧ ∀ x ∈ r, B32 x := by
      intro v a1 s1 hv g0 g1
      rw [if_pos (by omega), w64 _ (by omega) (by omega), show ((m + 1 : Nat) : Int) - 1 = (m : Int) by omega]
      obtain ⟨r, a', s', e, hr, hx⟩ := floats_ok hl b m k (X ++ [v]) a1 s1 (by omega) (by rw [List.length_append, List.length_singleton]; omega) g0 (by omega) (fun x hx => by
        rcases List.mem_append.1 hx with h | h
        · exact hX x h
        · rw [List.mem_singleton.1 h]; exact hv)
      exact ⟨r, a', s', e, by rw [hr, List.length_append, List.length_singleton]; omega, hx⟩
    cases b with
    | true =>
      obtain ⟨v, a2, s2, e2, hp, g2, g3⟩ := draw_ok hl a s h0 (by omega)
      rw [if_pos rfl, e2, Option.bind_some]
      exact go v a2 s2 hp g2 g3
    | false =>
      obtain ⟨v, a2, s2, e2, hp, g2, g3⟩ := plainDraw_ok hl a s h0 (by omega)
      rw [if_neg (by decide), e2, Option.bind_some]
      exact go v a2 s2 hp.1 g2 (by omega)
theorem B10Numbers_ok {l : List Int} (hl : By l) (m k : Nat) (hm : m ≤ 100) (hk : m + 1 ≤ k) : ∃ r, spec_B10Numbers.f k l m = some r ∧ r.length = m ∧ ∀ x ∈ r, B32 x := by
  unfold spec_B10Numbers.f spec_l00From.f spec_l01DrawFloats.f
  rw [Option.bind_some]
  simp only
  obtain ⟨b, a1, s1, e1, g0, g1⟩ := one_ok hl 0 0 4 (by omega) (by omega) (by omega)
  rw [e1, Option.bind_some]
  simp only
  obtain ⟨r, a', s', e, hr, hx⟩ := floats_ok hl b m k [] a1 s1 hk (by simp; omega) g0 (by omega) (fun x hx => by cases hx)
  rw [e, Option.bind_some]
  exact ⟨r, rfl, by simpa using hr, hx⟩
theorem b10At_ok {l : List Int} (hl : By l) (i n : Nat) (hi : i < 100) (hn : 1 < n) (hn2 : n < 100000) : ∃ m : Nat, laws_b10At.f l i n = some (m : Int) ∧ m < n := by
  unfold laws_b10At.f
  rw [if_neg (by omega)]
  by_cases h : (i : Int) < (l.length : Int)
  · have hi2 : i < l.length := by omega
    have hm := hl _ (List.getElem_mem hi2)
    have he : rd l (i : Int) = l[i] := rd_get l i hi2
    rw [if_pos h, if_pos (by omega), if_neg (by omega), he, w64 _ (by omega) (by omega)]
    obtain ⟨t0, t1⟩ := tmod_ok (x := l[i]) (n := n) hm.1 (by omega)
    obtain ⟨m, hm⟩ := Int.eq_ofNat_of_zero_le t0
    exact ⟨m, by rw [hm], by omega⟩
  · rw [if_neg h, if_neg (by omega), w64 ((i : Int) * 37) (by omega) (by omega), w64 _ (by omega) (by omega)]
    obtain ⟨t0, t1⟩ := tmod_ok (x := (i : Int) * 37 + 11) (n := n) (by omega) (by omega)
    obtain ⟨m, hm⟩ := Int.eq_ofNat_of_zero_le t0
    exact ⟨m, by rw [hm], by omega⟩
end Go.Proofs.YtempeenjpaldaaaGreatDoor.SZ
