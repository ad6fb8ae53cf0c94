/- What the law FnExactAreBands comes to: true, whatever rows it is given. -/
import Derived.Test.YtbpjkghbkjdodaaSBnd2
namespace Go.Proofs.Ytbpjkghbkjdodaa.SBnd
open Go.RowKit Go.Proofs.YtbpjkghbkjdodaaW.PrintWords Go.Proofs.YtbpjkghbkjdodaaW.PrintLast Go.Proofs.YtbpjkghbkjdodaaW.PrintMore Fl
theorem w64 (n : Int) (h0 : -9223372036854775808 ≤ n) (h1 : n ≤ 9223372036854775807) : wrap64 n = n := by unfold wrap64; omega
def tot (rs : List (List Int)) : Nat := (rs.map List.length).sum
def finR (r : List Int) : Bool := r.all fun x => finB x.toNat
def lens (z : List (List Int)) : List Int := z.map fun r => (r.length : Int)
def bandsB (z : List (List Int)) : Bool := sizesB (lens z) && z.all finR
theorem drop_at {α : Type} (d : α) {rs : List α} {j : Nat} (hj : j < rs.length) : rs.drop j = rs.getD j d :: rs.drop (j + 1) := by
  rw [List.drop_eq_getElem_cons hj, List.getD_eq_getElem?_getD, List.getElem?_eq_getElem hj]; rfl
theorem take_at {α : Type} (d : α) {rs : List α} {j : Nat} (hj : j < rs.length) : rs.take (j + 1) = rs.take j ++ [rs.getD j d] := by
  rw [List.take_add_one, List.getElem?_eq_getElem hj, List.getD_eq_getElem?_getD, List.getElem?_eq_getElem hj]; rfl
theorem rdL (z : List (List Int)) (i : Nat) : rd_L1 z (i : Int) = z.getD i [] := by rw [rd_L1, Int.toNat_natCast]
theorem rdI (z : List Int) (i : Nat) : rd z (i : Int) = z.getD i 0 := by rw [rd, Int.toNat_natCast]
theorem tot_drop {z : List (List Int)} {i : Nat} (h : i < z.length) : tot (z.drop i) = (z.getD i []).length + tot (z.drop (i + 1)) := by
  rw [drop_at ([] : List Int) h]; simp [tot]
theorem getD_mem {z : List (List Int)} {i : Nat} (h : i < z.length) : z.getD i [] ∈ z := by
  rw [List.getD_eq_getElem?_getD, List.getElem?_eq_getElem h]; exact List.getElem_mem h
theorem le_tot {z : List (List Int)} {r : List Int} (h : r ∈ z) : r.length ≤ tot z := by
  unfold tot
  induction z with
  | nil => cases h
  | cons a z ih =>
    rw [List.map_cons, List.sum_cons]
    rcases List.mem_cons.1 h with rfl | h
    · omega
    · have := ih h; omega

/-! ### the law's size -/
theorem szS (r : List Int) (x : Int) (h0 : 0 ≤ x) (h1 : x ≤ 1048576) (hr : r.length ≤ 9223372036854775807) : laws_szFloat32S.f r x = some (if x < r.length then -1 else x - r.length) := by
  unfold laws_szFloat32S.f
  rw [w64 _ (by omega) (by omega)]
  by_cases h : x - (r.length : Int) < 0
  · rw [if_pos h, if_pos (by omega)]
  · rw [if_neg h, if_neg (by omega)]
theorem szSS (z : List (List Int)) (hz : z.length ≤ 1048576) (hr : ∀ r ∈ z, r.length ≤ 9223372036854775807) : ∀ (n i k : Nat) (x : Int), i + n = z.length → n + 1 ≤ k → 0 ≤ x → x ≤ 1048576 →
    ∃ r, laws_szFloat32SS.l0 k z x i = some r ∧ (r < 0 ∨ tot (z.drop i) ≤ 1048576)
  | n, i, 0, x, _, hk, _, _ => by omega
  | 0, i, k + 1, x, h, _, h0, h1 => by
    obtain rfl : i = z.length := by omega
    unfold laws_szFloat32SS.l0
    rw [if_neg (by omega)]
    exact ⟨x, rfl, Or.inr (by rw [List.drop_length]; simp [tot])⟩
  | n + 1, i, k + 1, x, h, hk, h0, h1 => by
    have hi : i < z.length := by omega
    unfold laws_szFloat32SS.l0
    rw [if_pos (by omega), if_pos (by omega), rdL, szS _ _ h0 h1 (hr _ (getD_mem hi)), Option.bind_some]
    by_cases hx : x < ((z.getD i []).length : Int)
    · rw [if_pos hx, if_pos (by decide)]
      exact ⟨-1, rfl, Or.inl (by decide)⟩
    · rw [if_neg hx, if_neg (by omega), w64 _ (by omega) (by omega)]
      have : ∃ r, laws_szFloat32SS.l0 k z (x - ((z.getD i []).length : Int)) ((i + 1 : Nat) : Int) = some r ∧ (r < 0 ∨ (tot (z.drop (i + 1)) : Int) ≤ x - ((z.getD i []).length : Int)) := by
        have gen : ∀ (n i k : Nat) (x : Int), i + n = z.length → n + 1 ≤ k → 0 ≤ x → x ≤ 1048576 → ∃ r, laws_szFloat32SS.l0 k z x i = some r ∧ (r < 0 ∨ (tot (z.drop i) : Int) ≤ x) := by
          intro n
          induction n with
          | zero =>
            intro i k x h hk h0 h1
            obtain ⟨k, rfl⟩ : ∃ k', k = k' + 1 := ⟨k - 1, by omega⟩
            obtain rfl : i = z.length := by omega
            unfold laws_szFloat32SS.l0
            rw [if_neg (by omega)]
            exact ⟨x, rfl, Or.inr (by rw [List.drop_length]; simpa [tot] using h0)⟩
          | succ n ih =>
            intro i k x h hk h0 h1
            obtain ⟨k, rfl⟩ : ∃ k', k = k' + 1 := ⟨k - 1, by omega⟩
            have hi : i < z.length := by omega
            unfold laws_szFloat32SS.l0
            rw [if_pos (by omega), if_pos (by omega), rdL, szS _ _ h0 h1 (hr _ (getD_mem hi)), Option.bind_some]
            by_cases hx : x < ((z.getD i []).length : Int)
            · rw [if_pos hx, if_pos (by decide)]
              exact ⟨-1, rfl, Or.inl (by decide)⟩
            · rw [if_neg hx, if_neg (by omega), w64 _ (by omega) (by omega)]
              obtain ⟨r, h2, h3⟩ := ih (i + 1) k (x - ((z.getD i []).length : Int)) (by omega) (by omega) (by omega) (by omega)
              refine ⟨r, by rw [show (i : Int) + 1 = ((i + 1 : Nat) : Int) by omega]; exact h2, h3.imp id (fun h => ?_)⟩
              have := tot_drop hi
              omega
        exact gen n (i + 1) k _ (by omega) (by omega) (by omega) (by omega)
      obtain ⟨r, h2, h3⟩ := this
      refine ⟨r, by rw [show (i : Int) + 1 = ((i + 1 : Nat) : Int) by omega]; exact h2, h3.imp id (fun h => ?_)⟩
      have := tot_drop hi
      omega

/-! ### the copies -/
theorem copy_step {α : Type} (d d' : α) {l : List α} {j : Nat} (hj : j < l.length) : (l.take j ++ List.replicate (l.length - j) d).set j (l.getD j d') = l.take (j + 1) ++ List.replicate (l.length - (j + 1)) d := by
  rw [List.set_append_right _ _ (by rw [List.length_take]; omega), List.length_take, Nat.min_eq_left (by omega), Nat.sub_self, take_at d' hj, List.append_assoc]
  obtain ⟨n, hn⟩ : ∃ n, l.length - j = n + 1 := ⟨l.length - j - 1, by omega⟩
  rw [hn, show l.length - (j + 1) = n by omega, List.replicate_succ, List.set_cons_zero]; rfl
theorem toS (r : List Int) (hr : r.length ≤ 1048576) : ∀ (n i k : Nat), i + n = r.length → n + 1 ≤ k → laws_toFloat32S.l0 k r (r.take i ++ List.replicate (r.length - i) 0) i = some r
  | _, _, 0, _, hk => by omega
  | 0, i, k + 1, h, _ => by
    obtain rfl : i = r.length := by omega
    unfold laws_toFloat32S.l0
    rw [if_neg (by omega)]
    simp
  | n + 1, i, k + 1, h, hk => by
    have hi : i < r.length := by omega
    unfold laws_toFloat32S.l0
    rw [if_pos (by omega), if_pos (by omega), if_pos (by rw [List.length_append, List.length_take, List.length_replicate]; omega), rdI, w64 _ (by omega) (by omega), Int.toNat_natCast, copy_step 0 0 hi]
    exact toS r hr n (i + 1) k (by omega) (by omega)
theorem toS_f (r : List Int) (hr : r.length ≤ 1048576) (k : Nat) (hk : r.length + 1 ≤ k) : laws_toFloat32S.f k r = some r := by
  unfold laws_toFloat32S.f
  rw [if_pos (by omega), if_pos (by omega), Int.toNat_natCast]
  exact toS r hr r.length 0 k (by omega) hk
theorem toSS (z : List (List Int)) (hz : z.length ≤ 1048576) (hr : ∀ r ∈ z, r.length ≤ 1048576) : ∀ (n i k : Nat), i + n = z.length → tot z + n + 2 ≤ k → laws_toFloat32SS.l0 k z (z.take i ++ List.replicate (z.length - i) []) i = some z
  | _, _, 0, _, hk => by omega
  | 0, i, k + 1, h, _ => by
    obtain rfl : i = z.length := by omega
    unfold laws_toFloat32SS.l0
    rw [if_neg (by omega)]
    simp
  | n + 1, i, k + 1, h, hk => by
    have hi : i < z.length := by omega
    have hm := getD_mem hi
    have hl := le_tot hm
    unfold laws_toFloat32SS.l0
    rw [if_pos (by omega), if_pos (by omega), rdL, toS_f _ (hr _ hm) k (by omega), Option.bind_some, if_pos (by rw [List.length_append, List.length_take, List.length_replicate]; omega), w64 _ (by omega) (by omega), Int.toNat_natCast, copy_step [] [] hi]
    exact toSS z hz hr n (i + 1) k (by omega) (by omega)
theorem toSS_f (z : List (List Int)) (hz : z.length ≤ 1048576) (hr : ∀ r ∈ z, r.length ≤ 1048576) (k : Nat) (hk : tot z + z.length + 2 ≤ k) : laws_toFloat32SS.f k z = some z := by
  unfold laws_toFloat32SS.f
  rw [if_pos (by omega), if_pos (by omega), Int.toNat_natCast]
  exact toSS z hz hr z.length 0 k (by omega) hk

/-! ### the reference -/
theorem specFin (r : List Int) (hr : r.length ≤ 1048576) : ∀ (n i k : Nat), i + n = r.length → n + 1 ≤ k → spec_l02Finite.l0 k r i = some (finR (r.drop i))
  | _, _, 0, _, hk => by omega
  | 0, i, k + 1, h, _ => by
    obtain rfl : i = r.length := by omega
    unfold spec_l02Finite.l0
    rw [if_neg (by omega), List.drop_length]; rfl
  | n + 1, i, k + 1, h, hk => by
    have hi : i < r.length := by omega
    unfold spec_l02Finite.l0 spec_l01Finite.f
    rw [if_pos (by omega), if_pos (by omega), Option.bind_some, rdI, w64 _ (by omega) (by omega), drop_at (0 : Int) hi]
    have ih := specFin r hr n (i + 1) k (by omega) (by omega)
    rw [show (i : Int) + 1 = ((i + 1 : Nat) : Int) by omega, ih]
    unfold finR
    rw [List.all_cons]
    cases finB (r.getD i 0).toNat <;> rfl
theorem lens_take {z : List (List Int)} {i : Nat} (hi : i < z.length) : lens (z.take i) ++ [((z.getD i []).length : Int)] = lens (z.take (i + 1)) := by
  rw [take_at ([] : List Int) hi]; simp [lens]
theorem lens_length (z : List (List Int)) : (lens z).length = z.length := List.length_map ..
theorem lens_ok {z : List (List Int)} (hr : ∀ r ∈ z, r.length ≤ 1048576) : okSizes (lens z) = true := by
  unfold okSizes lens
  rw [List.all_map, List.all_eq_true]
  intro r h
  have := hr r h
  exact decide_eq_true (show 0 ≤ (r.length : Int) ∧ (r.length : Int) ≤ 1048576 from ⟨by omega, by omega⟩)
theorem sizesB_long {l : List Int} (h : 7 < l.length) : sizesB l = false := by
  unfold sizesB; rw [decide_eq_false (by omega)]; rfl
theorem specBands (z : List (List Int)) (hz : z.length ≤ 7) (hr : ∀ r ∈ z, r.length ≤ 1048576) : ∀ (n i k : Nat), i + n = z.length → tot z + n + 2 ≤ k → spec_l02Bands.l0 k z (lens (z.take i)) i = some (sizesB (lens z) && (z.drop i).all finR)
  | _, _, 0, _, hk => by omega
  | 0, i, k + 1, h, _ => by
    obtain rfl : i = z.length := by omega
    unfold spec_l02Bands.l0 spec_l02Sizes.f
    rw [if_neg (by omega), List.take_length, if_pos (lens_ok hr), List.drop_length, List.all_nil, Bool.and_true]; rfl
  | n + 1, i, k + 1, h, hk => by
    have hi : i < z.length := by omega
    have hm := getD_mem hi
    have hl := le_tot hm
    unfold spec_l02Bands.l0
    rw [if_pos (by omega), if_pos (by omega), if_pos (by rw [lens_length, List.length_take]; omega), if_neg (by omega), rdL, lens_take hi, w64 _ (by omega) (by omega)]
    unfold spec_l02Finite.f
    have hf := specFin (z.getD i []) (hr _ hm) _ 0 k (Nat.zero_add _) (by omega)
    rw [show ((0 : Nat) : Int) = 0 from rfl, List.drop_zero] at hf
    rw [hf, Option.bind_some, drop_at ([] : List Int) hi, List.all_cons]
    have ih := specBands z hz hr n (i + 1) k (by omega) (by omega)
    rw [show (i : Int) + 1 = ((i + 1 : Nat) : Int) by omega, ih]
    cases finR (z.getD i []) with
    | true => rfl
    | false => rw [Bool.false_and, Bool.and_false]; rfl
theorem spec_gives (z : List (List Int)) (hz : z.length ≤ 1048576) (hr : ∀ r ∈ z, r.length ≤ 1048576) (k : Nat) (hk : tot z + z.length + 10 ≤ k) : spec_AreBands.f k z = some (bandsB z) := by
  unfold spec_AreBands.f spec_l02Bands.f bandsB
  by_cases h7 : z.length ≤ 7
  · have := specBands z h7 hr z.length 0 k (by omega) (by omega)
    rw [show ((0 : Nat) : Int) = 0 from rfl, List.take_zero, List.drop_zero] at this
    rw [show (lens [] : List Int) = [] from rfl] at this
    rw [this, Option.bind_some]
  · obtain ⟨k, rfl⟩ : ∃ k', k = k' + 1 := ⟨k - 1, by omega⟩
    unfold spec_l02Bands.l0
    rw [if_pos (by omega), if_pos (by omega), if_pos (by simp), if_pos (by omega), Option.bind_some, sizesB_long (by rw [lens_length]; omega), Bool.false_and]

/-! ### the program -/
theorem implSizes (z : List (List Int)) (hz : z.length ≤ 1048576) : ∀ (n i k : Nat), i + n = z.length → n + 1 ≤ k → impl_sizesOf_float32.l0 k (lens (z.take i)) z (z.length : Int) i = some (lens z)
  | _, _, 0, _, hk => by omega
  | 0, i, k + 1, h, _ => by
    obtain rfl : i = z.length := by omega
    unfold impl_sizesOf_float32.l0
    rw [if_neg (by omega), List.take_length]
  | n + 1, i, k + 1, h, hk => by
    have hi : i < z.length := by omega
    unfold impl_sizesOf_float32.l0
    rw [if_pos (by omega), if_pos (by omega), if_pos (by omega), if_pos (by rw [lens_length, List.length_take]; omega), rdL, lens_take hi, w64 _ (by omega) (by omega)]
    exact implSizes z hz n (i + 1) k (by omega) (by omega)
theorem implRow (z : List (List Int)) (N : Int) (i : Nat) (hi : i ≤ 1048576) (r : List Int) (hr : r.length ≤ 1048576) : ∀ (n j k : Nat), j + n = r.length → impl_areFinite.l1 (k + n + 1) z N i r (r.length : Int) j = (if finR (r.drop j) = true then impl_areFinite.l0 k z N ((i + 1 : Nat) : Int) else some false)
  | 0, j, k, h => by
    obtain rfl : j = r.length := by omega
    rw [show k + 0 + 1 = k + 1 from rfl]
    conv => lhs; unfold impl_areFinite.l1
    rw [if_neg (by omega), List.drop_length, w64 _ (by omega) (by omega)]; rfl
  | n + 1, j, k, h => by
    have hj : j < r.length := by omega
    rw [show k + (n + 1) + 1 = (k + n + 1) + 1 by omega]
    conv => lhs; unfold impl_areFinite.l1
    unfold impl_IsFinite.f
    rw [if_pos (by omega), if_pos (by omega), if_pos (by omega), Option.bind_some, rdI, w64 _ (by omega) (by omega), drop_at (0 : Int) hj]
    have ih := implRow z N i hi r hr n (j + 1) k (by omega)
    rw [show (j : Int) + 1 = ((j + 1 : Nat) : Int) by omega, ih]
    unfold finR
    rw [List.all_cons]
    cases finB (r.getD j 0).toNat <;> rfl
theorem implFin (z : List (List Int)) (hz : z.length ≤ 1048576) (hr : ∀ r ∈ z, r.length ≤ 1048576) : ∀ (n i k : Nat), i + n = z.length → tot (z.drop i) + 2 * n + 1 ≤ k → impl_areFinite.l0 k z (z.length : Int) i = some ((z.drop i).all finR)
  | _, _, 0, _, hk => by omega
  | 0, i, k + 1, h, _ => by
    obtain rfl : i = z.length := by omega
    unfold impl_areFinite.l0
    rw [if_neg (by omega), List.drop_length]; rfl
  | n + 1, i, k + 1, h, hk => by
    have hi : i < z.length := by omega
    have hm := getD_mem hi
    have htd := tot_drop hi
    obtain ⟨k2, rfl⟩ : ∃ k2, k = k2 + (z.getD i []).length + 1 := ⟨k - (z.getD i []).length - 1, by omega⟩
    unfold impl_areFinite.l0
    rw [if_pos (by omega), if_pos (by omega), if_pos (by omega), rdL]
    have h1 := implRow z (z.length : Int) i (by omega) (z.getD i []) (hr _ hm) (z.getD i []).length 0 k2 (Nat.zero_add _)
    rw [show ((0 : Nat) : Int) = 0 from rfl, List.drop_zero] at h1
    rw [h1, drop_at ([] : List Int) hi, List.all_cons, implFin z hz hr n (i + 1) k2 (by omega) (by omega)]
    cases finR (z.getD i []) <;> rfl
theorem impl_gives (z : List (List Int)) (hz : z.length ≤ 1048576) (hr : ∀ r ∈ z, r.length ≤ 1048576) (k : Nat) (hk : tot z + 2 * z.length + 10 ≤ k) : impl_AreBands.f k z = some (bandsB z) := by
  unfold impl_AreBands.f impl_sizesOf_float32.f impl_areSizes.f impl_areFinite.f bandsB
  have h1 := implSizes z hz z.length 0 k (by omega) (by omega)
  rw [show ((0 : Nat) : Int) = 0 from rfl, List.take_zero, show (lens [] : List Int) = [] from rfl] at h1
  have h2 := implFin z hz hr z.length 0 k (by omega) (by rw [List.drop_zero]; omega)
  rw [show ((0 : Nat) : Int) = 0 from rfl, List.drop_zero] at h2
  rw [h1, Option.bind_some, if_pos (lens_ok hr), Option.bind_some, h2, Option.bind_some]
  cases sizesB (lens z) <;> rfl

theorem eqSS_self (x : List (List Int)) (hx : x.length ≤ 1048576) : ∀ (n i k : Nat), i + n = x.length → n + 1 ≤ k → laws_eqFloat32SS.l0 k x x i = some true
  | _, _, 0, _, hk => by omega
  | 0, i, k + 1, h, _ => by
    unfold laws_eqFloat32SS.l0
    rw [if_neg (by omega)]
  | n + 1, i, k + 1, h, hk => by
    unfold laws_eqFloat32SS.l0 laws_eqFloat32S.f
    rw [if_pos (by omega), if_pos (by omega), if_pos (by omega), if_pos rfl, Option.bind_some, if_pos rfl, w64 _ (by omega) (by omega)]
    have := eqSS_self x hx n (i + 1) k (by omega) (by omega)
    rw [show ((i + 1 : Nat) : Int) = (i : Int) + 1 by omega] at this
    exact this

theorem law (z : List (List Int)) (hz : z.length ≤ 9223372036854775807) (hr : ∀ r ∈ z, r.length ≤ 9223372036854775807) : ∃ k, laws_FnExactAreBands.f k z = some true := by
  refine ⟨tot z + 2 * z.length + 100, ?_⟩
  generalize hK : tot z + 2 * z.length + 100 = K
  unfold laws_FnExactAreBands.f
  have hsz : ∃ t, laws_szFloat32SS.f K z 1048576 = some t ∧ (t < 0 ∨ (z.length ≤ 1048576 ∧ tot z ≤ 1048576)) := by
    unfold laws_szFloat32SS.f
    rw [w64 _ (by omega) (by omega)]
    by_cases h : 1048576 - (z.length : Int) < 0
    · rw [if_pos h]; exact ⟨-1, rfl, Or.inl (by decide)⟩
    · rw [if_neg h]
      obtain ⟨r, h1, h2⟩ := szSS z (by omega) hr z.length 0 K (1048576 - (z.length : Int)) (by omega) (by omega) (by omega) (by omega)
      rw [show ((0 : Nat) : Int) = 0 from rfl] at h1
      rw [List.drop_zero] at h2
      exact ⟨r, h1, h2.imp id (fun h => ⟨by omega, h⟩)⟩
  obtain ⟨t, h1, h2⟩ := hsz
  rw [h1, Option.bind_some]
  by_cases ht : t < 0
  · rw [if_pos ht]
  · obtain ⟨hz2, htot⟩ := h2.resolve_left ht
    have hr2 : ∀ r ∈ z, r.length ≤ 1048576 := fun r h => Nat.le_trans (le_tot h) htot
    rw [if_neg ht, toSS_f z hz2 hr2 K (by omega), Option.bind_some, spec_gives z hz2 hr2 K (by omega), Option.bind_some, Option.bind_some, impl_gives z hz2 hr2 K (by omega), Option.bind_some, if_neg (by cases bandsB z <;> decide), Option.bind_some]
    unfold laws_eqFloat32SS.f
    have he := eqSS_self z hz2 z.length 0 K (by omega) (by omega)
    rw [show ((0 : Nat) : Int) = 0 from rfl] at he
    rw [if_pos rfl, he, Option.bind_some, if_pos rfl]
end Go.Proofs.Ytbpjkghbkjdodaa.SBnd
