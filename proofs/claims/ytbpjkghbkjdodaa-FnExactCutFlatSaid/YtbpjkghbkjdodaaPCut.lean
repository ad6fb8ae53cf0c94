/- What CutFlat comes to, in both: one list of lists. -/
import Derived.Test.YtbpjkghbkjdodaaSCut4
namespace Go.Proofs.Ytbpjkghbkjdodaa.SBnd
open Go.RowKit Go.Proofs.YtbpjkghbkjdodaaW.PrintWords Go.Proofs.YtbpjkghbkjdodaaW.PrintLast Go.Proofs.YtbpjkghbkjdodaaW.PrintMore Fl
theorem w64 (n : Int) (h0 : -9000000000000000000 ≤ n) (h1 : n ≤ 9000000000000000000) : wrap64 n = n := by unfold wrap64; omega
/-- the bands' sizes -/
def bands : Nat → Nat → List Nat
  | 0, n => [n]
  | L + 1, n => if 2 ≤ n then n / 2 :: bands L ((n + 1) / 2) else [n]
abbrev ints (l : List Nat) : List Int := l.map Int.ofNat
theorem bands_sum : ∀ L n, (bands L n).sum = n
  | 0, n => by simp [bands]
  | L + 1, n => by
    unfold bands; split
    · rw [List.sum_cons, bands_sum]; omega
    · simp
theorem bands_len : ∀ L n, (bands L n).length ≤ L + 1
  | 0, n => by simp [bands]
  | L + 1, n => by
    unfold bands; split
    · rw [List.length_cons]; have := bands_len L ((n + 1) / 2); omega
    · simp
theorem spec_sizes : ∀ (L n : Nat) (x : Int) (out : List Int) (k : Nat), n ≤ 1000 → 0 ≤ x → x + L ≤ 1000 → out.length + L ≤ 1000 → L + 1 ≤ k → spec_l02BandSizes.l0 k n (x + L) out x = some (out ++ ints (bands L n))
  | L, n, x, out, 0, _, _, _, _, hk => by omega
  | 0, n, x, out, k + 1, hn, h0, h1, h2, hk => by
    unfold spec_l02BandSizes.l0
    rw [if_neg (by omega), if_pos (by omega)]; rfl
  | L + 1, n, x, out, k + 1, hn, h0, h1, h2, hk => by
    unfold spec_l02BandSizes.l0
    rw [if_pos (by omega)]
    unfold bands
    by_cases h : 2 ≤ n
    · rw [if_pos (show (n : Int) ≥ 2 by omega), if_pos (by omega), if_pos h, w64 (x + 1) (by omega) (by omega), w64 ((n : Int) + 1) (by omega) (by omega)]
      rw [Int.tdiv_eq_ediv_of_nonneg (by omega), Int.tdiv_eq_ediv_of_nonneg (by omega), w64 _ (by omega) (by omega), w64 _ (by omega) (by omega)]
      have := spec_sizes L ((n + 1) / 2) (x + 1) (out ++ [((n / 2 : Nat) : Int)]) k (by omega) (by omega) (by omega) (by rw [List.length_append, List.length_singleton]; omega) (by omega)
      rw [show x + 1 + (L : Int) = x + ((L + 1 : Nat) : Int) by omega, List.append_assoc] at this
      exact this
    · rw [if_neg (show ¬ (n : Int) ≥ 2 by omega), if_pos (by omega), if_neg h]; rfl
theorem impl_sizes : ∀ (L n : Nat) (x : Int) (out : List Int) (k : Nat), n ≤ 1000 → 0 ≤ x → x + L ≤ 1000 → out.length + L ≤ 1000 → L + 1 ≤ k → impl_BandSizes.l0 k n (x + L) out x = some (out ++ ints (bands L n), true)
  | L, n, x, out, 0, _, _, _, _, hk => by omega
  | 0, n, x, out, k + 1, hn, h0, h1, h2, hk => by
    unfold impl_BandSizes.l0
    rw [if_neg (by omega), if_pos (by omega)]; rfl
  | L + 1, n, x, out, k + 1, hn, h0, h1, h2, hk => by
    unfold impl_BandSizes.l0
    rw [if_pos (by omega)]
    unfold bands
    by_cases h : 2 ≤ n
    · rw [if_pos (show (n : Int) > 1 by omega), if_pos (by omega), if_pos h, w64 (x + 1) (by omega) (by omega)]
      rw [Int.tdiv_eq_ediv_of_nonneg (by omega), w64 ((n : Int) / 2) (by omega) (by omega), w64 _ (by omega) (by omega)]
      have := impl_sizes L ((n + 1) / 2) (x + 1) (out ++ [((n / 2 : Nat) : Int)]) k (by omega) (by omega) (by omega) (by rw [List.length_append, List.length_singleton]; omega) (by omega)
      rw [show x + 1 + (L : Int) = x + ((L + 1 : Nat) : Int) by omega, List.append_assoc] at this
      rw [show (n : Int) - (n : Int) / 2 = (((n + 1) / 2 : Nat) : Int) by omega]
      exact this
    · rw [if_neg (show ¬ (n : Int) > 1 by omega), if_pos (by omega), if_neg h]; rfl

/-- the rows -/
def cut (z : List Int) : List Nat → List (List Int)
  | [] => []
  | s :: ss => (z.take (ss.sum + s)).drop ss.sum :: cut z ss
theorem cut_length (z : List Int) : ∀ ss, (cut z ss).length = ss.length
  | [] => rfl
  | s :: ss => by simp [cut, cut_length]
theorem rd_ints (ss : List Nat) (j : Nat) : rd (ints ss) (j : Int) = ((ss.getD j 0 : Nat) : Int) := by
  unfold rd
  rw [Int.toNat_natCast, List.getD_eq_getElem?_getD, List.getD_eq_getElem?_getD, List.getElem?_map]
  cases ss[j]? <;> rfl
theorem sum_drop {ss : List Nat} {j : Nat} (hj : j < ss.length) : (ss.drop j).sum = ss.getD j 0 + (ss.drop (j + 1)).sum := by
  rw [List.drop_eq_getElem_cons hj, List.sum_cons, List.getD_eq_getElem?_getD, List.getElem?_eq_getElem hj]; rfl
theorem cut_drop {z : List Int} {ss : List Nat} {j : Nat} (hj : j < ss.length) : cut z (ss.drop j) = (z.take ((ss.drop (j + 1)).sum + ss.getD j 0)).drop (ss.drop (j + 1)).sum :: cut z (ss.drop (j + 1)) := by
  rw [List.drop_eq_getElem_cons hj, List.getD_eq_getElem?_getD, List.getElem?_eq_getElem hj]; rfl
theorem sum_drop_le (ss : List Nat) (j : Nat) : (ss.drop j).sum ≤ ss.sum := by
  have := congrArg List.sum (List.take_append_drop j ss)
  rw [List.sum_append] at this; omega

theorem cut_inner (z : List Int) (ss : List Nat) (out : List (List Int)) (i : Nat) (hs : ss.sum ≤ 1000) (hl : ss.length ≤ 1000) : ∀ (n j acc k : Nat), j + n = ss.length → acc + (ss.drop j).sum ≤ 1000 →
    spec_l02Cut.l1 (k + n + 1) z (ints ss) out i acc j = spec_l02Cut.l1 (k + 1) z (ints ss) out i ((acc + (ss.drop j).sum : Nat) : Int) (ss.length : Int)
  | 0, j, acc, k, h, _ => by
    obtain rfl : j = ss.length := by omega
    simp
  | n + 1, j, acc, k, h, hb => by
    have hj : j < ss.length := by omega
    have hsd := sum_drop hj
    rw [show k + (n + 1) + 1 = (k + n + 1) + 1 by omega]
    conv => lhs; unfold spec_l02Cut.l1
    rw [if_pos (by rw [List.length_map]; omega), if_pos (by omega), rd_ints, w64 _ (by omega) (by omega), w64 _ (by omega) (by omega)]
    have := cut_inner z ss out i hs hl n (j + 1) (acc + ss.getD j 0) k (by omega) (by omega)
    rw [show ((acc + ss.getD j 0 : Nat) : Int) = (acc : Int) + ((ss.getD j 0 : Nat) : Int) by omega, show ((j + 1 : Nat) : Int) = (j : Int) + 1 by omega] at this
    rw [this]
    congr 2
    omega
theorem spec_cut (z : List Int) (ss : List Nat) (hs : ss.sum ≤ 1000) (hz : ss.sum ≤ z.length) (hzl : z.length ≤ 1000) (hl : ss.length ≤ 100) : ∀ (n i : Nat) (out : List (List Int)) (k : Nat), i + n = ss.length → out.length + n ≤ 1000 → 200 * n + 1 ≤ k →
    spec_l02Cut.l0 k z (ints ss) out i = some (out ++ cut z (ss.drop i))
  | _, _, _, 0, _, _, hk => by omega
  | 0, i, out, k + 1, h, _, _ => by
    obtain rfl : i = ss.length := by omega
    unfold spec_l02Cut.l0
    rw [if_neg (by rw [List.length_map]; omega), List.drop_length]
    simp [cut]
  | n + 1, i, out, k + 1, h, ho, hk => by
    have hi : i < ss.length := by omega
    have hsd := sum_drop hi
    have hle := sum_drop_le ss i
    unfold spec_l02Cut.l0
    rw [if_pos (by rw [List.length_map]; omega), w64 _ (by omega) (by omega)]
    obtain ⟨k2, rfl⟩ : ∃ k2, k = (k2 + (ss.length - (i + 1)) + 1) := ⟨k - (ss.length - (i + 1)) - 1, by omega⟩
    have h1 := cut_inner z ss out i hs (by omega) (ss.length - (i + 1)) (i + 1) 0 k2 (by omega) (by omega)
    rw [show ((i + 1 : Nat) : Int) = (i : Int) + 1 by omega, show ((0 : Nat) : Int) = 0 from rfl, Nat.zero_add] at h1
    rw [h1]
    unfold spec_l02Cut.l1
    rw [if_neg (by rw [List.length_map]; omega), Option.bind_some, if_pos (by omega), if_pos (by rw [List.length_map]; omega), if_pos (by omega), rd_ints, w64 _ (by omega) (by omega), if_pos (by omega), if_pos (by omega),
      if_pos (by rw [List.length_drop, List.length_take]; simp only [List.length_nil]; omega), if_pos (by omega)]
    have h2 := spec_cut z ss hs hz hzl hl n (i + 1) (out ++ [(z.take ((ss.drop (i + 1)).sum + ss.getD i 0)).drop (ss.drop (i + 1)).sum]) k2 (by omega) (by rw [List.length_append, List.length_singleton]; omega) (by omega)
    rw [List.append_assoc] at h2
    rw [cut_drop hi, w64 _ (by omega) (by omega)]
    rw [show ((i + 1 : Nat) : Int) = (i : Int) + 1 by omega] at h2
    simp only [List.nil_append, List.singleton_append] at h2 ⊢
    rw [show (((ss.drop (i + 1)).sum : Nat) : Int) + ((ss.getD i 0 : Nat) : Int) = (((ss.drop (i + 1)).sum + ss.getD i 0 : Nat) : Int) by omega, Int.toNat_natCast, Int.toNat_natCast]
    exact h2
theorem impl_cut (z : List Int) (ss : List Nat) (hz : ss.sum ≤ z.length) (hzl : z.length ≤ 1000) (hl : ss.length ≤ 100) : ∀ (i k : Nat), i ≤ ss.length → i + 1 ≤ k →
    impl_CutFlat.l0 k z (ints ss) (List.replicate i [] ++ cut z (ss.drop i)) (((ss.drop i).sum : Nat) : Int) ((i : Int) - 1) = some (cut z ss, true)
  | _, 0, _, hk => by omega
  | 0, k + 1, _, _ => by
    unfold impl_CutFlat.l0
    rw [if_neg (by omega)]
    simp
  | i + 1, k + 1, hi, hk => by
    have hsd := sum_drop (j := i) (ss := ss) (by omega)
    have hle := sum_drop_le ss i
    have hsz : (List.replicate (i + 1) ([] : List Int) ++ cut z (ss.drop (i + 1))).length = ss.length := by rw [List.length_append, List.length_replicate, cut_length, List.length_drop]; omega
    unfold impl_CutFlat.l0
    rw [show ((i + 1 : Nat) : Int) - 1 = (i : Int) by omega, if_pos (by omega), if_pos (by omega), if_pos (by rw [List.length_map]; omega), if_pos (by omega), rd_ints, w64 _ (by omega) (by omega), if_pos (by omega), if_pos (by omega)]
    have hcp : ∀ l : List Int, l.length ≤ 1000 → impl_copyOf.f l = some l := by
      intro l h
      unfold impl_copyOf.f
      rw [Option.bind_some, if_pos (by simp only [List.length_nil]; omega), List.nil_append]
    rw [hcp _ (by rw [List.length_drop, List.length_take]; omega), Option.bind_some, if_pos (by rw [hsz]; omega), w64 _ (by omega) (by omega)]
    have h2 := impl_cut z ss hz hzl hl i k (by omega) (by omega)
    rw [cut_drop (j := i) (by omega), hsd] at h2
    rw [show (((ss.drop (i + 1)).sum : Nat) : Int) + ((ss.getD i 0 : Nat) : Int) = (((ss.drop (i + 1)).sum + ss.getD i 0 : Nat) : Int) by omega, Int.toNat_natCast, Int.toNat_natCast, Int.toNat_natCast]
    rw [show ss.getD i 0 + (ss.drop (i + 1)).sum = (ss.drop (i + 1)).sum + ss.getD i 0 by omega] at h2
    rw [show (List.replicate (i + 1) ([] : List Int) ++ cut z (ss.drop (i + 1))).set i ((z.take ((ss.drop (i + 1)).sum + ss.getD i 0)).drop (ss.drop (i + 1)).sum) = List.replicate i [] ++ ((z.take ((ss.drop (i + 1)).sum + ss.getD i 0)).drop (ss.drop (i + 1)).sum :: cut z (ss.drop (i + 1))) from ?_]
    · exact h2
    · rw [List.replicate_succ', List.append_assoc, List.set_append_right _ _ (by simp), List.length_replicate, Nat.sub_self]; rfl

theorem spec_finite (z : List Int) (hz : z.length ≤ 1000) : ∀ (n i k : Nat), i + n = z.length → n + 1 ≤ k → (∀ j, j < i → finB (rd z j).toNat = true) → spec_l02Finite.l0 k z i = some (finL (z.map Int.toNat))
  | _, _, 0, _, hk, _ => by omega
  | 0, i, k + 1, h, _, hp => by
    unfold spec_l02Finite.l0
    rw [if_neg (by omega)]
    rw [finL_yes]
    intro j hj
    rw [List.length_map] at hj
    have := hp j (by omega)
    unfold rd at this
    rw [Int.toNat_natCast] at this
    rw [List.getD_eq_getElem?_getD, List.getElem?_map, List.getElem?_eq_getElem hj]
    rw [List.getD_eq_getElem?_getD, List.getElem?_eq_getElem hj] at this
    exact this
  | n + 1, i, k + 1, h, hk, hp => by
    unfold spec_l02Finite.l0
    rw [if_pos (by omega), if_pos (by omega)]
    unfold spec_l01Finite.f
    rw [Option.bind_some]
    by_cases hf : finB (rd z i).toNat = true
    · first | rw [if_pos hf] | rw [if_neg (by simp [hf])]
      rw [w64 _ (by omega) (by omega)]
      have := spec_finite z hz n (i + 1) k (by omega) (by omega) (fun j hj => by
        by_cases hji : j = i
        · subst hji; exact hf
        · exact hp j (by omega))
      rw [show ((i + 1 : Nat) : Int) = (i : Int) + 1 by omega] at this
      exact this
    · first | rw [if_neg hf] | rw [if_pos (by simpa using hf)]
      rw [finL_no (j := i) (by rw [List.length_map]; omega)]
      rw [Bool.not_eq_true] at hf
      unfold rd at hf
      rw [Int.toNat_natCast, List.getD_eq_getElem?_getD, List.getElem?_eq_getElem (by omega)] at hf
      rw [List.getD_eq_getElem?_getD, List.getElem?_map, List.getElem?_eq_getElem (by omega)]
      exact hf

/-- what both give -/
def cutB (z : List Int) (lev : Int) : Bool := isListB (z.map Int.toNat) && decide (1 ≤ lev ∧ lev ≤ 6)
def cutR (z : List Int) (lev : Int) : List (List Int) := if cutB z lev = true then cut z (bands lev.toNat z.length) else []
theorem spec_is (z : List Int) : spec_l02Is.f 2000 z = some (isListB (z.map Int.toNat)) := by
  unfold spec_l02Is.f isListB
  rw [List.length_map]
  by_cases h1 : 1 ≤ z.length
  · rw [if_pos (by omega)]
    by_cases h2 : z.length ≤ 128
    · rw [if_pos (by omega)]
      unfold spec_l02Finite.f
      have := spec_finite z (by omega) z.length 0 2000 (by omega) (by omega) (fun j hj => by omega)
      rw [show ((0 : Nat) : Int) = 0 from rfl] at this
      rw [this, Option.bind_some, decide_eq_true ⟨h1, h2⟩, Bool.true_and]
    · rw [if_neg (by omega), decide_eq_false (by omega), Bool.false_and]
  · rw [if_neg (by omega), decide_eq_false (by omega), Bool.false_and]
theorem spec_in (a b c : Int) : spec_l00In.f a b c = some (decide (b ≤ a ∧ a ≤ c)) := by
  unfold spec_l00In.f
  by_cases h : a ≥ b
  · rw [if_pos h]; congr 1; exact decide_eq_decide.2 ⟨fun g => ⟨h, g⟩, fun g => g.2⟩
  · rw [if_neg h, decide_eq_false (by omega)]
theorem impl_in (a b c : Int) : impl_within.f a b c = some (decide (b ≤ a ∧ a ≤ c)) := by
  unfold impl_within.f
  by_cases h : a ≥ b
  · rw [if_pos h]; congr 1; exact decide_eq_decide.2 ⟨fun g => ⟨h, g⟩, fun g => g.2⟩
  · rw [if_neg h, decide_eq_false (by omega)]
theorem isListB_len {l : List Nat} (h : isListB l = true) : 1 ≤ l.length ∧ l.length ≤ 128 := by
  unfold isListB at h
  rw [Bool.and_eq_true, decide_eq_true_eq] at h
  exact h.1
theorem spec_gives (z : List Int) (lev : Int) : spec_CutFlat.f 2000 z lev = some (cutR z lev, cutB z lev) := by
  unfold spec_CutFlat.f
  rw [spec_is, Option.bind_some]
  unfold cutR cutB
  cases hB : isListB (z.map Int.toNat) with
  | false => rfl
  | true =>
    rw [if_pos rfl]
    unfold spec_l02Levels.f
    rw [spec_in, Option.bind_some, Option.bind_some]
    by_cases hL : 1 ≤ lev ∧ lev ≤ 6
    · have hlen := isListB_len hB
      rw [List.length_map] at hlen
      rw [decide_eq_true hL, if_pos rfl]
      unfold spec_l02Cut.f spec_l02BandSizes.f
      have h1 := spec_sizes lev.toNat z.length 0 [] 2000 (by omega) (by omega) (by omega) (by simp only [List.length_nil]; omega) (by omega)
      rw [show (0 : Int) + ((lev.toNat : Nat) : Int) = lev by omega] at h1
      have hbl := bands_len lev.toNat z.length
      have h2 := spec_cut z (bands lev.toNat z.length) (by rw [bands_sum]; omega) (by rw [bands_sum]; omega) (by omega) (by omega) _ 0 [] 2000 (Nat.zero_add _) (by simp only [List.length_nil]; omega) (by omega)
      rw [show ((0 : Nat) : Int) = 0 from rfl] at h2
      rw [h1, Option.bind_some, List.nil_append, h2]
      rfl
    · rw [decide_eq_false hL]; rfl
theorem bj_no' (k : Nat) (n lev : Int) : impl_BandSizes.j0 (k + 1) n lev true = some ([], false) := by simp only [impl_BandSizes.j0, if_true]
theorem bj_no (n lev : Int) : impl_BandSizes.j0 2000 n lev true = some ([], false) := bj_no' 1999 n lev
theorem bj_yes' (k : Nat) (n lev : Int) : impl_BandSizes.j0 (k + 1) n lev false = impl_BandSizes.l0 k n lev [] 0 := by simp only [impl_BandSizes.j0, Bool.false_eq_true, if_false]
theorem bj_yes (n lev : Int) : impl_BandSizes.j0 2000 n lev false = impl_BandSizes.l0 1999 n lev [] 0 := bj_yes' 1999 n lev
theorem cj_no' (k : Nat) (z s : List Int) : impl_CutFlat.j0 (k + 1) z s true = some ([], false) := by simp only [impl_CutFlat.j0, if_true]
theorem cj_no (z s : List Int) : impl_CutFlat.j0 2000 z s true = some ([], false) := cj_no' 1999 z s
theorem cj_yes' (k : Nat) (z s : List Int) (hs : s.length ≤ 1000) : impl_CutFlat.j0 (k + 1) z s false = impl_CutFlat.l0 k z s (List.replicate s.length []) 0 ((s.length : Int) - 1) := by
  simp only [impl_CutFlat.j0, Bool.false_eq_true, if_false]
  rw [if_pos (by omega), if_pos (by omega), w64 _ (by omega) (by omega), Int.toNat_natCast]
theorem cj_yes (z s : List Int) (hs : s.length ≤ 1000) : impl_CutFlat.j0 2000 z s false = impl_CutFlat.l0 1999 z s (List.replicate s.length []) 0 ((s.length : Int) - 1) := cj_yes' 1999 z s hs
theorem impl_gives (z : List Int) (lev : Int) (hz : z.length ≤ 1048576) : impl_CutFlat.f 2000 z lev = some (cutR z lev, cutB z lev) := by
  unfold impl_CutFlat.f impl_BandSizes.f
  rw [impl_in, Option.bind_some]
  unfold cutR cutB
  by_cases hlen : 1 ≤ z.length ∧ z.length ≤ 128
  · rw [decide_eq_true (by omega), if_pos rfl, impl_in, Option.bind_some]
    by_cases hL : 1 ≤ lev ∧ lev ≤ 6
    · have h1 := impl_sizes lev.toNat z.length 0 [] 1999 (by omega) (by omega) (by omega) (by simp only [List.length_nil]; omega) (by omega)
      rw [show (0 : Int) + ((lev.toNat : Nat) : Int) = lev by omega] at h1
      have hbl := bands_len lev.toNat z.length
      rw [decide_eq_true hL, Bool.not_true]
      rw [bj_yes, h1, Option.bind_some, List.nil_append, if_pos rfl]
      unfold impl_IsList.f
      rw [Option.bind_some]
      cases hB : isListB (z.map Int.toNat) with
      | false =>
        rw [Bool.not_false, cj_no]
        rfl
      | true =>
        rw [Bool.not_true, cj_yes _ _ (by rw [List.length_map]; omega), List.length_map]
        have h2 := impl_cut z (bands lev.toNat z.length) (by rw [bands_sum]; omega) (by omega) (by omega) _ 1999 (Nat.le_refl _) (by omega)
        rw [List.drop_length] at h2
        simp only [cut, List.append_nil, List.sum_nil] at h2
        rw [show ((0 : Nat) : Int) = 0 from rfl] at h2
        rw [h2]
        rfl
    · rw [decide_eq_false hL, Bool.and_false, Bool.not_false]
      rw [bj_no, Option.bind_some, if_neg (by decide), cj_no, if_neg (by decide)]
  · have hB : isListB (z.map Int.toNat) = false := by
      cases h : isListB (z.map Int.toNat) with
      | false => rfl
      | true => have := isListB_len h; rw [List.length_map] at this; omega
    rw [decide_eq_false (by omega), if_neg (by decide), hB, Bool.false_and]
    rw [bj_no, Option.bind_some, if_neg (by decide), cj_no, if_neg (by decide)]

theorem eqSS_self (x : List (List Int)) (hx : x.length ≤ 1000) : ∀ (n i k : Nat), i + n = x.length → n + 1 ≤ k → laws_eqFloat32SS.l0 k x x i = some true
  | _, _, 0, _, hk => by omega
  | 0, i, k + 1, h, _ => by
    unfold laws_eqFloat32SS.l0
    rw [if_neg (by omega)]
  | n + 1, i, k + 1, h, hk => by
    unfold laws_eqFloat32SS.l0 laws_eqFloat32S.f
    rw [if_pos (by omega), if_pos (by omega), if_pos (by omega), if_pos rfl, Option.bind_some, if_pos rfl, w64 _ (by omega) (by omega)]
    have := eqSS_self x hx n (i + 1) k (by omega) (by omega)
    rw [show ((i + 1 : Nat) : Int) = (i : Int) + 1 by omega] at this
    exact this
theorem eq_gives (x : List (List Int)) (hx : x.length ≤ 1000) : laws_eqFloat32SS.f 2000 x x = some true := by
  unfold laws_eqFloat32SS.f
  rw [if_pos rfl]
  have := eqSS_self x hx x.length 0 2000 (by omega) (by omega)
  exact this
theorem cut_tot (z : List Int) : ∀ ss : List Nat, ss.sum ≤ z.length → tot (cut z ss) = ss.sum
  | [], _ => rfl
  | s :: ss, h => by
    rw [List.sum_cons] at h
    rw [cut, tot_cons, cut_tot z ss (by omega), List.sum_cons, List.length_drop, List.length_take]
    omega
theorem cutR_length (z : List Int) (lev : Int) : (cutR z lev).length ≤ 100 := by
  unfold cutR
  split
  · rename_i h
    unfold cutB at h
    rw [Bool.and_eq_true, decide_eq_true_eq] at h
    rw [cut_length]
    have := bands_len lev.toNat z.length
    omega
  · simp
theorem cutR_tot (z : List Int) (lev : Int) : tot (cutR z lev) ≤ z.length := by
  unfold cutR
  split
  · rw [cut_tot _ _ (by rw [bands_sum]; omega), bands_sum]; omega
  · simp [tot]
end Go.Proofs.Ytbpjkghbkjdodaa.SBnd
