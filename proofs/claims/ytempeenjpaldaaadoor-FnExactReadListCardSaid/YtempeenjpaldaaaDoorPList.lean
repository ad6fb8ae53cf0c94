/- The texts of lists of integers, in plain lists. -/
import Derived.Test.YtempeenjpaldaaaDoorPNums
import Derived.Test.YtempeenjpaldaaaDoorPDec
import Derived.Lib.ItoaLen
import Derived.Lib.Join
namespace Go.Proofs.YtempeenjpaldaaaDoor.SDec
open Go.RowKit Go.Proofs.YtempeenjpaldaaaDoorW.PrintWords Go.Proofs.YtempeenjpaldaaaDoorW.PrintLast

def InV (n : Int) : Prop := -1000000000000000 ≤ n ∧ n ≤ 1000000000000000
/-- a number's text -/
def tB (n : Int) : ByteArray := ⟨(Lib.itoa n).toArray⟩
theorem tB_list (n : Int) : (tB n).data.toList = Lib.itoa n := rfl
theorem tB_size {n : Int} (h : InV n) : (tB n).size ≤ 21 := by
  have := Lib.itoa_length_le n (by have := h.1; omega) (by have := h.2; omega)
  simpa [tB, ByteArray.size] using this
theorem dec_tB {n : Int} (h : InV n) (k : Nat) (hk : 42 ≤ k) : spec_l01Dec.f k n = some (tB n) := l01Dec_is n (by have := h.1; omega) (by have := h.2; omega) k hk
theorem dec_impl {n : Int} (h : InV n) (k : Nat) : impl_Decimal.f k n = some (tB n) := by
  unfold impl_Decimal.f
  rw [if_pos ⟨by have := h.1; omega, by have := h.2; omega⟩]
  rfl
theorem rd_mem {xs : List Int} {i : Nat} (h : i < xs.length) : rd xs (i : Int) ∈ xs := by
  rw [rd_get xs i h]; exact List.getElem_mem h

/-- both answer alike whether a list is one, and where it is, its numbers are in range -/
theorem list_both (xs : List Int) (hn : xs.length ≤ 140737488351232) (d : Nat) : ∀ (k i : Nat), i ≤ xs.length → xs.length - i = d → d < k → (∀ j, j < i → InV (rd xs (j : Int))) →
    ∃ r, spec_l01List.l0 k xs (i : Int) = some r ∧ impl_areValues.l0 k xs xs (xs.length : Int) (i : Int) = some r ∧ (r = true → (∀ j, j < xs.length → InV (rd xs (j : Int))) ∧ xs.length ≤ 64) := by
  induction d with
  | zero =>
    intro k i hi hd hk hj
    obtain ⟨k, rfl⟩ : ∃ m, k = m + 1 := ⟨k - 1, by omega⟩
    have h1 : ¬ (i : Int) < (xs.length : Int) := by omega
    simp only [spec_l01List.l0, impl_areValues.l0]
    rw [if_neg h1, if_neg h1]
    exact ⟨_, rfl, rfl, fun h => ⟨fun j g => hj j (by omega), by have := of_decide_eq_true h; omega⟩⟩
  | succ d ih =>
    intro k i hi hd hk hj
    obtain ⟨k, rfl⟩ : ∃ m, k = m + 1 := ⟨k - 1, by omega⟩
    have h1 : (i : Int) < (xs.length : Int) := by omega
    have h2 : (0 : Int) ≤ (i : Int) := by omega
    have e : ((i : Int) + 1) = ((i + 1 : Nat) : Int) := by omega
    simp only [spec_l01List.l0, impl_areValues.l0]
    rw [if_pos h1, if_pos h1, if_pos h2, if_pos h2, if_pos h1, next_is h2 h1 hn, e]
    unfold spec_l00In.f impl_isValue.f impl_within.f
    by_cases a : rd xs (i : Int) ≥ -1000000000000000
    · rw [if_pos a]
      by_cases b : rd xs (i : Int) ≤ 1000000000000000
      · have hb : decide (rd xs (i : Int) ≤ 1000000000000000) = true := decide_eq_true b
        simp only [Option.bind_some, hb, if_true]
        refine ih k (i + 1) (by omega) (by omega) (by omega) (fun j g => ?_)
        rcases Nat.lt_or_ge j i with g' | g'
        · exact hj j g'
        · obtain rfl : j = i := by omega
          exact ⟨a, b⟩
      · have hb : decide (rd xs (i : Int) ≤ 1000000000000000) = false := decide_eq_false b
        simp only [Option.bind_some, hb]
        exact ⟨false, rfl, rfl, fun h => by cases h⟩
    · rw [if_neg a]
      exact ⟨false, rfl, rfl, fun h => by cases h⟩

/-- the texts behind the first, each with a comma ahead -/
def tailB (T : ByteArray) (l : List Int) : ByteArray := l.foldl (fun T n => T ++ ((⟨#[44]⟩ : ByteArray) ++ tB n)) T
theorem app_list (a b : ByteArray) : (a ++ b).data.toList = a.data.toList ++ b.data.toList := by
  rw [ByteArray.data_append, Array.toList_append]
theorem tailB_list : ∀ (l : List Int) (T : ByteArray), (tailB T l).data.toList = T.data.toList ++ Lib.joinTail [44] (l.map Lib.itoa)
  | [], T => by simp [tailB, Lib.joinTail]
  | n :: l, T => by
    have := tailB_list l (T ++ ((⟨#[44]⟩ : ByteArray) ++ tB n))
    unfold tailB at this ⊢
    rw [List.foldl_cons, this, app_list, app_list, tB_list]
    simp [Lib.joinTail]
theorem text_spec (xs : List Int) (hin : ∀ j, j < xs.length → InV (rd xs (j : Int))) (h64 : xs.length ≤ 64) (d : Nat) : ∀ (k i : Nat) (T : ByteArray), i ≤ xs.length → xs.length - i = d → d + 43 ≤ k → T.size ≤ 22 * i →
    spec_l01Text.l0 k xs T (i : Int) = some (tailB T (xs.drop i)) := by
  induction d with
  | zero =>
    intro k i T hi hd hk _
    obtain ⟨k, rfl⟩ : ∃ m, k = m + 1 := ⟨k - 1, by omega⟩
    have h1 : ¬ (i : Int) < (xs.length : Int) := by omega
    simp only [spec_l01Text.l0]
    rw [if_neg h1, List.drop_eq_nil_of_le (by omega)]
    rfl
  | succ d ih =>
    intro k i T hi hd hk hT
    obtain ⟨k, rfl⟩ : ∃ m, k = m + 1 := ⟨k - 1, by omega⟩
    have hlt : i < xs.length := by omega
    have h1 : (i : Int) < (xs.length : Int) := by omega
    have h2 : (0 : Int) ≤ (i : Int) := by omega
    have e : ((i : Int) + 1) = ((i + 1 : Nat) : Int) := by omega
    have hs := tB_size (hin i hlt)
    have hsz : ((⟨#[44]⟩ : ByteArray) ++ tB (rd xs (i : Int))).size = 1 + (tB (rd xs (i : Int))).size := by rw [ByteArray.size_append]; rfl
    simp only [spec_l01Text.l0]
    rw [if_pos h1, if_pos h2, dec_tB (hin i hlt) k (by omega)]
    simp only [Option.bind_some]
    rw [if_pos (by omega), if_pos (by rw [hsz]; omega), next_is h2 h1 (by omega), e, ih k (i + 1) _ (by omega) (by omega) (by omega) (by rw [ByteArray.size_append, hsz]; omega)]
    rw [List.drop_eq_getElem_cons hlt]
    unfold tailB
    rw [List.foldl_cons, rd_get xs i hlt]
theorem text_impl (xs : List Int) (hin : ∀ j, j < xs.length → InV (rd xs (j : Int))) (h64 : xs.length ≤ 64) (d : Nat) : ∀ (k i : Nat) (L : List ByteArray), i ≤ xs.length → xs.length - i = d → d < k → L.length = i →
    ∃ k', impl_listText.l0 k L xs (xs.length : Int) (i : Int) = (impl_joined.f k' (L ++ (xs.drop i).map tB)).bind fun t => some t := by
  induction d with
  | zero =>
    intro k i L hi hd hk _
    obtain ⟨k, rfl⟩ : ∃ m, k = m + 1 := ⟨k - 1, by omega⟩
    have h1 : ¬ (i : Int) < (xs.length : Int) := by omega
    simp only [impl_listText.l0]
    rw [if_neg h1, List.drop_eq_nil_of_le (by omega)]
    exact ⟨k, by simp⟩
  | succ d ih =>
    intro k i L hi hd hk hL
    obtain ⟨k, rfl⟩ : ∃ m, k = m + 1 := ⟨k - 1, by omega⟩
    have hlt : i < xs.length := by omega
    have h1 : (i : Int) < (xs.length : Int) := by omega
    have h2 : (0 : Int) ≤ (i : Int) := by omega
    have e : ((i : Int) + 1) = ((i + 1 : Nat) : Int) := by omega
    simp only [impl_listText.l0]
    rw [if_pos h1, if_pos h2, if_pos h1, dec_impl (hin i hlt) k]
    simp only [Option.bind_some]
    rw [if_pos (by omega), next_is h2 h1 (by omega), e]
    obtain ⟨k', h⟩ := ih k (i + 1) (L ++ [tB (rd xs (i : Int))]) (by omega) (by omega) (by omega) (by simp [hL])
    refine ⟨k', ?_⟩
    have e2 : L ++ [tB (rd xs (i : Int))] ++ (xs.drop (i + 1)).map tB = L ++ (xs.drop i).map tB := by
      rw [List.drop_eq_getElem_cons hlt, rd_get xs i hlt, List.map_cons, List.append_assoc]
      rfl
    rw [h, e2]
theorem joinTail_length (l : List Int) (hin : ∀ n ∈ l, InV n) : (Lib.joinTail [44] (l.map Lib.itoa)).length ≤ 22 * l.length := by
  induction l with
  | nil => simp [Lib.joinTail]
  | cons n l ih =>
    have h1 := ih (fun m hm => hin m (List.mem_cons_of_mem _ hm))
    have h2 := tB_size (hin n List.mem_cons_self)
    have h3 : (Lib.itoa n).length = (tB n).size := by simp [tB, ByteArray.size]
    simp only [Lib.joinTail, List.map_cons, List.flatten_cons, List.length_append, List.length_cons, List.length_nil] at h1 ⊢
    omega

/-- the text of a list that is one -/
theorem texts (xs : List Int) (hin : ∀ j, j < xs.length → InV (rd xs (j : Int))) (h64 : xs.length ≤ 64) (k : Nat) (hk : xs.length + 43 ≤ k) : ∃ t u, spec_l01Text.f k xs = some t ∧ impl_listText.f k xs = some u ∧ u = t := by
  unfold spec_l01Text.f impl_listText.f
  obtain ⟨k', hi⟩ := text_impl xs hin h64 xs.length k 0 [] (by omega) (by omega) (by omega) rfl
  rw [show (0 : Int) = ((0 : Nat) : Int) from rfl, hi]
  rw [List.nil_append, List.drop_zero]
  rcases xs with _ | ⟨x, l⟩
  · refine ⟨_, _, if_pos rfl, ?_, rfl⟩
    unfold impl_joined.f
    rw [if_pos (show ((List.map tB []).length : Int) = 0 from rfl)]
    rfl
  · have hx : rd (x :: l) ((0 : Nat) : Int) = x := rfl
    have h0 := hin 0 (by simp)
    rw [if_neg (by simp; omega), if_pos (by simp), hx, dec_tB (by rw [← hx]; exact h0) k (by simp at hk; omega)]
    simp only [Option.bind_some]
    have hs := text_spec (x :: l) hin h64 l.length k 1 (tB x) (by simp) (by simp) (by simp at hk; omega) (by have := tB_size (by rw [← hx]; exact h0 : InV x); omega)
    rw [show (1 : Int) = ((1 : Nat) : Int) from rfl, hs]
    refine ⟨_, _, rfl, ?_, rfl⟩
    have hmem : ∀ n ∈ l, InV n := fun n hn => by
      obtain ⟨j, hj, rfl⟩ := List.mem_iff_getElem.1 hn
      have := hin (j + 1) (by simp; omega)
      rw [rd_get _ _ (by simp; omega)] at this
      simpa using this
    have hl : joinB ((x :: l).map tB) (⟨#[44]⟩ : ByteArray) = Lib.itoa x ++ Lib.joinTail [44] (l.map Lib.itoa) := by
      unfold joinB
      rw [List.map_map, List.map_cons, Lib.join_cons]
      rfl
    have hle := joinTail_length l hmem
    have hx2 := tB_size (by rw [← hx]; exact h0 : InV x)
    have hx3 : (Lib.itoa x).length = (tB x).size := by simp [tB, ByteArray.size]
    have h65 : l.length ≤ 64 := by simp at h64; omega
    unfold impl_joined.f strings_Join.f
    rw [if_neg (by simp; omega), if_pos ⟨by rw [hl, List.length_append]; omega, by simp; omega⟩]
    simp only [Option.bind_some, Option.some.injEq]
    rw [hl, List.drop_one, List.tail_cons]
    have := tailB_list l (tB x)
    rw [tB_list] at this
    rw [← this]
theorem ListText_pure : laws_FnExactListText.Pure := by
  intro l _ _ _
  by_cases g : (l.length : Int) > 1048576
  · exact ⟨0, by unfold laws_FnExactListText.f; rw [if_pos g]⟩
  · have hn : l.length ≤ 1048576 := by omega
    refine ⟨l.length + 44, ?_⟩
    obtain ⟨r, h1, h2, h3⟩ := list_both l (by omega) l.length (l.length + 44) 0 (by omega) (by omega) (by omega) (fun j hj => by omega)
    have h1' : spec_l01List.f (l.length + 44) l = some r := h1
    have h2' : impl_areValues.f (l.length + 44) l = some r := h2
    unfold laws_FnExactListText.f spec_ListText.f impl_ListText.f
    rw [if_neg g, toS_is l hn _ (by omega)]
    simp only [Option.bind_some]
    rw [h1', h2']
    simp only [Option.bind_some]
    have hend : laws_FnExactListText.j0 (l.length + 44) l l false = some true := by
      simp only [laws_FnExactListText.j0, Bool.false_eq_true, if_false]
      rw [toS_is l hn _ (by omega)]
      simp only [Option.bind_some]
      rw [eq_is l hn _ (by omega)]
      simp
    cases r
    · simp [hend]
    · obtain ⟨hin, h64⟩ := h3 rfl
      obtain ⟨t, u, ht, hu, e⟩ := texts l hin h64 (l.length + 44) (by omega)
      subst e
      rw [ht, hu]
      simp [hend]
end Go.Proofs.YtempeenjpaldaaaDoor.SDec
