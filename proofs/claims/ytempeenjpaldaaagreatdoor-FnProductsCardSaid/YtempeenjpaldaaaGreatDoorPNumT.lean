/- The texts of lists of numbers, in plain lists. -/
import Derived.Test.YtempeenjpaldaaaGreatDoorSNum1
import Derived.Lib.Join
namespace Go.Proofs.YtempeenjpaldaaaGreatDoor.SNum
open Go.RowKit Go.Proofs.YtempeenjpaldaaaGreatDoorW.PrintWords Go.Proofs.YtempeenjpaldaaaGreatDoorW.PrintLast Go.Proofs.YtempeenjpaldaaaGreatDoorW.PrintMore Fl Hx

theorem w64 (n : Int) (h0 : -9223372036854775808 ≤ n) (h1 : n ≤ 9223372036854775807) : wrap64 n = n := by unfold wrap64; omega
theorem rd_get (xs : List Int) (i : Nat) (h : i < xs.length) : rd xs (i : Int) = xs[i] := by
  unfold rd; simp [List.getD, List.getElem?_eq_getElem h]

/-! ### the copies -/
theorem take_at (d : Int) {rs : List Int} {j : Nat} (hj : j < rs.length) : rs.take (j + 1) = rs.take j ++ [rs.getD j d] := by
  rw [List.take_add_one, List.getElem?_eq_getElem hj, List.getD_eq_getElem?_getD, List.getElem?_eq_getElem hj]; rfl
theorem copy_step {l : List Int} {j : Nat} (hj : j < l.length) : (l.take j ++ List.replicate (l.length - j) 0).set j (rd l j) = l.take (j + 1) ++ List.replicate (l.length - (j + 1)) 0 := by
  rw [rd, Int.toNat_natCast, List.set_append_right _ _ (by rw [List.length_take]; omega), List.length_take, Nat.min_eq_left (by omega), Nat.sub_self, take_at 0 hj, List.append_assoc]
  obtain ⟨n, hn⟩ : ∃ n, l.length - j = n + 1 := ⟨l.length - j - 1, by omega⟩
  rw [hn, show l.length - (j + 1) = n by omega, List.replicate_succ, List.set_cons_zero]; rfl
theorem toS (r : List Int) (hr : r.length ≤ 1048576) : ∀ (n i k : Nat), i + n = r.length → n + 1 ≤ k → laws_toFloat32S.l0 k r (r.take i ++ List.replicate (r.length - i) 0) i = some r
  | _, _, 0, _, hk => by omega
  | 0, i, k + 1, h, _ => by
    obtain rfl : i = r.length := by omega
    unfold laws_toFloat32S.l0
    rw [if_neg (by omega)]
    simp
  | n + 1, i, k + 1, h, hk => by
    have hi : i < r.length := by omega
    unfold laws_toFloat32S.l0
    rw [if_pos (by omega), if_pos (by omega), if_pos (by rw [List.length_append, List.length_take, List.length_replicate]; omega), w64 _ (by omega) (by omega), Int.toNat_natCast, copy_step hi]
    exact toS r hr n (i + 1) k (by omega) (by omega)
theorem toS_is (r : List Int) (hr : r.length ≤ 1048576) (k : Nat) (hk : r.length + 1 ≤ k) : laws_toFloat32S.f k r = some r := by
  unfold laws_toFloat32S.f
  rw [if_pos (by omega), if_pos (by omega), Int.toNat_natCast]
  exact toS r hr r.length 0 k (by omega) hk

/-! ### eight digits -/
/-- the last k digits -/
def H : Nat → Nat → List UInt8
  | 0, _ => []
  | k + 1, u => H k (u / 16) ++ [hexd (u % 16)]
theorem H_zero : ∀ k, H k 0 = List.replicate k 48
  | 0 => rfl
  | k + 1 => by
    rw [H, Nat.zero_div, H_zero k, show hexd (0 % 16) = 48 from rfl, ← List.replicate_succ']
theorem H_pad : ∀ (k u : Nat), u < 16 ^ (k + 1) → List.replicate (k + 1 - (T u).length) 48 ++ T u = H (k + 1) u
  | 0, u, h => by
    have h16 : u < 16 := by simpa using h
    rw [T_small h16, H, H, Nat.mod_eq_of_lt h16]; rfl
  | k + 1, u, h => by
    by_cases g : u < 16
    · rw [T_small g, H, Nat.div_eq_of_lt g, H_zero, Nat.mod_eq_of_lt g]; rfl
    · have h2 : u / 16 < 16 ^ (k + 1) := by rw [Nat.pow_succ] at h; exact Nat.div_lt_of_lt_mul (by omega)
      have hl := T_len k (u / 16) h2
      rw [T_big g, H, ← H_pad k (u / 16) h2, List.length_append, List.length_singleton, ← List.append_assoc]
      rw [show k + 1 + 1 - ((T (u / 16)).length + 1) = k + 1 - (T (u / 16)).length by omega]
theorem hex8_is {u : Nat} (h : u < 4294967296) : hex8 u = H 8 u := H_pad 7 u (by simpa using h)
theorem and15i (v : Nat) (h : v < 9223372036854775808) : bits .and .i64 (v : Int) 15 = ((v % 16 : Nat) : Int) := by
  have h1 := (bits_nat .i64 63 (by decide) (fun n h0 h1 => by rw [IntKind.wrap_i64]; omega) v 15 (by omega) (by omega)).1
  rw [show ((15 : Nat) : Int) = 15 from rfl] at h1
  rw [h1]
  congr 1
  exact Nat.and_two_pow_sub_one_eq_mod v 4
theorem shr_is (u s : Nat) (hs : s ≤ 64) : shr .i64 (u : Int) (s : Int) = ((u / 2 ^ s : Nat) : Int) := by
  unfold shr
  rw [Int.toNat_natCast, show IntKind.i64.bits = 64 from rfl, Nat.min_eq_left hs, Int.natCast_ediv, Int.natCast_pow]; rfl
theorem bt_dig_all : (List.range 16).all (fun d => bt (⟨#[48, 49, 50, 51, 52, 53, 54, 55, 56, 57, 97, 98, 99, 100, 101, 102]⟩ : ByteArray) (d : Nat) == ((hexd d).toNat : Int)) = true := by decide +kernel
theorem bt_dig {d : Nat} (h : d < 16) : bt (⟨#[48, 49, 50, 51, 52, 53, 54, 55, 56, 57, 97, 98, 99, 100, 101, 102]⟩ : ByteArray) (d : Nat) = ((hexd d).toNat : Int) := eq_of_beq ((List.all_eq_true.1 bt_dig_all) d (List.mem_range.2 h))
abbrev nums (l : List UInt8) : List Int := l.map fun b => (b.toNat : Int)
theorem str_nums (l : List UInt8) : strOfNums (nums l) = ⟨l.toArray⟩ := by
  unfold strOfNums
  rw [List.map_map]
  congr 2
  refine (List.map_congr_left fun b _ => ?_).trans (List.map_id _)
  simp
/-- the digits of a number from the j-th one down -/
def down (u : Nat) : Nat → List UInt8
  | 0 => []
  | j + 1 => hexd (u / 16 ^ j % 16) :: down u j
theorem down_H : ∀ (j u : Nat), down u j = H j u
  | 0, _ => rfl
  | j + 1, u => by
    have key : ∀ (j u : Nat), down u (j + 1) = down (u / 16) j ++ [hexd (u % 16)] := by
      intro j
      induction j with
      | zero => intro u; simp [down]
      | succ j ih =>
        intro u
        rw [down, ih u, down, Nat.div_div_eq_div_mul, show 16 * 16 ^ j = 16 ^ (j + 1) by rw [Nat.pow_succ, Nat.mul_comm]]; rfl
    rw [key, H, down_H j]
theorem hex_loop (u : Nat) (hu : u < 4294967296) : ∀ (j k : Nat) (out : List UInt8), j ≤ 8 → out.length + j ≤ 100 → j + 1 ≤ k → spec_l01Hex.l0 k u (nums out) ((4 * j : Nat) - 4 : Int) = some (strOfNums (nums (out ++ down u j)))
  | _, 0, _, _, _, hk => by omega
  | 0, k + 1, out, _, _, _ => by
    unfold spec_l01Hex.l0
    rw [if_neg (by omega), down, List.append_nil]
  | j + 1, k + 1, out, hj, ho, hk => by
    have hs : ((4 * (j + 1) : Nat) - 4 : Int) = ((4 * j : Nat) : Int) := by omega
    have hw : IntKind.u64.wrap ((4 * j : Nat) : Int) = ((4 * j : Nat) : Int) := by rw [IntKind.wrap_u64]; omega
    have hsh : shr .i64 (u : Int) ((4 * j : Nat) : Int) = ((u / 16 ^ j : Nat) : Int) := by
      rw [shr_is u _ (by omega), Nat.pow_mul]
    have hlt : u / 16 ^ j < 9223372036854775808 := Nat.lt_of_le_of_lt (Nat.div_le_self _ _) (by omega)
    rw [down]
    have ih := hex_loop u hu j k (out ++ [hexd (u / 16 ^ j % 16)]) (by omega) (by rw [List.length_append, List.length_singleton]; omega) (by omega)
    generalize u / 16 ^ j = q at hsh hlt ih ⊢
    have hd : q % 16 < 16 := Nat.mod_lt _ (by omega)
    unfold spec_l01Hex.l0
    rw [hs, hw, hsh, and15i _ hlt, bt_dig hd, if_pos (by omega), if_pos (by omega), if_pos (by omega), if_pos (by omega), if_pos (by rw [List.length_map]; omega), w64 _ (by omega) (by omega)]
    rw [List.append_assoc] at ih
    rw [show nums out ++ [((hexd (q % 16)).toNat : Int)] = nums (out ++ [hexd (q % 16)]) by simp]
    exact ih
def InV (n : Int) : Prop := n.toNat < 4294967296
/-- a number's text -/
def tL (n : Int) : List UInt8 := hex8 (bitsN n.toNat).toNat
def tB (n : Int) : ByteArray := ⟨(tL n).toArray⟩
theorem tB_list (n : Int) : (tB n).data.toList = tL n := rfl
theorem bits_lt {n : Int} (h : InV n) : (bitsN n.toNat).toNat < 4294967296 := by have := bitsN_range h; omega
theorem tL_len {n : Int} (h : InV n) : (tL n).length = 8 := hex8_len (bits_lt h)
theorem tB_size {n : Int} (h : InV n) : (tB n).size = 8 := by have := tL_len h; simpa [tB, ByteArray.size] using this
theorem hex_spec {n : Int} (h : InV n) (k : Nat) (hk : 9 ≤ k) : spec_l01Hex.f k n = some (tB n) := by
  unfold spec_l01Hex.f spec_l01Bits.f
  rw [if_pos (show n.toNat < 4294967296 from h), Option.bind_some]
  have hr := bitsN_range h
  have := hex_loop (bitsN n.toNat).toNat (bits_lt h) 8 k [] (Nat.le_refl _) (by simp) hk
  rw [show ((4 * 8 : Nat) - 4 : Int) = 28 from rfl, show (nums []) = [] from rfl, show (((bitsN n.toNat).toNat : Nat) : Int) = bitsN n.toNat by omega] at this
  rw [this, List.nil_append, str_nums, down_H, ← hex8_is (bits_lt h)]
  rfl
theorem hex_impl {n : Int} (h : InV n) (k : Nat) : impl_hexOf.f k n = some (tB n) := by
  unfold impl_hexOf.f
  rw [if_pos (show n.toNat < 4294967296 from h)]; rfl

/-! ### the lists -/
/-- the texts behind the first, each with a comma ahead -/
def tailB (T : ByteArray) (l : List Int) : ByteArray := l.foldl (fun T n => T ++ ((⟨#[44]⟩ : ByteArray) ++ tB n)) T
theorem app_list (a b : ByteArray) : (a ++ b).data.toList = a.data.toList ++ b.data.toList := by
  rw [ByteArray.data_append, Array.toList_append]
theorem tailB_list : ∀ (l : List Int) (T : ByteArray), (tailB T l).data.toList = T.data.toList ++ Lib.joinTail [44] (l.map tL)
  | [], T => by simp [tailB, Lib.joinTail]
  | n :: l, T => by
    have := tailB_list l (T ++ ((⟨#[44]⟩ : ByteArray) ++ tB n))
    unfold tailB at this ⊢
    rw [List.foldl_cons, this, app_list, app_list, tB_list]
    simp [Lib.joinTail]
theorem text_spec (xs : List Int) (hin : ∀ j, j < xs.length → InV (rd xs (j : Int))) (h64 : xs.length ≤ 256) (d : Nat) : ∀ (k i : Nat) (T : ByteArray), i ≤ xs.length → xs.length - i = d → d + 43 ≤ k → T.size ≤ 22 * i →
    spec_l01NText.l0 k xs T (i : Int) = some (tailB T (xs.drop i)) := by
  induction d with
  | zero =>
    intro k i T hi hd hk _
    obtain ⟨k, rfl⟩ : ∃ m, k = m + 1 := ⟨k - 1, by omega⟩
    have h1 : ¬ (i : Int) < (xs.length : Int) := by omega
    simp only [spec_l01NText.l0]
    rw [if_neg h1, List.drop_eq_nil_of_le (by omega)]
    rfl
  | succ d ih =>
    intro k i T hi hd hk hT
    obtain ⟨k, rfl⟩ : ∃ m, k = m + 1 := ⟨k - 1, by omega⟩
    have hlt : i < xs.length := by omega
    have h1 : (i : Int) < (xs.length : Int) := by omega
    have h2 : (0 : Int) ≤ (i : Int) := by omega
    have e : ((i : Int) + 1) = ((i + 1 : Nat) : Int) := by omega
    have hs := tB_size (hin i hlt)
    have hsz : ((⟨#[44]⟩ : ByteArray) ++ tB (rd xs (i : Int))).size = 1 + (tB (rd xs (i : Int))).size := by rw [ByteArray.size_append]; rfl
    simp only [spec_l01NText.l0]
    rw [if_pos h1, if_pos h2, hex_spec (hin i hlt) k (by omega)]
    simp only [Option.bind_some]
    rw [if_pos (by omega), if_pos (by rw [hsz]; omega), w64 _ (by omega) (by omega), e, ih k (i + 1) _ (by omega) (by omega) (by omega) (by rw [ByteArray.size_append, hsz]; omega)]
    rw [List.drop_eq_getElem_cons hlt]
    unfold tailB
    rw [List.foldl_cons, rd_get xs i hlt]
theorem text_impl (xs : List Int) (hin : ∀ j, j < xs.length → InV (rd xs (j : Int))) (h64 : xs.length ≤ 256) (d : Nat) : ∀ (k i : Nat) (L : List ByteArray), i ≤ xs.length → xs.length - i = d → d < k → L.length = i →
    ∃ k', impl_NumbersText.l0 k L xs (xs.length : Int) (i : Int) = (impl_joined.f k' (L ++ (xs.drop i).map tB)).bind fun t => some (t, true) := by
  induction d with
  | zero =>
    intro k i L hi hd hk _
    obtain ⟨k, rfl⟩ : ∃ m, k = m + 1 := ⟨k - 1, by omega⟩
    have h1 : ¬ (i : Int) < (xs.length : Int) := by omega
    simp only [impl_NumbersText.l0]
    rw [if_neg h1, List.drop_eq_nil_of_le (by omega)]
    exact ⟨k, by simp⟩
  | succ d ih =>
    intro k i L hi hd hk hL
    obtain ⟨k, rfl⟩ : ∃ m, k = m + 1 := ⟨k - 1, by omega⟩
    have hlt : i < xs.length := by omega
    have h1 : (i : Int) < (xs.length : Int) := by omega
    have h2 : (0 : Int) ≤ (i : Int) := by omega
    have e : ((i : Int) + 1) = ((i + 1 : Nat) : Int) := by omega
    simp only [impl_NumbersText.l0]
    rw [if_pos h1, if_pos h2, if_pos h1, hex_impl (hin i hlt) k]
    simp only [Option.bind_some]
    rw [if_pos (by omega), w64 _ (by omega) (by omega), e]
    obtain ⟨k', h⟩ := ih k (i + 1) (L ++ [tB (rd xs (i : Int))]) (by omega) (by omega) (by omega) (by simp [hL])
    refine ⟨k', ?_⟩
    have e2 : L ++ [tB (rd xs (i : Int))] ++ (xs.drop (i + 1)).map tB = L ++ (xs.drop i).map tB := by
      rw [List.drop_eq_getElem_cons hlt, rd_get xs i hlt, List.map_cons, List.append_assoc]
      rfl
    rw [h, e2]
theorem joinTail_length (l : List Int) (hin : ∀ n ∈ l, InV n) : (Lib.joinTail [44] (l.map tL)).length ≤ 22 * l.length := by
  induction l with
  | nil => simp [Lib.joinTail]
  | cons n l ih =>
    have h1 := ih (fun m hm => hin m (List.mem_cons_of_mem _ hm))
    have h2 := tL_len (hin n List.mem_cons_self)
    simp only [Lib.joinTail, List.map_cons, List.flatten_cons, List.length_append, List.length_cons, List.length_nil] at h1 ⊢
    omega
/-- the text of a list -/
theorem texts (xs : List Int) (hin : ∀ j, j < xs.length → InV (rd xs (j : Int))) (h64 : xs.length ≤ 256) (k : Nat) (hk : xs.length + 43 ≤ k) : ∃ t, spec_l01NText.f k xs = some t ∧ impl_NumbersText.f k xs = some (t, true) := by
  unfold spec_l01NText.f impl_NumbersText.f
  obtain ⟨k', hi⟩ := text_impl xs hin h64 xs.length k 0 [] (by omega) (by omega) (by omega) rfl
  rw [if_neg (show ¬ (xs.length : Int) > 256 by omega), show (0 : Int) = ((0 : Nat) : Int) from rfl, hi]
  rw [List.nil_append, List.drop_zero]
  rcases xs with _ | ⟨x, l⟩
  · refine ⟨_, if_pos rfl, ?_⟩
    unfold impl_joined.f
    rw [if_pos (show ((List.map tB []).length : Int) = 0 from rfl)]
    rfl
  · have hx : rd (x :: l) ((0 : Nat) : Int) = x := rfl
    have h0 := hin 0 (by simp)
    rw [if_neg (by simp; omega), if_pos (by simp), hx, hex_spec (by rw [← hx]; exact h0) k (by simp at hk; omega)]
    simp only [Option.bind_some]
    have hs := text_spec (x :: l) hin h64 l.length k 1 (tB x) (by simp) (by simp) (by simp at hk; omega) (by have := tB_size (by rw [← hx]; exact h0 : InV x); omega)
    rw [show (1 : Int) = ((1 : Nat) : Int) from rfl, hs]
    refine ⟨_, rfl, ?_⟩
    have hmem : ∀ n ∈ l, InV n := fun n hn => by
      obtain ⟨j, hj, rfl⟩ := List.mem_iff_getElem.1 hn
      have := hin (j + 1) (by simp; omega)
      rw [rd_get _ _ (by simp; omega)] at this
      simpa using this
    have hl : joinB ((x :: l).map tB) (⟨#[44]⟩ : ByteArray) = tL x ++ Lib.joinTail [44] (l.map tL) := by
      unfold joinB
      rw [List.map_map, List.map_cons, Lib.join_cons]
      rfl
    have hle := joinTail_length l hmem
    have hx2 := tL_len (by rw [← hx]; exact h0 : InV x)
    have h65 : l.length ≤ 256 := by simp at h64; omega
    unfold impl_joined.f strings_Join.f
    rw [if_neg (by simp; omega), if_pos ⟨by rw [hl, List.length_append]; omega, by simp; omega⟩]
    simp only [Option.bind_some, Option.some.injEq]
    rw [hl, List.drop_one, List.tail_cons]
    have := tailB_list l (tB x)
    rw [tB_list] at this
    rw [← this]
theorem NumbersText_pure (l : List Int) (hin : ∀ x ∈ l, InV x) : ∃ k, laws_FnExactNumbersText.f k l = some true := by
  by_cases g : (l.length : Int) > 1048576
  · exact ⟨0, by unfold laws_FnExactNumbersText.f; rw [if_pos g]⟩
  · have hn : l.length ≤ 1048576 := by omega
    refine ⟨l.length + 44, ?_⟩
    unfold laws_FnExactNumbersText.f spec_NumbersText.f spec_l01Few.f
    rw [if_neg g, toS_is l hn _ (by omega)]
    simp only [Option.bind_some]
    have hend : laws_FnExactNumbersText.j0 (l.length + 44) l l false = some true := by
      simp only [laws_FnExactNumbersText.j0, Bool.false_eq_true, if_false]
      rw [toS_is l hn _ (by omega)]
      simp only [Option.bind_some]
      unfold laws_eqFloat32S.f
      simp
    by_cases h : l.length ≤ 256
    · have hin2 : ∀ j, j < l.length → InV (rd l (j : Int)) := fun j hj => by rw [rd_get l j hj]; exact hin _ (List.getElem_mem hj)
      obtain ⟨t, ht, hu⟩ := texts l hin2 h (l.length + 44) (by omega)
      rw [decide_eq_true (by omega), ht, hu]
      simp [hend]
    · rw [decide_eq_false (by omega)]
      unfold impl_NumbersText.f
      rw [if_pos (show (l.length : Int) > 256 by omega)]
      simp [hend]
end Go.Proofs.YtempeenjpaldaaaGreatDoor.SNum
