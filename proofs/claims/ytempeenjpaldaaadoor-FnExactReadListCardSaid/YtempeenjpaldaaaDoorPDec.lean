/- The reference's decimal digits are the library's, in plain numbers and lists. -/
import Derived.Test.YtempeenjpaldaaaDoorSDec1
namespace Go.Proofs.YtempeenjpaldaaaDoor.SDec
open Go.RowKit Go.Proofs.YtempeenjpaldaaaDoorW.PrintWords Go.Proofs.YtempeenjpaldaaaDoorW.PrintLast

/-- decimal digits as numbers -/
def digI (u : Nat) : List Int := (Lib.decDigits u).map fun b => (b.toNat : Int)
theorem digI_low {u : Nat} (h : u < 10) : digI u = [(48 + u : Int)] := by
  unfold digI Lib.decDigits
  rw [dif_pos h]
  simp only [List.map_cons, List.map_nil, List.cons.injEq, and_true]
  rw [UInt8.toNat_ofNat']
  omega
theorem digI_high {u : Nat} (h : ¬ u < 10) : digI u = digI (u / 10) ++ [(48 + (u % 10 : Nat) : Int)] := by
  unfold digI
  rw [Lib.decDigits, dif_neg h, List.map_append]
  simp only [List.map_cons, List.map_nil, List.append_cancel_left_eq, List.cons.injEq, and_true]
  rw [UInt8.toNat_ofNat']
  omega
theorem digI_ne (u : Nat) : digI u ≠ [] := by
  rcases Nat.lt_or_ge u 10 with h | h
  · rw [digI_low h]; simp
  · rw [digI_high (by omega)]; simp
theorem digI_length : ∀ (n u : Nat), u < 10 ^ n → 1 ≤ n → (digI u).length ≤ n
  | 0, _, _, h => by omega
  | n + 1, u, hu, _ => by
    rcases Nat.lt_or_ge u 10 with h | h
    · rw [digI_low h]; simp
    · rw [digI_high (by omega), List.length_append]
      have h1 : 1 ≤ n := by
        rcases n with _ | n
        · simp at hu; omega
        · omega
      have := digI_length n (u / 10) (by rw [Nat.pow_succ] at hu; omega) h1
      simp; omega
/-- what is handed back -/
def decEnd (a0 : Int) (l : List Int) : ByteArray := strOfNums (if a0 < 0 then 45 :: l else l)

theorem tm_pos {x : Int} (h : 0 ≤ x) : Int.tmod x 10 = ((x.natAbs % 10 : Nat) : Int) ∧ Int.tdiv x 10 = ((x.natAbs / 10 : Nat) : Int) := by
  obtain ⟨m, rfl⟩ := Int.eq_ofNat_of_zero_le h
  exact ⟨by rw [Int.tmod_eq_emod_of_nonneg (by omega)]; omega, by rw [Int.tdiv_eq_ediv_of_nonneg (by omega)]; omega⟩
theorem tm_neg {x : Int} (h : x < 0) : Int.tmod x 10 = -((x.natAbs % 10 : Nat) : Int) ∧ Int.tdiv x 10 = -((x.natAbs / 10 : Nat) : Int) := by
  obtain ⟨m, hm⟩ : ∃ m : Nat, x = -(m : Int) := ⟨x.natAbs, by omega⟩
  subst hm
  rw [Int.neg_tmod, Int.neg_tdiv, Int.tmod_eq_emod_of_nonneg (by omega), Int.tdiv_eq_ediv_of_nonneg (by omega)]
  exact ⟨by omega, by omega⟩
theorem digit_neg {x : Int} (h : Int.tmod x 10 < 0) : (wrap64 (48 + (wrap64 (-(Int.tmod x 10))))) % 256 = 48 + ((x.natAbs % 10 : Nat) : Int) := by
  have e : Int.tmod x 10 = -((x.natAbs % 10 : Nat) : Int) := by
    rcases Int.lt_or_le x 0 with g | g
    · exact (tm_neg g).1
    · have := (tm_pos g).1; omega
  rw [e]
  unfold wrap64
  omega
theorem digit_pos {x : Int} (h : ¬ Int.tmod x 10 < 0) : (wrap64 (48 + (Int.tmod x 10))) % 256 = 48 + ((x.natAbs % 10 : Nat) : Int) := by
  have e : Int.tmod x 10 = ((x.natAbs % 10 : Nat) : Int) := by
    rcases Int.lt_or_le x 0 with g | g
    · have := (tm_neg g).1; omega
    · exact (tm_pos g).1
  rw [e]
  unfold wrap64
  omega
theorem tdiv_in {x : Int} (h0 : -9223372036854775808 ≤ x) (h1 : x ≤ 9223372036854775807) : wrap64 (Int.tdiv x 10) = Int.tdiv x 10 ∧ (Int.tdiv x 10).natAbs = x.natAbs / 10 ∧ -9223372036854775808 ≤ Int.tdiv x 10 ∧ Int.tdiv x 10 ≤ 9223372036854775807 := by
  have e : (Int.tdiv x 10).natAbs = x.natAbs / 10 := by
    rcases Int.lt_or_le x 0 with g | g
    · rw [(tm_neg g).2]; omega
    · rw [(tm_pos g).2]; omega
  refine ⟨?_, e, by omega, by omega⟩
  unfold wrap64
  omega

theorem dec_stop (k : Nat) (a0 : Int) (out : List Int) (hl : out.length ≤ 100) : spec_l01Dec.j1 (k + 1) a0 out 0 false = some (decEnd a0 out) := by
  simp only [spec_l01Dec.j1, Bool.false_eq_true, if_false]
  unfold decEnd
  by_cases h : a0 < 0
  · rw [if_pos h, if_pos h]
    simp only [Option.bind_some, List.length_cons, List.length_nil]
    rw [if_pos (by omega)]
    rfl
  · rw [if_neg h, if_neg h]
theorem dec_go (k : Nat) (a0 : Int) (out : List Int) (x : Int) (h0 : -9223372036854775808 ≤ x) (h1 : x ≤ 9223372036854775807) (hl : out.length ≤ 100) :
    spec_l01Dec.j1 (k + 1) a0 out x true = spec_l01Dec.l0 k a0 ((48 + ((x.natAbs % 10 : Nat) : Int)) :: out) (Int.tdiv x 10) := by
  simp only [spec_l01Dec.j1, if_true]
  by_cases h : Int.tmod x 10 < 0
  · rw [if_pos h]
    simp only [Option.bind_some, List.length_cons, List.length_nil]
    rw [if_pos (by omega), digit_neg h, (tdiv_in h0 h1).1]
    rfl
  · rw [if_neg h]
    simp only [Option.bind_some, List.length_cons, List.length_nil]
    rw [if_pos (by omega), digit_pos h, (tdiv_in h0 h1).1]
    rfl
theorem dec_run (a0 : Int) : ∀ (n k : Nat) (out : List Int) (x : Int), x.natAbs < 10 ^ n → -9223372036854775808 ≤ x → x ≤ 9223372036854775807 → out.length + n ≤ 99 → (out ≠ [] ∨ 1 ≤ n) → 2 * n + 2 ≤ k →
    spec_l01Dec.l0 k a0 out x = some (decEnd a0 (if out ≠ [] ∧ x = 0 then out else digI x.natAbs ++ out)) := by
  intro n
  induction n with
  | zero =>
    intro k out x hx _ _ hl ho hk
    have hx0 : x = 0 := by simp at hx; exact hx
    subst hx0
    have hne : out ≠ [] := by rcases ho with h | h; exact h; omega
    obtain ⟨k, rfl⟩ : ∃ m, k = m + 2 := ⟨k - 2, by omega⟩
    rw [if_pos ⟨hne, rfl⟩]
    simp only [spec_l01Dec.l0]
    rw [if_neg (by have : out.length ≠ 0 := fun e => hne (List.length_eq_zero_iff.1 e); omega)]
    exact dec_stop k a0 out (by omega)
  | succ n ih =>
    intro k out x hx h0 h1 hl ho hk
    obtain ⟨k, rfl⟩ : ∃ m, k = m + 2 := ⟨k - 2, by omega⟩
    by_cases hs : out ≠ [] ∧ x = 0
    · rw [if_pos hs]
      obtain ⟨hne, rfl⟩ := hs
      simp only [spec_l01Dec.l0]
      rw [if_neg (by have : out.length ≠ 0 := fun e => hne (List.length_eq_zero_iff.1 e); omega)]
      exact dec_stop k a0 out (by omega)
    · rw [if_neg hs]
      have ht : spec_l01Dec.l0 (k + 2) a0 out x = spec_l01Dec.j1 (k + 1) a0 out x true := by
        simp only [spec_l01Dec.l0]
        by_cases he : (out.length : Int) = 0
        · rw [if_pos he]
        · rw [if_neg he]
          have hne : out ≠ [] := fun e => he (by rw [e]; rfl)
          have hx0 : x ≠ 0 := fun e => hs ⟨hne, e⟩
          rw [show (x != 0) = true from bne_iff_ne.2 hx0]
      rw [ht, dec_go k a0 out x h0 h1 (by omega)]
      obtain ⟨-, ea, b0, b1⟩ := tdiv_in h0 h1
      rw [ih k _ _ (by rw [ea]; rw [Nat.pow_succ] at hx; omega) b0 b1 (by simp; omega) (.inl (by simp)) (by omega)]
      congr 2
      by_cases hz : Int.tdiv x 10 = 0
      · rw [if_pos ⟨by simp, hz⟩]
        have : x.natAbs < 10 := by rw [hz] at ea; simp at ea; omega
        rw [digI_low this, Nat.mod_eq_of_lt this]
        rfl
      · rw [if_neg (fun h => hz h.2), ea]
        have : ¬ x.natAbs < 10 := by omega
        rw [digI_high this, List.append_assoc]
        rfl
/-- the digits, with a sign -/
def itoaI (n : Int) : List Int := if n < 0 then 45 :: digI n.natAbs else digI n.natAbs
theorem itoaI_eq (n : Int) : itoaI n = (Lib.itoa n).map fun b => (b.toNat : Int) := by
  unfold itoaI Lib.itoa digI
  by_cases h : n < 0
  · rw [if_pos h, if_pos h]; rfl
  · rw [if_neg h, if_neg h, show n.natAbs = n.toNat by omega]
theorem strOf_map (l : List UInt8) : strOfNums (l.map fun b => (b.toNat : Int)) = ⟨l.toArray⟩ := by
  unfold strOfNums
  congr 2
  rw [List.map_map]
  conv => rhs; rw [← List.map_id l]
  apply List.map_congr_left
  intro b _
  simp
theorem l01Dec_is (n : Int) (h0 : -9223372036854775808 ≤ n) (h1 : n ≤ 9223372036854775807) (k : Nat) (hk : 42 ≤ k) : spec_l01Dec.f k n = some ⟨(Lib.itoa n).toArray⟩ := by
  unfold spec_l01Dec.f
  rw [dec_run n 20 k [] n (by omega) h0 h1 (by simp) (.inr (by omega)) (by omega), if_neg (fun h => h.1 rfl), List.append_nil]
  unfold decEnd
  rw [← strOf_map, ← itoaI_eq]
  rfl
theorem wf_range {n : Int} (h : (Lit.int .i64 n).wf = true) : -9223372036854775808 ≤ n ∧ n ≤ 9223372036854775807 := by
  simp [Lit.wf] at h; exact h
theorem Decimal_pure : laws_FnExactDecimal.Pure := by
  intro n hn
  obtain ⟨h0, h1⟩ := wf_range hn
  refine ⟨42, ?_⟩
  unfold laws_FnExactDecimal.f spec_Decimal.f impl_Decimal.f
  rw [l01Dec_is n h0 h1 42 (by omega), if_pos ⟨h0, h1⟩]
  simp
end Go.Proofs.YtempeenjpaldaaaDoor.SDec
