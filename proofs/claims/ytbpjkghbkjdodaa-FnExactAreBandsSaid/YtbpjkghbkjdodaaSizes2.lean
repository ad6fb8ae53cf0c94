/- The second test of bands' lengths, for all rows of lengths. -/
import Derived.Test.YtbpjkghbkjdodaaSizes
namespace Go.Proofs.Ytbpjkghbkjdodaa.SBnd
open Go.RowKit Go.Proofs.YtbpjkghbkjdodaaW.PrintWords Go.Proofs.YtbpjkghbkjdodaaW.PrintLast

set_option maxHeartbeats 2000000 in
set_option maxRecDepth 100000 in
theorem implSizes_any (A : Option Addr) (c : Nat) (l : List Int) (w : World) (hr : (Kd.int .i64).C w A l.length l) (hb : ∀ i : Nat, 0 ≤ rd l i ∧ rd l i ≤ 1048576) :
    Calls Try.prog 44 #[.slice A l.length c] w fun e w' => e = .returned (.bool (sizesB l)) ∧ w = w' := by
  have HR := Aside0.mk hr
  have HB := Aside0.mk hb
  have hmx := Kd.C_max hr
  clear hr hb
  by_cases h0 : l.length = 0
  · have e1 : sizesB l = false := by unfold sizesB; rw [decide_eq_false (by omega)]; rfl
    rw [e1, h0]; clear e1 h0 HR HB hmx
    go_enter Try.func44, Try.ntmps44
    go_wp2_with (go_at_call 55; go_in)
    go_ret
    exact ⟨rfl, rfl⟩
  obtain ⟨m, hm⟩ : ∃ m, l.length = m + 1 := ⟨l.length - 1, by omega⟩
  by_cases h7 : l.length ≤ 7
  case neg =>
    have e1 : sizesB l = false := by unfold sizesB; rw [decide_eq_false (by omega)]; rfl
    rw [e1, hm]; clear e1 h0 HR HB
    have h6 : decide ((m : Int) ≤ 6) = false := decide_eq_false (by omega)
    go_enter Try.func44, Try.ntmps44
    go_wp2_with (go_at_call 55; go_in)
    go_ret
    exact ⟨rfl, rfl⟩
  have e2 : sizesB l = (decide (1 ≤ rd l m) && (decide (l.length = 1 → rd l 0 ≤ 1) && goB l m (rd l m))) := by
    unfold sizesB; rw [decide_eq_true (by omega), Bool.true_and, show l.length - 1 = m by omega]
  obtain ⟨ad, ea, hx⟩ := Kd.at_int HR.out (m : Int) (by omega) (by omega)
  subst ea
  rw [Int.toNat_natCast] at hx
  have hbm := HB.out m
  have H6 : decide ((m : Int) ≤ 6) = true := decide_eq_true (by omega)
  have hmn : decide (0 ≤ (m : Int)) = true := decide_eq_true (by omega)
  by_cases h1 : 1 ≤ rd l m
  case neg =>
    rw [e2, decide_eq_false h1, hm]; clear e2 h0
    have h1' : rd l m < 1 := by omega
    go_enter Try.func44, Try.ntmps44
    go_wp2_with (go_at_call 55; go_in)
    go_ret
    exact ⟨rfl, rfl⟩
  rw [e2, decide_eq_true h1, Bool.true_and]; clear e2
  have h1' : ¬ rd l m < 1 := by omega
  by_cases hm0 : m = 0
  · subst hm0
    have e0 : rd l ((0 : Nat) : Int) = rd l 0 := rfl
    rw [e0] at hx h1 h1' hbm ⊢
    clear H6 hmn
    simp only [Nat.zero_add] at hm
    replace hx : w.cell? ad = some (.int .i64 (rd l 0)) := by simpa [Addr.add] using hx
    by_cases g : rd l 0 ≤ 1
    case neg =>
      rw [decide_eq_false (by simp [hm]; omega), hm]
      have g' : (rd l 0 == 1) = false := beq_eq_false_iff_ne.2 (by omega)
      go_enter Try.func44, Try.ntmps44
      go_wp2_with (go_at_call 55; go_in)
      go_ret
      exact ⟨rfl, rfl⟩
    have g0 : rd l 0 = 1 := by omega
    rw [decide_eq_true (fun _ => g), Bool.true_and, hm, g0]
    rw [g0] at hx
    clear hbm h1 h1' g
    go_enter Try.func44, Try.ntmps44
    go_wp2_with (go_at_call 55; go_in)
    go_loop [4, 5, 6] (fun v4 v5 v6 => v4 = .int .i64 1 ∧ v5 = .int .i64 (-1)) (fun _ v5 _ => 0)
    case atStart => exact ⟨rfl, rfl⟩
    case round =>
      obtain ⟨rfl, rfl⟩ := hrel
      go_wp2
      go_ret
      exact ⟨rfl, rfl⟩
  have hm0' : ((m : Int) == 0) = false := beq_eq_false_iff_ne.2 (by omega)
  rw [decide_eq_true (fun h => by omega), Bool.true_and]
  have hlen : l.length = m + 1 := hm
  rw [hm]
  go_enter Try.func44, Try.ntmps44
  go_wp2_with (go_at_call 55; go_in)
  go_loop [4, 5, 6] (fun v4 v5 v6 => ∃ (i : Nat) (n : Int), v4 = .int .i64 n ∧ v5 = .int .i64 ((i : Int) - 1) ∧ Aside0 (goB l i n = goB l m (rd l m)) ∧ Aside0 (i ≤ m) ∧ Aside0 (1 ≤ n ∧ n ≤ 2000000)) (fun _ v5 _ => (intOf v5 + 1).toNat)
  case atStart => exact ⟨m, rd l m, rfl, by go_num, ⟨rfl⟩, ⟨Nat.le_refl _⟩, ⟨by omega⟩⟩
  case round =>
    obtain ⟨i, n, rfl, rfl, HS, HI, HN⟩ := hrel
    rcases i with _ | i
    · rw [show ((0 : Nat) : Int) - 1 = -1 from rfl]
      go_wp2
      go_ret
      exact ⟨by rw [← HS.out]; rfl, rfl⟩
    · obtain ⟨ad2, ea2, hx2⟩ := Kd.at_int HR.out (i : Int) (by omega) (by have := HI.out; omega)
      cases ea2
      rw [Int.toNat_natCast] at hx2
      have hbi := HB.out i
      have hn := HN.out
      have hii := HI.out
      have hi1 : ((i + 1 : Nat) : Int) - 1 = (i : Int) := by omega
      rw [hi1]
      obtain ⟨s, hs⟩ : ∃ s, rd l (i : Int) = s := ⟨_, rfl⟩
      have hg : goB l (i + 1) n = (if 1 ≤ s ∧ (s = n ∨ s = n - 1) ∧ n + s ≤ 128 then goB l i (n + s) else false) := by rw [← hs]; rfl
      rw [hs] at hx2 hbi
      have HS1 := HS.out
      rw [hg] at HS1
      by_cases g1 : 1 ≤ s
      case neg =>
        rw [if_neg (by omega)] at HS1
        have HF := Aside0.mk HS1.symm
        clear HS1 HS hg
        have g1' : s < 1 := by omega
        go_wp2
        go_ret
        exact ⟨by rw [HF.out]; rfl, rfl⟩
      by_cases g2 : s = n ∨ s = n - 1
      case neg =>
        rw [if_neg (fun h => g2 h.2.1)] at HS1
        have HF := Aside0.mk HS1.symm
        clear HS1 HS hg
        have g2a : (s == n) = false := beq_eq_false_iff_ne.2 (fun h => g2 (Or.inl h))
        have g2b : (s == n - 1) = false := beq_eq_false_iff_ne.2 (fun h => g2 (Or.inr h))
        have g2c : (s != n) = true := bne_iff_ne.2 (fun h => g2 (Or.inl h))
        have g2d : (s != n - 1) = true := bne_iff_ne.2 (fun h => g2 (Or.inr h))
        have g1' : ¬ s < 1 := by omega
        go_wp2
        go_ret
        exact ⟨by rw [HF.out]; rfl, rfl⟩
      by_cases g3 : n + s ≤ 128
      case neg =>
        rw [if_neg (fun h => g3 h.2.2)] at HS1
        have HF := Aside0.mk HS1.symm
        clear HS1 HS hg
        have g3' : 128 < n + s := by omega
        have g1' : ¬ s < 1 := by omega
        rcases g2 with rfl | rfl
        · go_wp2
          go_ret
          exact ⟨by rw [HF.out]; rfl, rfl⟩
        · have g4 : ((n - 1) == n) = false := beq_eq_false_iff_ne.2 (by omega)
          go_wp2
          go_ret
          exact ⟨by rw [HF.out]; rfl, rfl⟩
      rw [if_pos ⟨g1, g2, g3⟩] at HS1
      have HS2 := Aside0.mk HS1
      clear HS1 HS hg
      have g3' : ¬ 128 < n + s := by omega
      have g1' : ¬ s < 1 := by omega
      rcases g2 with rfl | rfl
      · go_wp2
        go_round
        case rel => exact ⟨i, _, rfl, by go_num, HS2, ⟨by omega⟩, ⟨by omega⟩⟩
        case measure => first | (simp [intOf]; done) | (simp [intOf]; omega)
      · have g4 : ((n - 1) == n) = false := beq_eq_false_iff_ne.2 (by omega)
        go_wp2
        go_round
        case rel => exact ⟨i, _, rfl, by go_num, HS2, ⟨by omega⟩, ⟨by omega⟩⟩
        case measure => first | (simp [intOf]; done) | (simp [intOf]; omega)

end Go.Proofs.Ytbpjkghbkjdodaa.SBnd
