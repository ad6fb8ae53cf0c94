/- The law FnCircles returns true for all bytes. No condition. -/
import Derived.Test.YtdbcjldengemeaaRows
import Derived.Test.YtdbcjldengemeaaCirW
import Derived.Test.YtdbcjldengemeaaCirS
import Derived.Test.YtdbcjldengemeaaCirM0
import Derived.Test.YtdbcjldengemeaaCirM1
import Derived.Test.YtdbcjldengemeaaCirM2
import Derived.Test.YtdbcjldengemeaaCirM3
import Derived.ProofKit
import Derived.OpenShut
import Derived.ShutString
namespace Go.Proofs.Ytdbcjldengemeaa.CirA
open Go.RowKit Go.Proofs.YtdbcjldengemeaaW.PrintWords Go.Proofs.YtdbcjldengemeaaW.PrintLast Go.Proofs.YtdbcjldengemeaaW.PrintMore Fl Ieee Cir CirW Go.Proofs.Ytdbcjldengemeaa.PFnCircles
set_option linter.unusedVariables false
/-! ### what the walk takes -/
theorem Same_no (w : World) : Calls Try.prog 13 #[.float .f32 1048576000, .float .f32 0] w fun e w' => e = .returned (.bool false) ∧ ∃ n, w' = w.drewN n := by
  have hb : (bitsN 1048576000 == bitsN 0) = false := by decide +kernel
  have H : ∀ w, Calls Try.prog 26 #[.float .f32 1048576000, .float .f32 0] w fun e w' => e = .returned (.bool false) ∧ w = w' := by
    intro w
    go_enter Try.func26, Try.ntmps26
    go_wp2_with (fail)
    refine (l01Bits_any 1048576000 (by omega) _).mono ?_
    rintro e w' ⟨rfl, rfl⟩
    go_wp2_with (fail)
    refine (l01Bits_any 0 (by omega) _).mono ?_
    rintro e w' ⟨rfl, rfl⟩
    go_wp2
    go_ret
    exact ⟨rfl, rfl⟩
  have HH := Lib.hid H
  clear H hb
  go_enter Try.func13, Try.ntmps13
  go_wp2_with (go_at_call 26; refine (HH.out _).mono ?_; rintro e w' ⟨rfl, rfl⟩)
  go_ret
  exact ⟨rfl, 0, rfl⟩
theorem w64 (x : Int) (h1 : -9223372036854775808 ≤ x) (h2 : x < 9223372036854775808) : wrap64 x = x := by unfold wrap64; omega
theorem at_ok {l : List Int} (hb : ∀ n ∈ l, 0 ≤ n ∧ n ≤ 255) (i n : Nat) (hi : i < 100) (hn : 1 < n) (hn2 : n < 100000) : ∃ m : Nat, m < n ∧ laws_b10At.f l i n = some (m : Int) := by
  have tm : ∀ x : Int, 0 ≤ x → ∃ m : Nat, m < n ∧ Int.tmod x n = (m : Int) := by
    intro x hx
    rw [Int.tmod_eq_emod_of_nonneg hx]
    have h1 := Int.emod_nonneg x (show (n : Int) ≠ 0 by omega)
    have h2 := Int.emod_lt_of_pos x (show (0 : Int) < n by omega)
    obtain ⟨m, hm⟩ := Int.eq_ofNat_of_zero_le h1
    exact ⟨m, by omega, hm⟩
  unfold laws_b10At.f
  rw [if_neg (by omega)]
  by_cases h : (i : Int) < (l.length : Int)
  · have hi2 : i < l.length := by omega
    have h1 : rd l i ∈ l := by
      unfold rd
      rw [List.getD_eq_getElem?_getD, Int.toNat_natCast, List.getElem?_eq_getElem hi2]
      exact List.getElem_mem _
    obtain ⟨h2, h3⟩ := hb _ h1
    rw [if_pos h, if_pos (by omega), if_neg (by omega), w64 _ (by omega) (by omega)]
    obtain ⟨m, m1, m2⟩ := tm _ h2
    exact ⟨m, m1, by rw [m2]⟩
  · rw [if_neg h, if_neg (by omega), w64 ((i : Int) * 37) (by omega) (by omega), w64 _ (by omega) (by omega)]
    obtain ⟨m, m1, m2⟩ := tm ((i : Int) * 37 + 11) (by omega)
    exact ⟨m, m1, by rw [m2]⟩
theorem Tt_range (p : Nat) : -200 ≤ Tt p ∧ Tt p ≤ 311 := by unfold Tt; omega
theorem y_at {c : Nat} (hc : c < 511) (w : World) : fres .quo .f64 (floatOfInt .f64 ((c : Int) - 256)) sixty4 w = YTt.getD c 0 := by
  have h := tab y_ok hc
  unfold ckY at h
  simp only [Bool.and_eq_true, beq_iff_eq] at h
  exact fres_some w h.1.1.1.1.1.1
theorem m_at {i j : Nat} (hi : i < 64) (hj : j < 64) : leB (gapF (cop .f32 (uM i j) .f64) (PRw.getD ((i + j) % 64) 0)) most64 = true ∧ leB (gapF (cop .f32 (vM i j) .f64) (PIw.getD ((i + j) % 64) 0)) most64 = true := by
  have h : mRow i = true := by
    by_cases h1 : i < 16
    · have := tab M0_ok (i := i) h1
      rwa [Nat.zero_add] at this
    · by_cases h2 : i < 32
      · have := tab M1_ok (i := i - 16) (by omega)
        rwa [show 16 + (i - 16) = i by omega] at this
      · by_cases h3 : i < 48
        · have := tab M2_ok (i := i - 32) (by omega)
          rwa [show 32 + (i - 32) = i by omega] at this
        · have := tab M3_ok (i := i - 48) (by omega)
          rwa [show 48 + (i - 48) = i by omega] at this
  unfold mRow at h
  have h2 := tab h hj
  rw [Bool.and_eq_true] at h2
  exact h2
/-- the angle in 64ths, taken back -/
theorem t_at {c : Nat} (hc : c < 256) : ∃ m1 S U fh : Nat, ∃ h : Int, (∀ w, fres .mul .f64 (ANw.getD (c % 64) 0) sixty4 w = m1) ∧ (∀ w, fres .sub .f64 m1 (floatOfInt .f64 ((c : Int) - 128)) w = S) ∧ (∀ w, fres .add .f64 S tenK w = U) ∧ (∀ w, ires .f64 U .i64 w = h) ∧
    floatOfInt .f64 (h - 10000) = fh ∧ notGt (gapF S fh) thou = true ∧ Int.tmod (h - 10000) 64 = 0 ∧ 0 ≤ h ∧ h ≤ 100000 := by
  have h := tab t_ok hc
  unfold ckT at h
  split at h
  · rename_i A hA
    split at h
    · rename_i S hS
      split at h
      · rename_i U hU
        split at h
        · rename_i n hn
          simp only [Bool.and_eq_true, decide_eq_true_eq] at h
          obtain ⟨⟨⟨h1, h2⟩, h3⟩, h4⟩ := h
          exact ⟨A, S, U, _, n, fun w => fres_some w hA, fun w => fres_some w hS, fun w => fres_some w hU, fun w => ires_some w hn, rfl, h1, h2, h3, h4⟩
        · cases h
      · cases h
    · cases h
  · cases h
theorem r_at {c : Nat} (hc : c < 256) (z : Bool) (hz : (Int.tmod ((c : Int) - 128) 16 == 0) = z) (h : z = true) :
    ((FloatKind.f64.format.order (gapF (PRw.getD (c % 64) 0) 0) 0 == some .eq) || (FloatKind.f64.format.order (gapF (PRw.getD (c % 64) 0) 0) 4607182418800017408 == some .eq)) = true := by
  rw [h, beq_iff_eq] at hz
  have h1 : c % 64 % 16 = 0 := by
    have := Int.tmod_eq_emod (a := (c : Int) - 128) (b := 16)
    rw [hz] at this
    split at this <;> omega
  obtain ⟨q, hq⟩ : ∃ q, c % 64 = 16 * q := ⟨c % 64 / 16, by omega⟩
  have := tab r_ok (i := q) (by omega)
  unfold ckR at this
  rw [hq]; exact this
theorem x_at {k : Nat} (hk : k < 200) : (∀ w, fres .quo .f32 (floatOfInt .f32 (1 + (k : Int))) 1090519040 w = XTt.getD k 0) ∧ mval single (XTt.getD k 0) = 8 * (k + 1) * 2 ^ 143 ∧ XTt.getD k 0 < 2139095040 := by
  have h := tab x_ok hk
  simp only [Bool.and_eq_true, beq_iff_eq, decide_eq_true_eq] at h
  obtain ⟨⟨h1, h2⟩, h3⟩ := h
  rw [Int.add_comm] at h1
  exact ⟨fun w => fres_some w h1, h2, h3⟩
theorem tt64 : Tt 64 = 0 := by decide +kernel
theorem one_at (w : World) : Calls Try.prog 12 #[.float .f32 1065353216] w fun e w' => e = .returned (.tuple #[.int .i64 0, .bool true]) ∧ ∃ c, w' = w.drewN c := by
  have h := Tenths_at (z := 1065353216) (p := 64) (by omega) (by decide +kernel) (by omega) (ten_ok (k := 7) (l := 7) (by omega) (by omega)) w
  rw [tt64] at h
  exact h
theorem pairs {k l : Nat} (hk : k < 200) (hl : l < 200) : Tt (8 * (k + 1)) + Tt (8 * (l + 1)) - Tt ((k + 1) * (l + 1)) ≤ 1 ∧ Tt ((k + 1) * (l + 1)) - Tt (8 * (k + 1)) - Tt (8 * (l + 1)) ≤ 1 := by
  have h := tab (tab pairs_ok hk) hl
  simp only [Bool.and_eq_true, decide_eq_true_eq] at h
  exact h
theorem wideR {i : Nat} (hi : i < 64) : (∀ w, cres .f32 (PRt.getD i 0) .f64 w = PRw.getD i 0) ∧ (∀ w, cres .f32 (PIt.getD i 0) .f64 w = PIw.getD i 0) ∧ (∀ w, cres .f32 (ANt.getD i 0) .f64 w = ANw.getD i 0) := by
  obtain ⟨w1, w2, w3, _⟩ := wide hi
  exact ⟨fun w => cres_some w w1, fun w => cres_some w w2, fun w => cres_some w w3⟩
/-! ### the law -/
set_option maxHeartbeats 4000000 in
theorem walk_yes (W : World) (A0 : Option Addr) (c0 : Nat) (l0 : List Int) (h0 : Kd.C (Kd.int .u8) W A0 l0.length l0) (hc0 : l0.length ≤ c0) (b0 : ∀ n ∈ l0, 0 ≤ n ∧ n ≤ 255)
    (A1 : Option Addr) (c1 : Nat) (l1 : List Int) (h1 : Kd.C (Kd.int .u8) W A1 l1.length l1) (hc1 : l1.length ≤ c1) (b1 : ∀ n ∈ l1, 0 ≤ n ∧ n ≤ 255) :
    Calls Try.prog 3 #[.slice A0 l0.length c0, .slice A1 l1.length c1] W fun e w' => e = .returned (.bool true) ∧ Below W.heap.size W w' := by
  obtain ⟨r, hr⟩ : ∃ r, laws_b10Long.f l0 l1 = some r := by unfold laws_b10Long.f; split <;> exact ⟨_, rfl⟩
  cases r with
  | true => exact walk_long A0 c0 l0 A1 c1 l1 W h0 hc0 h1 hc1 hr
  | false =>
  obtain ⟨a, ha, ea⟩ := at_ok b0 0 256 (by omega) (by omega) (by omega)
  obtain ⟨b, hb, eb⟩ := at_ok b0 1 256 (by omega) (by omega) (by omega)
  obtain ⟨k, hk, ek⟩ := at_ok b1 0 200 (by omega) (by omega) (by omega)
  obtain ⟨l, hl, el⟩ := at_ok b1 1 200 (by omega) (by omega) (by omega)
  have ja := y_at (c := a + 128) (by omega)
  have jb := y_at (c := b + 128) (by omega)
  have jc := y_at (c := a + b) (by omega)
  rw [show ((a + 128 : Nat) : Int) - 256 = (a : Int) - 128 by omega] at ja
  rw [show ((b + 128 : Nat) : Int) - 256 = (b : Int) - 128 by omega] at jb
  rw [show ((a + b : Nat) : Int) - 256 = ((a : Int) - 128) + ((b : Int) - 128) by omega] at jc
  have pa := fun w => phasor_at (c := a + 128) (by omega) w
  have pb := fun w => phasor_at (c := b + 128) (by omega) w
  have pc := fun w => phasor_at (c := a + b) (by omega) w
  rw [show (a + 128) % 64 = a % 64 by omega] at pa
  rw [show (b + 128) % 64 = b % 64 by omega] at pb
  have i1 : a % 64 < 64 := Nat.mod_lt _ (by decide)
  have i2 : b % 64 < 64 := Nat.mod_lt _ (by decide)
  have i3 : (a + b) % 64 < 64 := Nat.mod_lt _ (by decide)
  obtain ⟨m1, S, U, fh, h, t1, t2, t3, t4, t5, t6, t7, t8, t9⟩ := t_at ha
  obtain ⟨P, PW, q1, q2, q3⟩ := PowerOf_at i1
  obtain ⟨⟨u', v', n1, n2, n3, n4⟩, n5⟩ := Mul_at i1 i2
  obtain ⟨g1, g2⟩ := m_at i1 i2
  rw [← n3, show (a % 64 + b % 64) % 64 = (a + b) % 64 by omega] at g1
  rw [← n4, show (a % 64 + b % 64) % 64 = (a + b) % 64 by omega] at g2
  obtain ⟨wa1, wa2, wa3⟩ := wideR i1
  obtain ⟨wr1, wr2, _⟩ := wideR i3
  have hnear := b10Near_true (uM (a % 64) (b % 64)) (vM (a % 64) (b % 64)) (PRt.getD ((a + b) % 64) 0) (PIt.getD ((a + b) % 64) 0) u' v' _ _ n1 n2 wr1 wr2 g1 g2
  obtain ⟨x1, x2, x3⟩ := x_at hk
  obtain ⟨y1, y2, y3⟩ := x_at hl
  obtain ⟨z, z1, z2, z3⟩ := eighths x3 y3 x2 y2 (by have := Nat.mul_le_mul (show k + 1 ≤ 200 by omega) (show l + 1 ≤ 200 by omega); omega)
  have T1 := fun w => Tenths_at x3 x2 (by omega) (ten_ok (k := 7) (l := k) (by omega) hk) w
  have T2 := fun w => Tenths_at y3 y2 (by omega) (ten_ok (k := 7) (l := l) (by omega) hl) w
  have T3 := fun w => Tenths_at z2 z3 (Nat.mul_pos (by omega) (by omega)) (ten_ok hk hl) w
  obtain ⟨p1, p2⟩ := pairs hk hl
  obtain ⟨e1, e2⟩ := Tt_range (8 * (k + 1))
  obtain ⟨e3, e4⟩ := Tt_range (8 * (l + 1))
  obtain ⟨e5, e6⟩ := Tt_range ((k + 1) * (l + 1))
  refine walk_core A0 c0 l0 A1 c1 l1 W h0 hc0 h1 hc1 hr a b k l ea eb ek el
    ((a : Int) - 128) ((b : Int) - 128) (((a : Int) - 128) + ((b : Int) - 128)) (1 + (k : Int)) (1 + (l : Int)) h (h - 10000) (Tt (8 * (k + 1))) (Tt (8 * (l + 1))) (Tt ((k + 1) * (l + 1)))
    (Tt (8 * (k + 1)) + Tt (8 * (l + 1))) (Tt (8 * (k + 1)) + Tt (8 * (l + 1)) - Tt ((k + 1) * (l + 1))) (Tt ((k + 1) * (l + 1)) - Tt (8 * (k + 1))) (Tt ((k + 1) * (l + 1)) - Tt (8 * (k + 1)) - Tt (8 * (l + 1)))
    (w64 _ (by omega) (by omega)) (w64 _ (by omega) (by omega)) (w64 _ (by omega) (by omega)) (w64 _ (by omega) (by omega)) t7
    (w64 _ (by omega) (by omega)) (w64 _ (by omega) (by omega)) (w64 _ (by omega) (by omega)) (w64 _ (by omega) (by omega)) (decide_eq_true p1) (decide_eq_true p2) (w64 _ (by omega) (by omega)) (w64 _ (by omega) (by omega))
    _ _ _ (YTt.getD (a + 128) 0) (YTt.getD (b + 128) 0) (YTt.getD (a + b) 0) (PRt.getD (a % 64) 0) (PIt.getD (a % 64) 0) (PRt.getD (b % 64) 0) (PIt.getD (b % 64) 0) (PRt.getD ((a + b) % 64) 0) (PIt.getD ((a + b) % 64) 0)
    (ANt.getD (a % 64) 0) (ANw.getD (a % 64) 0) m1 S U fh P PW (uM (a % 64) (b % 64)) (vM (a % 64) (b % 64)) (PRw.getD (a % 64) 0) _ _ (XTt.getD k 0) (XTt.getD l 0) z _
    rfl rfl rfl t5 rfl rfl ja jb jc wa3 t1 t2 t3 t4 q1 wa1 x1 y1 (fun w => fres_some w z1) rfl
    (Lib.hid pa) (Lib.hid pb) (Lib.hid pc) (Lib.hid (AngleOf_at _ _ _ (angle_at i1))) (Lib.hid q3) (Lib.hid n5) (Lib.hid hnear) (Lib.hid T1) (Lib.hid T2) (Lib.hid T3) (Lib.hid one_at) (Lib.hid (AngleOf_at _ _ _ angle_i)) (Lib.hid Same_no)
    (Lib.hid q2) (Lib.hid t6) (Lib.hid (fun h => r_at ha _ rfl h))
theorem walk (w : World) (a0 : Option Addr) (len0 cap0 : Nat) (z0 : List Int) (c0 : Kd.C (Kd.int .u8) w a0 len0 z0) (w0 : z0.length = len0 ∧ len0 ≤ cap0 ∧ ∀ n ∈ z0, 0 ≤ n ∧ n ≤ 255)
    (a1 : Option Addr) (len1 cap1 : Nat) (z1 : List Int) (c1 : Kd.C (Kd.int .u8) w a1 len1 z1) (w1 : z1.length = len1 ∧ len1 ≤ cap1 ∧ ∀ n ∈ z1, 0 ≤ n ∧ n ≤ 255) :
    Calls Try.prog 3 #[.slice a0 len0 cap0, .slice a1 len1 cap1] w fun e w' => e = .returned (.bool true) ∧ Below w.heap.size w w' := by
  obtain ⟨rfl, hc0, hb0⟩ := w0
  obtain ⟨rfl, hc1, hb1⟩ := w1
  exact walk_yes w a0 cap0 z0 c0 hc0 hb0 a1 cap1 z1 c1 hc1 hb1
end Go.Proofs.Ytdbcjldengemeaa.CirA
