/- This proves that the law FnPowers returns true for all bytes. No condition. -/
import Derived.Test.YtpjgodeabdcdcaaRows
import Derived.Test.YtpjgodeabdcdcaaPow3
import Derived.Test.YtpjgodeabdcdcaaRowU
import Derived.Test.YtpjgodeabdcdcaaPFnPowersx1
import Derived.ProofKit
import Derived.OpenShut
import Derived.ShutString
namespace Go.Proofs.Ytpjgodeabdcdcaa.fnPowers
open Go.ChangeShapes Go.WideShapes Go.ChangeAt Go.RowKit Fl Ieee Pw Go.Proofs.YtpjgodeabdcdcaaW.PrintWords Go.Proofs.Ytpjgodeabdcdcaa.PFnPowers

/-! ### the tables, read -/
theorem expAll_get : ∀ (l : List Nat) (s j : Nat), expAll s l = true → j < l.length → expOK (((s + j : Nat) : Int) - 64) (l.getD j 0) = true
  | [], _, _, _, h => by cases h
  | e :: l, s, 0, h, _ => by unfold expAll at h; rw [Bool.and_eq_true] at h; exact h.1
  | e :: l, s, j + 1, h, hj => by
    unfold expAll at h; rw [Bool.and_eq_true] at h
    have := expAll_get l (s + 1) j h.2 (by simp at hj; omega)
    rw [show s + 1 + j = s + (j + 1) by omega] at this
    exact this
theorem logAll_get : ∀ (l m : List Nat) (s j : Nat), logAll s l m = true → j < l.length → j < m.length → logOK (((s + j : Nat) : Int) - 32) (l.getD j 0) (m.getD j 0) = true
  | [], _, _, _, _, h, _ => by cases h
  | _ :: _, [], _, _, _, _, h => by cases h
  | a :: l, g :: m, s, 0, h, _, _ => by unfold logAll at h; rw [Bool.and_eq_true] at h; exact h.1
  | a :: l, g :: m, s, j + 1, h, hj, hm => by
    unfold logAll at h; rw [Bool.and_eq_true] at h
    have := logAll_get l m (s + 1) j h.2 (by simp at hj; omega) (by simp at hm; omega)
    rw [show s + 1 + j = s + (j + 1) by omega] at this
    exact this
theorem xAll_get : ∀ (l : List Nat) (s j : Nat), xAll s l = true → j < l.length → xv (((s + j : Nat) : Int) - 64) = l.getD j 0
  | [], _, _, _, h => by cases h
  | e :: l, s, 0, h, _ => by unfold xAll at h; rw [Bool.and_eq_true, beq_iff_eq] at h; exact h.1
  | e :: l, s, j + 1, h, hj => by
    unfold xAll at h; rw [Bool.and_eq_true] at h
    have := xAll_get l (s + 1) j h.2 (by simp at hj; omega)
    rw [show s + 1 + j = s + (j + 1) by omega] at this
    exact this
theorem sumRow_get (a : Nat) : ∀ (l m : List Nat) (j : Nat), sumRow a l m = true → j < l.length → j < m.length → floatBits .add .f32 a (l.getD j 0) = some (m.getD j 0)
  | [], _, _, _, h, _ => by cases h
  | _ :: _, [], _, _, _, h => by cases h
  | b :: l, c :: m, 0, h, _, _ => by unfold sumRow at h; rw [Bool.and_eq_true, beq_iff_eq] at h; exact h.1
  | b :: l, c :: m, j + 1, h, hj, hm => by
    unfold sumRow at h; rw [Bool.and_eq_true] at h
    exact sumRow_get a l m j h.2 (by simp at hj; omega) (by simp at hm; omega)
theorem sumAll_get : ∀ (l m : List Nat) (i j : Nat), sumAll l m = true → i < l.length → j < 65 → i + j < m.length → floatBits .add .f32 (l.getD i 0) ((xTab.drop 32 |>.take 65).getD j 0) = some (m.getD (i + j) 0)
  | [], _, _, _, _, h, _, _ => by cases h
  | _ :: _, [], _, _, _, _, _, h => by cases h
  | a :: l, c :: m, 0, j, h, _, hj, hm => by
    unfold sumAll at h; rw [Bool.and_eq_true] at h
    have := sumRow_get a _ _ j h.1 (by have : (xTab.drop 32 |>.take 65).length = 65 := by decide +kernel
                                       omega) (by omega)
    rw [Nat.zero_add]; exact this
  | a :: l, c :: m, i + 1, j, h, hi, hj, hm => by
    unfold sumAll at h; rw [Bool.and_eq_true] at h
    have := sumAll_get l m i j h.2 (by simp at hi; omega) hj (by simp at hm; omega)
    rw [show i + 1 + j = i + j + 1 by omega]
    exact this
theorem pairRow_get (A : Nat) : ∀ (l m k : List Nat) (j : Nat), pairRow A l m k = true → j < l.length → j < m.length → j < k.length → pairOK A (l.getD j 0) (m.getD j 0) (k.getD j 0) = true
  | [], _, _, _, _, h, _, _ => by cases h
  | _ :: _, [], _, _, _, _, h, _ => by cases h
  | _ :: _, _ :: _, [], _, _, _, _, h => by cases h
  | b :: l, c :: m, r :: k, 0, h, _, _, _ => by unfold pairRow at h; rw [Bool.and_eq_true] at h; exact h.1
  | b :: l, c :: m, r :: k, j + 1, h, hj, hm, hk => by
    unfold pairRow at h; rw [Bool.and_eq_true] at h
    exact pairRow_get A l m k j h.2 (by simp at hj; omega) (by simp at hm; omega) (by simp at hk; omega)
theorem pairAll_get : ∀ (l m k : List Nat) (i j : Nat), pairAll l m k = true → i < l.length → j < 65 → i + j < m.length → i + j < k.length → pairOK (l.getD i 0) ((wideTab.drop 32 |>.take 65).getD j 0) (m.getD (i + j) 0) (k.getD (i + j) 0) = true
  | [], _, _, _, _, _, h, _, _, _ => by cases h
  | _ :: _, [], _, _, _, _, _, _, h, _ => by cases h
  | _ :: _, _ :: _, [], _, _, _, _, _, _, h => by cases h
  | a :: l, c :: m, r :: k, 0, j, h, _, hj, hm, hk => by
    unfold pairAll at h; rw [Bool.and_eq_true] at h
    have := pairRow_get a _ _ _ j h.1 (by have : (wideTab.drop 32 |>.take 65).length = 65 := by decide +kernel
                                          omega) (by omega) (by omega)
    rw [Nat.zero_add]; exact this
  | a :: l, c :: m, r :: k, i + 1, j, h, hi, hj, hm, hk => by
    unfold pairAll at h; rw [Bool.and_eq_true] at h
    have := pairAll_get l m k i j h.2 (by simp at hi; omega) hj (by simp at hm; omega) (by simp at hk; omega)
    rw [show i + 1 + j = i + j + 1 by omega]
    exact this
theorem get_cut (l : List Nat) {n k j : Nat} (h : j < k) : ((l.drop n).take k).getD j 0 = l.getD (n + j) 0 := by
  rw [List.getD_eq_getElem?_getD, List.getD_eq_getElem?_getD, List.getElem?_take_of_lt h, List.getElem?_drop]
theorem get_drop (l : List Nat) (n j : Nat) : (l.drop n).getD j 0 = l.getD (n + j) 0 := by
  rw [List.getD_eq_getElem?_getD, List.getD_eq_getElem?_getD, List.getElem?_drop]
theorem get_map (l : List Nat) (f : Nat → Nat) {j : Nat} (h : j < l.length) : (l.map f).getD j 0 = f (l.getD j 0) := by
  rw [List.getD_eq_getElem?_getD, List.getD_eq_getElem?_getD, List.getElem?_map, List.getElem?_eq_getElem h]; rfl
theorem len_exp : expTab.length = 129 := by decide +kernel
theorem len_wide : wideTab.length = 129 := by decide +kernel
theorem len_rhs : rhsTab.length = 129 := by decide +kernel
theorem len_x : xTab.length = 129 := by decide +kernel
theorem len_log : logTab.length = 65 := by decide +kernel

/-- the k-th number's power -/
def eT (k : Nat) : Nat := expTab.getD k 0
theorem eT_wide {k : Nat} (h : k < 129) : wideTab.getD k 0 = wide (eT k) := by rw [← wide_all]; exact get_map _ _ (by rw [len_exp]; exact h)
theorem eT_rhs {k : Nat} (h : k < 129) : rhsTab.getD k 0 = fop .mul .f64 4562254508917369340 (wide (eT k)) := by
  rw [← rhs_all, get_map _ _ (by rw [len_wide]; exact h), eT_wide h]
theorem exp_ok {k : Nat} (h : k < 129) : expOK ((k : Int) - 64) (eT k) = true := by
  have := expAll_get expTab 0 k exp_all (by rw [len_exp]; exact h)
  rw [Nat.zero_add] at this; exact this
theorem log_ok {k : Nat} (h : k < 65) : logOK ((k : Int) - 32) (eT (32 + k)) (logTab.getD k 0) = true := by
  have := logAll_get (expTab.drop 32) logTab 0 k log_all (by rw [List.length_drop, len_exp]; omega) (by rw [len_log]; exact h)
  rw [Nat.zero_add, get_drop] at this; exact this
theorem x_at {k : Nat} (h : k < 129) : xTab.getD k 0 = xv ((k : Int) - 64) := by
  have := xAll_get xTab 0 k x_all (by rw [len_x]; exact h)
  rw [Nat.zero_add] at this; exact this.symm
theorem sum_ok {i j : Nat} (hi : i < 65) (hj : j < 65) : floatBits .add .f32 (xv ((i : Int) - 32)) (xv ((j : Int) - 32)) = some (xv (((i + j : Nat) : Int) - 64)) := by
  have := sumAll_get (xTab.drop 32 |>.take 65) xTab i j sum_all (by rw [List.length_take, List.length_drop, len_x]; omega) hj (by rw [len_x]; omega)
  rw [get_cut _ hi, get_cut _ hj, x_at (by omega), x_at (by omega), x_at (by omega)] at this
  rw [← this]
  congr 2 <;> omega
theorem pair_ok {i j : Nat} (hi : i < 65) (hj : j < 65) : (FloatKind.f64.format.order (gapF (fop .mul .f64 (wide (eT (32 + i))) (wide (eT (32 + j)))) (wide (eT (i + j)))) (fop .mul .f64 4562254508917369340 (wide (eT (i + j)))) == some .lt) = true := by
  have := pairAll_get (wideTab.drop 32 |>.take 65) wideTab rhsTab i j pair_all (by rw [List.length_take, List.length_drop, len_wide]; omega) hj (by rw [len_wide]; omega) (by rw [len_rhs]; omega)
  rw [get_cut _ hi, get_cut _ hj, eT_wide (by omega), eT_wide (by omega), eT_wide (by omega), eT_rhs (by omega)] at this
  exact this
theorem isW_at {x : Nat} (h : isW x = true) (w : World) : cres .f32 x .f64 w = wide x := cres_some w (eq_of_beq h)
theorem gap_congr {a a' b b' : Nat} (h1 : Sim .f64 a a') (h2 : Sim .f64 b b') : gapF a b = gapF a' b' := by
  unfold gapF; rw [order_congr h1 h2, fop_congr h2 h1, fop_congr h1 h2]

/-! ### the walk -/
theorem b10Gap_any (a b : Nat) (w : World) : Calls Try.prog 15 #[.float .f64 a, .float .f64 b] w fun e w' => ∃ r, e = .returned (.float .f64 r) ∧ Sim .f64 r (gapF a b) ∧ ∃ n, w' = w.drewN n := by
  cases hg : (FloatKind.f64.format.order a b == some .lt) with
  | true =>
    have H := Lib.hid (show gapF a b = fop .sub .f64 b a by unfold gapF; rw [hg]; rfl)
    go_enter Try.func15, Try.ntmps15
    go_wp2
    go_ret
    exact ⟨_, rfl, by rw [H.out]; exact fres_sim .., _, rfl⟩
  | false =>
    have H := Lib.hid (show gapF a b = fop .sub .f64 a b by unfold gapF; rw [hg]; rfl)
    go_enter Try.func15, Try.ntmps15
    go_wp2
    go_ret
    exact ⟨_, rfl, by rw [H.out]; exact fres_sim .., _, rfl⟩
theorem at65 (l : List Int) (hb : ∀ n ∈ l, 0 ≤ n ∧ n ≤ 255) : ∃ v : Nat, v < 65 ∧ laws_b10At.f l 0 65 = some (v : Int) := by
  unfold laws_b10At.f
  rw [if_neg (by decide)]
  by_cases h : (0 : Int) < (l.length : Int)
  · rw [if_pos h, if_pos (by decide), if_neg (by decide)]
    have h1 : rd l 0 ∈ l := by
      unfold rd
      rw [List.getD_eq_getElem?_getD, show (0 : Int).toNat = 0 from rfl, List.getElem?_eq_getElem (by omega)]
      exact List.getElem_mem _
    obtain ⟨h2, h3⟩ := hb _ h1
    have h4 : wrap64 (rd l 0) = rd l 0 := by unfold wrap64; omega
    rw [h4]
    refine ⟨(rd l 0).toNat % 65, Nat.mod_lt _ (by omega), ?_⟩
    rw [Int.tmod_eq_emod_of_nonneg h2]
    congr 1; omega
  · rw [if_neg h, if_neg (by decide)]
    exact ⟨11, by omega, by decide +kernel⟩
theorem wide_tab : expTab.all isW = true := by decide +kernel
theorem wide_eT {k : Nat} (h : k < 129) (w : World) : cres .f32 (eT k) .f64 w = wide (eT k) := by
  refine isW_at ((List.all_eq_true.1 wide_tab) _ ?_) w
  unfold eT
  rw [List.getD_eq_getElem?_getD, List.getElem?_eq_getElem (by rw [len_exp]; exact h)]
  exact List.getElem_mem _
theorem exp_facts {k : Nat} (h : k < 129) : (∀ w, cres .f32 (xv ((k : Int) - 64)) .f64 w = wide (xv ((k : Int) - 64))) ∧ (∀ w, Calls Try.prog 14 #[.float .f32 (xv ((k : Int) - 64))] w fun e w' => e = .returned (.float .f32 (eT k)) ∧ ∃ n, w' = w.drewN n) ∧
    floatBits .quo .f32 (floatOfInt .f32 ((k : Int) - 64)) 1090519040 = some (xv ((k : Int) - 64)) := by
  have := exp_ok h
  unfold expOK at this
  simp only [Bool.and_eq_true, Bool.not_eq_true', beq_iff_eq] at this
  obtain ⟨⟨⟨⟨h1, h2⟩, h3⟩, h4⟩, h5⟩ := this
  have hc := isW_at h1
  exact ⟨hc, ExpNumber_at _ _ _ hc h2 h3 h4, h5⟩
theorem log_facts {k l : Nat} (h : k < 65) (hl : l = logTab.getD k 0) : (∀ w, Calls Try.prog 16 #[.float .f32 (eT (32 + k))] w fun e w' => e = .returned (.float .f32 l) ∧ ∃ n, w' = w.drewN n) ∧ (∀ w, cres .f32 l .f64 w = wide l) ∧
    (∀ w, cres .f32 (eT (32 + k)) .f64 w = wide (eT (32 + k))) ∧ (FloatKind.f32.format.order (eT (32 + k)) 0 == some .gt) = true ∧ (FloatKind.f64.format.order (gapF (wide l) (wide (xv ((k : Int) - 32)))) 4562254508917369340 == some .lt) = true := by
  have := log_ok h
  unfold logOK at this
  simp only [Bool.and_eq_true, Bool.not_eq_true', decide_eq_true_eq] at this
  obtain ⟨⟨⟨⟨⟨⟨⟨⟨⟨⟨h1, h2⟩, h3⟩, h4⟩, h5⟩, h6⟩, h7⟩, h8⟩, h9⟩, h10⟩, h11⟩ := this
  have hc := isW_at h1
  subst hl
  exact ⟨LogNumber_at _ _ _ hc h3 h4 h5 h6 h7 h8 (eq_of_beq h9), isW_at h2, hc, h10, h11⟩
theorem x_zero : xv 0 = 0 := by decide +kernel
theorem e_zero : eT 64 = 1065353216 := by decide +kernel
theorem l_zero : logTab.getD 32 0 = 0 := by decide +kernel

set_option maxHeartbeats 2000000 in
set_option maxRecDepth 100000 in
theorem walk_yes (w : World) (a0 : Option Addr) (cap0 : Nat) (z0 : List Int) (c0 : Kd.C (Kd.int .u8) w a0 z0.length z0) (hc0 : z0.length ≤ cap0) (hb0 : ∀ n ∈ z0, 0 ≤ n ∧ n ≤ 255)
    (a1 : Option Addr) (cap1 : Nat) (z1 : List Int) (c1 : Kd.C (Kd.int .u8) w a1 z1.length z1) (hc1 : z1.length ≤ cap1) (hb1 : ∀ n ∈ z1, 0 ≤ n ∧ n ≤ 255) (hlong : laws_b10Long.f z0 z1 = some false) :
    Calls Try.prog 3 #[.slice a0 z0.length cap0, .slice a1 z1.length cap1] w fun e w' => e = .returned (.bool true) ∧ Below w.heap.size w w' := by
  obtain ⟨v, hv, hvf⟩ := at65 z0 hb0
  obtain ⟨u, hu, huf⟩ := at65 z1 hb1
  have HL := Lib.hid (fun w' (h0 : Kd.C (Kd.int .u8) w' a0 z0.length z0) (h1 : Kd.C (Kd.int .u8) w' a1 z1.length z1) => laws_b10Long.calls a0 cap0 z0 a1 cap1 z1 false w' h0 hc0 h1 hc1 hlong)
  have HV := Lib.hid (fun w' (h0 : Kd.C (Kd.int .u8) w' a0 z0.length z0) => laws_b10At.calls a0 cap0 z0 0 65 v w' h0 hc0 hvf)
  have HU := Lib.hid (fun w' (h1 : Kd.C (Kd.int .u8) w' a1 z1.length z1) => laws_b10At.calls a1 cap1 z1 0 65 u w' h1 hc1 huf)
  have C0 := Lib.hid c0
  have C1 := Lib.hid c1
  clear c0 c1 hc0 hc1 hb0 hb1 hlong hvf huf
  obtain ⟨hcx, hEx, hqx⟩ := exp_facts (k := 32 + v) (by omega)
  obtain ⟨_, hEy, hqy⟩ := exp_facts (k := 32 + u) (by omega)
  obtain ⟨_, hEs, _⟩ := exp_facts (k := v + u) (by omega)
  obtain ⟨_, hE0, _⟩ := exp_facts (k := 64) (by omega)
  obtain ⟨hLa, hcl, hca, hpos, hgap⟩ := log_facts (k := v) hv rfl
  obtain ⟨hL1, _, _, _, _⟩ := log_facts (k := 32) (by omega) rfl
  have hcb := wide_eT (k := 32 + u) (by omega)
  have hcc := wide_eT (k := v + u) (by omega)
  have hpair := pair_ok hv hu
  have hsum := sum_ok hv hu
  rw [show ((32 + v : Nat) : Int) - 64 = (v : Int) - 32 by omega] at hcx hEx hqx
  rw [show ((32 + u : Nat) : Int) - 64 = (u : Int) - 32 by omega] at hEy hqy
  rw [show ((64 : Nat) : Int) - 64 = 0 by omega, x_zero, e_zero] at hE0
  rw [show 32 + 32 = 64 from rfl, e_zero, l_zero] at hL1
  generalize hX : xv ((v : Int) - 32) = x at *
  generalize hY : xv ((u : Int) - 32) = y at *
  generalize hS : xv (((v + u : Nat) : Int) - 64) = s at *
  generalize eT (32 + v) = a at *
  generalize eT (32 + u) = b at *
  generalize eT (v + u) = c at *
  generalize logTab.getD v 0 = l at *
  clear hX hY hS
  have hq1 : ∀ w, fres .quo .f32 (floatOfInt .f32 ((v : Int) - 32)) 1090519040 w = x := fun w => fres_some w hqx
  have hq2 : ∀ w, fres .quo .f32 (floatOfInt .f32 ((u : Int) - 32)) 1090519040 w = y := fun w => fres_some w hqy
  have hs1 : ∀ w, fres .add .f32 x y w = s := fun w => fres_some w hsum
  have HEX := Lib.hid hEx
  have HEY := Lib.hid hEy
  have HES := Lib.hid hEs
  have HE0 := Lib.hid hE0
  have HLA := Lib.hid hLa
  have HL1 := Lib.hid hL1
  have HGAP := Lib.hid hgap
  have HPAIR := Lib.hid hpair
  have h11 : (FloatKind.f32.format.order 1065353216 1065353216 == some .eq) = true := by decide +kernel
  have h00 : (FloatKind.f32.format.order 0 0 == some .eq) = true := by decide +kernel
  generalize wide x = X at *
  generalize wide l = L at *
  generalize wide a = A at *
  generalize wide b = B at *
  generalize wide c = C at *
  clear hEx hEy hEs hE0 hLa hL1 hgap hpair hqx hqy hsum
  have hv2 : (v : Int) ≤ 64 := by omega
  have hu2 : (u : Int) ≤ 64 := by omega
  go_enter Try.func3, Try.ntmps3
  go_wp2_with (fail)
  refine (HL.out _ C0.out C1.out).mono ?_
  rintro e w' ⟨rfl, ⟨n1, rfl⟩⟩
  go_wp2_with (fail)
  refine (HV.out _ (by exact C0.out)).mono ?_
  rintro e w' ⟨rfl, ⟨n2, rfl⟩⟩
  go_wp2_with (fail)
  refine (HU.out _ (by exact C1.out)).mono ?_
  rintro e w' ⟨rfl, ⟨n3, rfl⟩⟩
  go_wp2_with (fail)
  refine (HEX.out _).mono ?_
  rintro e w' ⟨rfl, n4, rfl⟩
  go_wp2_with (fail)
  refine (HEY.out _).mono ?_
  rintro e w' ⟨rfl, n5, rfl⟩
  go_wp2_with (fail)
  refine (HES.out _).mono ?_
  rintro e w' ⟨rfl, n6, rfl⟩
  go_wp2_with (fail)
  refine (HLA.out _).mono ?_
  rintro e w' ⟨rfl, n7, rfl⟩
  go_wp2_with (fail)
  refine (b10Gap_any _ _ _).mono ?_
  rintro e w' ⟨r1, rfl, hr1, n8, rfl⟩
  have g1 : (FloatKind.f64.format.order r1 4562254508917369340 == some .lt) = true := by rw [order_congr hr1 (Sim.refl ..)]; exact HGAP.out
  clear hr1
  go_wp2_with (fail)
  refine (b10Gap_any _ _ _).mono ?_
  rintro e w' ⟨r2, rfl, hr2, n9, rfl⟩
  have g2 : (FloatKind.f64.format.order r2 (fop .mul .f64 4562254508917369340 C) == some .lt) = true := by
    rw [order_congr hr2 (Sim.refl ..), gap_congr (fres_sim ..) (Sim.refl ..)]; exact HPAIR.out
  clear hr2
  go_wp2_with (fail)
  refine (HE0.out _).mono ?_
  rintro e w' ⟨rfl, n10, rfl⟩
  go_wp2_with (fail)
  refine (HL1.out _).mono ?_
  rintro e w' ⟨rfl, n11, rfl⟩
  go_wp2
  go_ret
  exact ⟨rfl, by repeat (first | exact Below.refl _ _ | apply below_drewN)⟩

theorem walk (w : World) (a0 : Option Addr) (len0 cap0 : Nat) (z0 : List Int) (c0 : Kd.C (Kd.int .u8) w a0 len0 z0) (w0 : z0.length = len0 ∧ len0 ≤ cap0 ∧ ∀ n ∈ z0, 0 ≤ n ∧ n ≤ 255)
    (a1 : Option Addr) (len1 cap1 : Nat) (z1 : List Int) (c1 : Kd.C (Kd.int .u8) w a1 len1 z1) (w1 : z1.length = len1 ∧ len1 ≤ cap1 ∧ ∀ n ∈ z1, 0 ≤ n ∧ n ≤ 255) :
    Calls Try.prog 3 #[.slice a0 len0 cap0, .slice a1 len1 cap1] w fun e w' => e = .returned (.bool true) ∧ Below w.heap.size w w' := by
  obtain ⟨rfl, hc0, hb0⟩ := w0
  obtain ⟨rfl, hc1, hb1⟩ := w1
  obtain ⟨r, hr⟩ : ∃ r, laws_b10Long.f z0 z1 = some r := by unfold laws_b10Long.f; split <;> exact ⟨_, rfl⟩
  cases r with
  | false => exact walk_yes w a0 cap0 z0 c0 hc0 hb0 a1 cap1 z1 c1 hc1 hb1 hr
  | true =>
    have HL := Lib.hid (laws_b10Long.calls a0 cap0 z0 a1 cap1 z1 true w c0 hc0 c1 hc1 hr)
    clear c0 c1 hc0 hc1 hb0 hb1 hr
    go_enter Try.func3, Try.ntmps3
    go_wp2_with (fail)
    refine HL.out.mono ?_
    rintro e w' ⟨rfl, ⟨n1, rfl⟩⟩
    go_wp2
    go_ret
    exact ⟨rfl, below_drewN (Below.refl _ _) _⟩

theorem own : ownKnob Try.prog.godebug = none := by kernel_rfl

theorem laidOut : laidOutB Try.prog = true := by kernel_rfl

set_option maxRecDepth 100000 in
theorem lifted (os : Os) (started : os.Started) (H : Type) (enc : TypeId × Value → H) :
    ReturnsInHanded {} Try.checked os 3 .any (Rows.fnPowersSpec.pre6 enc Try.prog Try.f3 Rows.fnPowersRow.domain false) (Rows.fnPowersSpec.post enc Try.prog Try.f3 false true false false) := by
  refine returnsInHanded_of_change (C := Try.checked) own started (by kernel_rfl) Try.func3
    (ChangeSpec.witness6 (enc := enc) (C := Try.checked) false ⟨#[], #[.slice none 0 0, .slice none 0 0], []⟩ 8 (by kernel_rfl) (by kernel_rfl) (by kernel_rfl) (by kernel_rfl)) ?_
  intro W base args ds gs before hval0 hW _ _
  have hval : ∀ (j : Nat) t v, Try.f3.params[j]? = some t → args[j]? = some v → Value.okWide Try.prog W .any base t v := hval0
  have hW' := hW
  obtain ⟨p, q, hA0, hV, rfl, _, _⟩ := hW
  have hA : DataW.TrodAll enc Try.prog W 0 (fun _ => true) true Try.f3.params.toList args.toList ds p := hA0
  rw [Try.params3] at hA hval
  obtain ⟨v0, vs0, d0, ds0, p0, q0, hargs, rfl, rfl, h0, r0⟩ := trodAll_cons hA
  obtain ⟨v1, vs1, d1, ds1, p1, q1, rfl, rfl, rfl, h1, r1⟩ := trodAll_cons r0
  obtain ⟨rfl, rfl, rfl⟩ := trodAll_nil r1
  obtain rfl : args = #[v0, v1] := by cases args; simp_all
  obtain ⟨rfl, rfl⟩ := trodVars_none hV
  obtain ⟨a0, len0, cap0, rfl⟩ := okWide_slice Try.underlying22 (hval 0 22 v0 rfl rfl)
  have k0 := h0
  have lt0 : ∀ x ∈ p0, x.block < W.heap.size := by obtain ⟨m, hm⟩ := k0; exact DataW.trod_lt m _ _ _ hm
  obtain ⟨z0, c0, w0⟩ := open_u8s Try.underlying22 Try.underlying5 (by kernel_rfl) h0
  obtain ⟨a1, len1, cap1, rfl⟩ := okWide_slice Try.underlying22 (hval 1 22 v1 rfl rfl)
  have k1 := h1
  have lt1 : ∀ x ∈ p1, x.block < W.heap.size := by obtain ⟨m, hm⟩ := k1; exact DataW.trod_lt m _ _ _ hm
  obtain ⟨z1, c1, w1⟩ := open_u8s Try.underlying22 Try.underlying5 (by kernel_rfl) h1
  clear hA0 hval0
  simp only [List.append_nil] at hW'
  refine (walk W a0 len0 cap0 z0 c0 w0 a1 len1 cap1 z1 c1 w1).mono fun e W' ⟨he, bel⟩ => ?_
  subst he
  exact ⟨_, rfl, _, _, _, [], _, [], hW', trodAll_mk1 (shut_bool Try.underlying4 _), (trodAll_cons_mk (Below.trod laidOut (by kernel_rfl) (of_decide_eq_true (by kernel_rfl)) k0 bel lt0) (trodAll_cons_mk (Below.trod laidOut (by kernel_rfl) (of_decide_eq_true (by kernel_rfl)) k1 bel lt1) trodAll_mk0)), rfl, bel.frame _, fun h => by cases h⟩

theorem over : Rows.fnPowersRow.holds Try.pinned (OpenSpec.ofChange Rows.fnPowersSpec) :=
  OpenClaim.holds_of_wide 3 Try.f3 rfl rfl rfl rfl rfl rfl rfl ⟨rfl, rfl, rfl, rfl, rfl⟩ rfl rfl rfl rfl rfl (by kernel_rfl) Try.func3 (by kernel_rfl)
    (of_decide_eq_true (by kernel_rfl)) (by unfold Func.isWrapper; first | (rw [if_pos (by decide +kernel)]; kernel_rfl) | (rw [if_neg (by decide +kernel)]; exact ⟨rfl, rfl⟩))
    (fun os started H enc _ => lifted os started H enc)

theorem proved : Rows.FnPowersSaid :=
  over
#print axioms proved
end Go.Proofs.Ytpjgodeabdcdcaa.fnPowers
