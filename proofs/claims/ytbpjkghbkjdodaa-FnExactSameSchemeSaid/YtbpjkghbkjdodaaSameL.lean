/- Lists of float32 numbers that are the same: the program's sameNumbers and the reference's l01SameAll, for all arguments. -/
import Derived.Test.YtbpjkghbkjdodaaSameI
import Derived.Test.YtbpjkghbkjdodaaRowF
namespace Go.Proofs.Ytbpjkghbkjdodaa
open Go.RowKit Go.Proofs.YtbpjkghbkjdodaaW.PrintWords Go.Proofs.YtbpjkghbkjdodaaW.PrintLast Fl

/-- the same numbers, position by position -/
def sameLB (l m : List Nat) : Bool := decide (l.length = m.length) && (List.range l.length).all fun i => sameB (l.getD i 0) (m.getD i 0)
theorem sameLB_len {l m : List Nat} (h : l.length ≠ m.length) : sameLB l m = false := by unfold sameLB; rw [decide_eq_false h]; rfl
theorem sameLB_no {l m : List Nat} {j : Nat} (hj : j < l.length) (h : sameB (l.getD j 0) (m.getD j 0) = false) : sameLB l m = false := by
  unfold sameLB
  rw [show ((List.range l.length).all fun i => sameB (l.getD i 0) (m.getD i 0)) = false from List.all_eq_false.2 ⟨j, List.mem_range.2 hj, by rw [h]; simp⟩, Bool.and_false]
theorem sameLB_yes {l m : List Nat} (hl : l.length = m.length) (h : ∀ j, j < l.length → sameB (l.getD j 0) (m.getD j 0) = true) : sameLB l m = true := by
  unfold sameLB
  rw [decide_eq_true hl, Bool.true_and, List.all_eq_true]
  intro j hj
  exact h j (List.mem_range.1 hj)
theorem sofar {P : Nat → Prop} {j : Nat} (h : ∀ i, i < j → P i) (hj : P j) : ∀ i, i < j + 1 → P i := fun i hi => by
  rcases Nat.lt_or_ge i j with g | g
  · exact h i g
  · obtain rfl : i = j := by omega
    exact hj
theorem l01Same_draws (a b : Nat) (ha : a < 4294967296) (hb : b < 4294967296) (w : World) : Calls Try.prog 82 #[.float .f32 a, .float .f32 b] w fun e w' => e = .returned (.bool (sameB a b)) ∧ ∃ n, w' = w.drewN n :=
  (l01Same_any a b ha hb w).mono fun _ _ ⟨h, e⟩ => ⟨h, 0, e.symm⟩

set_option maxHeartbeats 1000000 in
set_option maxRecDepth 100000 in
theorem l01SameAll_any (A B : Option Addr) (c d : Nat) (l m : List Nat) (w : World) (hr0 : FK.C w A l.length l) (hr1 : FK.C w B m.length m) (hl : All32 l) (hm : All32 m) :
    Calls Try.prog 81 #[.slice A l.length c, .slice B m.length d] w fun e w' => e = .returned (.bool (sameLB l m)) ∧ ∃ n, w' = w.drewN n := by
  have HR0 := Aside0.mk hr0
  have HR1 := Aside0.mk hr1
  have hmx := Kd.C_max hr0
  have hmy := Kd.C_max hr1
  have HL := Aside0.mk hl
  have HM := Aside0.mk hm
  clear hr0 hr1 hl hm
  by_cases he : l.length = m.length
  · have HE := Aside0.mk he
    obtain ⟨n, hn⟩ : ∃ n, n = l.length := ⟨_, rfl⟩
    have HN := Aside0.mk hn
    rw [← he] at HR1 ⊢
    rw [← hn] at HR0 HR1 hmx ⊢
    clear hn he hmy
    go_enter Try.func81, Try.ntmps81
    go_wp2
    go_loopw [5] (fun v5 w' => ∃ j : Nat, v5 = .int .i64 j ∧ Aside0 (j ≤ n) ∧ Aside0 (∀ i, i < j → sameB (l.getD i 0) (m.getD i 0) = true) ∧ Aside0 (∃ k, w' = w.drewN k)) (fun v5 _ => n - (intOf v5).toNat)
    case atStart => exact ⟨0, rfl, ⟨by omega⟩, ⟨fun i hi => by omega⟩, ⟨0, rfl⟩⟩
    case round =>
      obtain ⟨j, rfl, HJ, HS, HK⟩ := hrel
      by_cases hlt : j < n
      · obtain ⟨ad, ea, hx⟩ := at_f32 HR0.out j hlt
        obtain ⟨bd, eb, hy⟩ := at_f32 HR1.out j hlt
        subst ea eb
        replace hx : wr.cell? (ad.add j) = some (.float .f32 (l.getD j 0)) := by obtain ⟨k, e⟩ := HK.out; rw [e]; exact hx
        replace hy : wr.cell? (bd.add j) = some (.float .f32 (m.getD j 0)) := by obtain ⟨k, e⟩ := HK.out; rw [e]; exact hy
        have hx32 := All32.at_ HL.out j
        have hy32 := All32.at_ HM.out j
        obtain ⟨b, hb⟩ : ∃ b, sameB (l.getD j 0) (m.getD j 0) = b := ⟨_, rfl⟩
        have HB := Aside0.mk hb
        clear hb
        generalize hX : l.getD j 0 = x at *
        generalize hY : m.getD j 0 = y at *
        have HX := Aside0.mk hX
        have HY := Aside0.mk hY
        clear hX hY
        have hC : Aside0 (∀ W, Calls Try.prog 82 #[.float .f32 x, .float .f32 y] W fun e w' => e = .returned (.bool b) ∧ ∃ n, w' = W.drewN n) := ⟨fun W => by rw [← HB.out]; exact l01Same_draws x y hx32 hy32 W⟩
        clear hx32 hy32
        cases b
        · go_wp2_with fail
          go_quiet ((go_at_call 82; exact Calls.quiet_of (hC.out _)))
          go_wp2
          go_ret
          exact ⟨ret_bool (sameLB_no (j := j) (by rw [← HN.out]; exact hlt) (by rw [HX.out, HY.out]; exact HB.out)).symm, by obtain ⟨k, e⟩ := HK.out; exact ⟨_, by rw [e, World.drewN_drewN]⟩⟩
        · go_wp2_with fail
          go_quiet ((go_at_call 82; exact Calls.quiet_of (hC.out _)))
          go_wp2
          go_roundw
          case rel => exact ⟨j + 1, by go_num, ⟨by omega⟩, ⟨sofar HS.out (by rw [HX.out, HY.out]; exact HB.out)⟩, ⟨by obtain ⟨k, e⟩ := HK.out; exact ⟨_, by rw [e, World.drewN_drewN]⟩⟩⟩
          case measure => simp [intOf]; omega
      · obtain rfl : j = n := by have := HJ.out; omega
        go_wp2
        go_ret
        exact ⟨ret_bool (sameLB_yes HE.out (fun i hi => HS.out i (by rw [HN.out]; exact hi))).symm, HK.out⟩
  · have hne : ((l.length : Int) == (m.length : Int)) = false := by simp; omega
    have hne2 : ((l.length : Int) != (m.length : Int)) = true := by simp; omega
    have HE := Aside0.mk he
    clear he
    go_enter Try.func81, Try.ntmps81
    go_wp2
    go_ret
    exact ⟨ret_bool (sameLB_len HE.out).symm, 0, rfl⟩

set_option maxHeartbeats 1000000 in
set_option maxRecDepth 100000 in
theorem sameNumbers_any (A B : Option Addr) (c d : Nat) (l m : List Nat) (w : World) (hr0 : FK.C w A l.length l) (hr1 : FK.C w B m.length m) (hl : All32 l) (hm : All32 m) :
    Calls Try.prog 58 #[.slice A l.length c, .slice B m.length d] w fun e w' => e = .returned (.bool (sameLB l m)) ∧ ∃ n, w' = w.drewN n := by
  have HR0 := Aside0.mk hr0
  have HR1 := Aside0.mk hr1
  have hmx := Kd.C_max hr0
  have hmy := Kd.C_max hr1
  have HL := Aside0.mk hl
  have HM := Aside0.mk hm
  clear hr0 hr1 hl hm
  by_cases he : l.length = m.length
  · have HE := Aside0.mk he
    obtain ⟨n, hn⟩ : ∃ n, n = l.length := ⟨_, rfl⟩
    have HN := Aside0.mk hn
    rw [← he] at HR1 ⊢
    rw [← hn] at HR0 HR1 hmx ⊢
    clear hn he hmy
    go_enter Try.func58, Try.ntmps58
    go_wp2
    go_loopw [13] (fun v5 w' => ∃ j : Nat, v5 = .int .i64 j ∧ Aside0 (j ≤ n) ∧ Aside0 (∀ i, i < j → sameB (l.getD i 0) (m.getD i 0) = true) ∧ Aside0 (∃ k, w' = w.drewN k)) (fun v5 _ => n - (intOf v5).toNat)
    case atStart => exact ⟨0, rfl, ⟨by omega⟩, ⟨fun i hi => by omega⟩, ⟨0, rfl⟩⟩
    case round =>
      obtain ⟨j, rfl, HJ, HS, HK⟩ := hrel
      by_cases hlt : j < n
      · obtain ⟨ad, ea, hx⟩ := at_f32 HR0.out j hlt
        obtain ⟨bd, eb, hy⟩ := at_f32 HR1.out j hlt
        subst ea eb
        replace hx : wr.cell? (ad.add j) = some (.float .f32 (l.getD j 0)) := by obtain ⟨k, e⟩ := HK.out; rw [e]; exact hx
        replace hy : wr.cell? (bd.add j) = some (.float .f32 (m.getD j 0)) := by obtain ⟨k, e⟩ := HK.out; rw [e]; exact hy
        have hx32 := All32.at_ HL.out j
        have hy32 := All32.at_ HM.out j
        obtain ⟨b, hb⟩ : ∃ b, sameB (l.getD j 0) (m.getD j 0) = b := ⟨_, rfl⟩
        have HB := Aside0.mk hb
        clear hb
        generalize hX : l.getD j 0 = x at *
        generalize hY : m.getD j 0 = y at *
        have HX := Aside0.mk hX
        have HY := Aside0.mk hY
        clear hX hY
        have hC : Aside0 (∀ W, Calls Try.prog 59 #[.float .f32 x, .float .f32 y] W fun e w' => e = .returned (.bool b) ∧ ∃ n, w' = W.drewN n) := ⟨fun W => by rw [← HB.out]; exact SameNumber_any x y hx32 hy32 W⟩
        clear hx32 hy32
        cases b
        · go_wp2_with fail
          go_quiet ((go_at_call 59; exact Calls.quiet_of (hC.out _)))
          go_wp2
          go_ret
          exact ⟨ret_bool (sameLB_no (j := j) (by rw [← HN.out]; exact hlt) (by rw [HX.out, HY.out]; exact HB.out)).symm, by obtain ⟨k, e⟩ := HK.out; exact ⟨_, by rw [e, World.drewN_drewN]⟩⟩
        · go_wp2_with fail
          go_quiet ((go_at_call 59; exact Calls.quiet_of (hC.out _)))
          go_wp2
          go_roundw
          case rel => exact ⟨j + 1, by go_num, ⟨by omega⟩, ⟨sofar HS.out (by rw [HX.out, HY.out]; exact HB.out)⟩, ⟨by obtain ⟨k, e⟩ := HK.out; exact ⟨_, by rw [e, World.drewN_drewN]⟩⟩⟩
          case measure => simp [intOf]; omega
      · obtain rfl : j = n := by have := HJ.out; omega
        go_wp2
        go_ret
        exact ⟨ret_bool (sameLB_yes HE.out (fun i hi => HS.out i (by rw [HN.out]; exact hi))).symm, HK.out⟩
  · have hne : ((l.length : Int) == (m.length : Int)) = false := by simp; omega
    have hne2 : ((l.length : Int) != (m.length : Int)) = true := by simp; omega
    have HE := Aside0.mk he
    clear he
    go_enter Try.func58, Try.ntmps58
    go_wp2
    go_ret
    exact ⟨ret_bool (sameLB_len HE.out).symm, 0, rfl⟩
end Go.Proofs.Ytbpjkghbkjdodaa
