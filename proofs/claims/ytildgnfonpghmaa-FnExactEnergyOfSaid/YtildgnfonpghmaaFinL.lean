/- Lists of finite float32 numbers: the reference's l02Finite and the program's areFinite, for all arguments. -/
import Derived.Test.YtildgnfonpghmaaFin
import Derived.Test.YtildgnfonpghmaaRowF
namespace Go.Proofs.Ytildgnfonpghmaa
open Go.RowKit Go.Proofs.YtildgnfonpghmaaW.PrintWords Go.Proofs.YtildgnfonpghmaaW.PrintLast Fl

def finL (l : List Nat) : Bool := l.all finB
theorem upto_succ {P : Nat → Prop} {j : Nat} (h : ∀ i, i < j → P i) (hj : P j) : ∀ i, i < j + 1 → P i := fun i hi => by
  rcases Nat.lt_or_ge i j with g | g
  · exact h i g
  · obtain rfl : i = j := by omega
    exact hj
theorem finL_no {l : List Nat} {j : Nat} (hj : j < l.length) (h : finB (l.getD j 0) = false) : finL l = false := by
  unfold finL
  rw [List.all_eq_false]
  rw [List.getD_eq_getElem?_getD, List.getElem?_eq_getElem hj] at h
  exact ⟨_, List.getElem_mem hj, by rw [show finB l[j] = false from h]; simp⟩
theorem finL_yes {l : List Nat} (h : ∀ j, j < l.length → finB (l.getD j 0) = true) : finL l = true := by
  unfold finL
  rw [List.all_eq_true]
  intro x hx
  obtain ⟨j, hj, rfl⟩ := List.mem_iff_getElem.1 hx
  have := h j hj
  rwa [List.getD_eq_getElem?_getD, List.getElem?_eq_getElem hj] at this

set_option maxHeartbeats 1000000 in
set_option maxRecDepth 100000 in
theorem l02Finite_any (A : Option Addr) (c : Nat) (l : List Nat) (w : World) (hr0 : FK.C w A l.length l) :
    Calls Try.prog 15 #[.slice A l.length c] w fun e w' => e = .returned (.bool (finL l)) ∧ ∃ n, w' = w.drewN n := by
  have HR0 := Aside0.mk hr0
  have hmx := Kd.C_max hr0
  clear hr0
  obtain ⟨n, hn⟩ : ∃ n, n = l.length := ⟨_, rfl⟩
  have HN := Aside0.mk hn
  rw [← hn] at HR0 hmx ⊢
  clear hn
  go_enter Try.func15, Try.ntmps15
  go_wp2
  go_loopw [3] (fun v3 w' => ∃ j : Nat, v3 = .int .i64 j ∧ Aside0 (j ≤ n) ∧ Aside0 (∀ i, i < j → finB (l.getD i 0) = true) ∧ Aside0 (∃ k, w' = w.drewN k)) (fun v3 _ => n - (intOf v3).toNat)
  case atStart => exact ⟨0, rfl, ⟨by omega⟩, ⟨fun i hi => by omega⟩, ⟨0, rfl⟩⟩
  case round =>
    obtain ⟨j, rfl, HJ, HS, HK⟩ := hrel
    by_cases hlt : j < n
    · obtain ⟨ad, ea, hx⟩ := at_f32 HR0.out j hlt
      subst ea
      replace hx : wr.cell? (ad.add j) = some (.float .f32 (l.getD j 0)) := by obtain ⟨k, e⟩ := HK.out; rw [e]; exact hx
      obtain ⟨b, hb⟩ : ∃ b, finB (l.getD j 0) = b := ⟨_, rfl⟩
      have HB := Aside0.mk hb
      clear hb
      generalize hX : l.getD j 0 = x at *
      have HX := Aside0.mk hX
      clear hX
      go_wp2_with fail
      refine (l01Finite_any x _).mono ?_
      rw [HB.out]
      rintro e w' ⟨rfl, nd, rfl⟩
      cases b
      · go_wp2
        go_ret
        exact ⟨ret_bool (finL_no (j := j) (by rw [← HN.out]; exact hlt) (by rw [HX.out]; exact HB.out)).symm, by obtain ⟨k, e⟩ := HK.out; exact ⟨_, by rw [e, World.drewN_drewN]⟩⟩
      · go_wp2
        go_roundw
        case rel => exact ⟨j + 1, by go_num, ⟨by omega⟩, ⟨upto_succ HS.out (by rw [HX.out]; exact HB.out)⟩, ⟨by obtain ⟨k, e⟩ := HK.out; exact ⟨_, by rw [e, World.drewN_drewN]⟩⟩⟩
        case measure => simp [intOf]; omega
    · obtain rfl : j = n := by have := HJ.out; omega
      go_wp2
      go_ret
      exact ⟨ret_bool (finL_yes (fun i hi => HS.out i (by rw [HN.out]; exact hi))).symm, HK.out⟩

/-- a row of rows of float32 -/
abbrev LK : Kd (List Nat) := Kd.slice 23 FK
theorem at_row {w : World} {A : Option Addr} {n : Nat} {ls : List (List Nat)} (h : LK.C w A n ls) (i : Nat) (h1 : i < n) :
    ∃ ad B d, A = some ad ∧ w.cell? (ad.add i) = some (.slice B (ls.getD i []).length d) ∧ FK.C w B (ls.getD i []).length (ls.getD i []) := by
  obtain ⟨ad, c, e, hl, ⟨B, d, hc, _, hC⟩, hcell⟩ := Kd.C_get h [] (i : Int) (by omega) (by omega)
  rw [Int.toNat_natCast] at hc hC hcell
  refine ⟨ad, B, d, e, ?_, hC⟩
  have := hcell 0 (.slice B (ls.getD i []).length d) (by rw [hc]; rfl)
  simpa [Kd.slice] using this
theorem one_row {w : World} {B : Option Addr} {n d : Nat} {l : List Nat} {g : Addr} (hC : FK.C w B n l) (hd : n ≤ d) (hc : w.cell? g = some (.slice B n d)) : LK.C w (some g) 1 [l] := by
  obtain rfl := Kd.C_len hC
  refine ⟨rfl, by omega, fun _ => ⟨g, rfl, fun j p hj => ?_⟩⟩
  have hj0 : j = 0 ∧ p = l := by
    rcases j with _ | j
    · exact ⟨rfl, by simpa using hj.symm⟩
    · simp at hj
  obtain ⟨rfl, rfl⟩ := hj0
  refine ⟨[.slice B p.length d], rfl, ⟨B, d, rfl, hd, hC⟩, fun i u hu => ?_⟩
  rcases i with _ | i
  · have : Value.slice B p.length d = u := by simpa using hu
    subst this
    simpa [Addr.add] using hc
  · simp at hu

theorem all_no {ls : List (List Nat)} {j : Nat} (hj : j < ls.length) (h : finL (ls.getD j []) = false) : ls.all finL = false := by
  rw [List.all_eq_false]
  rw [List.getD_eq_getElem?_getD, List.getElem?_eq_getElem hj] at h
  exact ⟨_, List.getElem_mem hj, by rw [show finL ls[j] = false from h]; simp⟩
theorem all_yes {ls : List (List Nat)} (h : ∀ j, j < ls.length → finL (ls.getD j []) = true) : ls.all finL = true := by
  rw [List.all_eq_true]
  intro x hx
  obtain ⟨j, hj, rfl⟩ := List.mem_iff_getElem.1 hx
  have := h j hj
  rwa [List.getD_eq_getElem?_getD, List.getElem?_eq_getElem hj] at this

set_option maxHeartbeats 1000000 in
set_option maxRecDepth 100000 in
theorem areFinite_any (A : Option Addr) (c : Nat) (ls : List (List Nat)) (w : World) (hr0 : LK.C w A ls.length ls) :
    Calls Try.prog 18 #[.slice A ls.length c] w fun e w' => e = .returned (.bool (ls.all finL)) ∧ ∃ n, w' = w.drewN n := by
  have HR0 := Aside0.mk hr0
  have hmx := Kd.C_max hr0
  clear hr0
  obtain ⟨n, hn⟩ : ∃ n, n = ls.length := ⟨_, rfl⟩
  have HN := Aside0.mk hn
  rw [← hn] at HR0 hmx ⊢
  clear hn
  go_enter Try.func18, Try.ntmps18
  go_wp2
  go_loopw [9] (fun v3 w' => ∃ j : Nat, v3 = .int .i64 j ∧ Aside0 (j ≤ n) ∧ Aside0 (∀ i, i < j → finL (ls.getD i []) = true) ∧ Aside0 (∃ k, w' = w.drewN k)) (fun v3 _ => n - (intOf v3).toNat)
  case atStart => exact ⟨0, rfl, ⟨by omega⟩, ⟨fun i hi => by omega⟩, ⟨0, rfl⟩⟩
  case round =>
    obtain ⟨j, rfl, HJ, HS, HK⟩ := hrel
    by_cases hlt : j < n
    · obtain ⟨ad, B, d, ea, hx, hrow⟩ := at_row HR0.out j hlt
      subst ea
      obtain ⟨wo, rfl⟩ : ∃ wo : World, wo = wr := ⟨_, rfl⟩
      replace hx : wo.cell? (ad.add j) = some (.slice B (ls.getD j []).length d) := by obtain ⟨k, e⟩ := HK.out; rw [e]; exact hx
      have hmx2 := Kd.C_max hrow
      have HROW := Aside0.mk hrow
      clear hrow
      generalize hL : ls.getD j [] = l at *
      have HL := Aside0.mk hL
      clear hL
      obtain ⟨m, hm⟩ : ∃ m, m = l.length := ⟨_, rfl⟩
      have HM := Aside0.mk hm
      rw [← hm] at HROW hx hmx2
      clear hm
      go_wp2
      go_loopw [15] (fun v3 w' => ∃ i : Nat, v3 = .int .i64 i ∧ Aside0 (i ≤ m) ∧ Aside0 (∀ q, q < i → finB (l.getD q 0) = true) ∧ Aside0 (∃ k, w' = w.drewN k)) (fun v3 _ => m - (intOf v3).toNat)
      case atStart => exact ⟨0, rfl, ⟨by omega⟩, ⟨fun i hi => by omega⟩, HK⟩
      case round =>
        obtain ⟨i, rfl, HJ2, HS2, HK2⟩ := hrel
        by_cases hlt2 : i < m
        · obtain ⟨bd, eb, hy⟩ := at_f32 HROW.out i hlt2
          subst eb
          replace hy : wr.cell? (bd.add i) = some (.float .f32 (l.getD i 0)) := by obtain ⟨k, e⟩ := HK2.out; rw [e]; exact hy
          obtain ⟨b, hb⟩ : ∃ b, finB (l.getD i 0) = b := ⟨_, rfl⟩
          have HB := Aside0.mk hb
          clear hb
          generalize hX : l.getD i 0 = x at *
          have HX := Aside0.mk hX
          clear hX
          go_wp2_with fail
          refine (IsFinite_any x _).mono ?_
          rw [HB.out]
          rintro e w' ⟨rfl, nd, rfl⟩
          cases b
          · go_wp2
            go_ret
            have hl : finL l = false := finL_no (j := i) (by rw [← HM.out]; exact hlt2) (by rw [HX.out]; exact HB.out)
            exact ⟨ret_bool (all_no (j := j) (by rw [← HN.out]; exact hlt) (by rw [HL.out]; exact hl)).symm, by obtain ⟨k, e⟩ := HK2.out; exact ⟨_, by rw [e, World.drewN_drewN]⟩⟩
          · go_wp2
            go_roundw
            case rel => exact ⟨i + 1, by go_num, ⟨by omega⟩, ⟨upto_succ HS2.out (by rw [HX.out]; exact HB.out)⟩, ⟨by obtain ⟨k, e⟩ := HK2.out; exact ⟨_, by rw [e, World.drewN_drewN]⟩⟩⟩
            case measure => simp [intOf]; omega
        · obtain rfl : i = m := by have := HJ2.out; omega
          have HF : Aside0 (finL l = true) := ⟨finL_yes (fun q hq => HS2.out q (by rw [HM.out]; exact hq))⟩
          go_wp2
          go_roundw
          case rel => exact ⟨j + 1, by go_num, ⟨by omega⟩, ⟨upto_succ HS.out (by rw [HL.out]; exact HF.out)⟩, HK2⟩
          case measure => simp [intOf]; omega
    · obtain rfl : j = n := by have := HJ.out; omega
      go_wp2
      go_ret
      exact ⟨ret_bool (all_yes (fun i hi => HS.out i (by rw [HN.out]; exact hi))).symm, HK.out⟩
end Go.Proofs.Ytildgnfonpghmaa
