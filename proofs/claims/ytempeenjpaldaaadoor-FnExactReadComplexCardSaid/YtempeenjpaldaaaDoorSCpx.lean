/- The machine side and the plain law of reading texts of complex numbers. -/
import Derived.Test.YtempeenjpaldaaaDoorLaid
import Derived.Test.YtempeenjpaldaaaDoorSNum1
import Derived.Test.YtempeenjpaldaaaDoorLaid3
import Derived.Test.YtempeenjpaldaaaDoorSNum2
import Derived.Test.YtempeenjpaldaaaDoorSame
import Derived.Test.YtempeenjpaldaaaDoorOps
import Derived.Test.YtempeenjpaldaaaDoorChecked
import Derived.Test.YtempeenjpaldaaaDoorEqF
import Derived.Test.YtempeenjpaldaaaDoorMarkF
import Derived.Test.YtempeenjpaldaaaDoorPNum
namespace Go.Proofs.YtempeenjpaldaaaDoor.SNum
open Go.ChangeShapes Go.WideShapes Go.ChangeAt Go.RowKit
/-- the library's table -/
def bjTab : List Int := [0, 1, 56, 2, 57, 49, 28, 3, 61, 58, 42, 50, 38, 29, 17, 4, 62, 47, 59, 36, 45, 43, 51, 22, 53, 39, 33, 30, 24, 18, 12, 5, 63, 55, 48, 27, 60, 41, 37, 16, 46, 35, 44, 21, 52, 32, 23, 11, 54, 26, 40, 15, 34, 20, 31, 10, 25, 14, 19, 9, 13, 8, 7, 6]
theorem bj_is : (Rows.laid_math_bits_deBruijn64tab : DataW Unit) = Lib.tabData .u8 bjTab := rfl
theorem th_of_head {rest : List (String × DataW Unit)} {W : World} (h : laidMet Tryd.prog (("math/bits.deBruijn64tab", Rows.laid_math_bits_deBruijn64tab) :: rest) W) : TH W := by
  rw [bj_is] at h
  have ht : Lib.TabIs Tryd.prog W "math/bits.deBruijn64tab" .u8 bjTab := Lib.tabIs_of_head (g := 6) (t := 138) (e := 5) (n := 64) (by kernel_rfl) (by kernel_rfl) Tryd.underlying138 Tryd.underlying5 (by kernel_rfl) (by kernel_rfl) h
  have hc := ht.cell (by kernel_rfl : Tryd.prog.globalNamed "math/bits.deBruijn64tab" = some 6) 15 (by decide)
  exact hc
theorem laid_gives_FnExactNumbersText {W : World} (h : laidMetH Tryd.prog Rows.fnExactNumbersTextRow.laid W) (_ : W.ShapedOpen Tryd.prog) : TH W := by
  rw [MakeChecks.laidMetH_plain _ _ _ (by kernel_rfl)] at h
  exact th_of_head h.tail
end Go.Proofs.YtempeenjpaldaaaDoor.SNum

namespace Go.Proofs.YtempeenjpaldaaaDoor.SNum
open Go.ChangeShapes Go.WideShapes Go.ChangeAt Go.RowKit Go.Proofs.YtempeenjpaldaaaDoor.SDec
theorem laid_gives_FnExactReadNumbers {W : World} (h : laidMetH Tryd.prog Rows.fnExactReadNumbersRow.laid W) (hS : W.ShapedOpen Tryd.prog) : TR W := by
  rw [MakeChecks.laidMetH_plain _ _ _ (by kernel_rfl)] at h
  have h5 := h.tail.tail.tail.tail
  obtain ⟨b, t, h2, -, -, -⟩ := laid_sentinel (g := 2) (ti := 65) (tp := 134) (te := 136) (ts := 9) h5.tail (by kernel_rfl) (by kernel_rfl) Tryd.underlying65 row134 Tryd.underlying134 Tryd.underlying136 rfl rfl Tryd.underlying9 (by kernel_rfl) (by kernel_rfl)
  have h3 := World.var?_cell (by kernel_rfl : Tryd.prog.globalNamed "strconv.ErrSyntax" = some 2) h2 0
  exact ⟨th_of_head h.tail, ⟨_, _, by simpa using h3⟩, maxLen_of hS⟩
end Go.Proofs.YtempeenjpaldaaaDoor.SNum

namespace Go.Proofs.YtempeenjpaldaaaDoor.SCpx
open Go.RowKit Go.Proofs.YtempeenjpaldaaaDoorW.PrintWords Go.Proofs.YtempeenjpaldaaaDoorW.PrintLast Go.Proofs.YtempeenjpaldaaaDoorW.PrintMore
attribute [local go_sem] max2_int min2_int max_two min_two max_three min_three max_four min_four   -- for this text's walks alone
set_option linter.unusedVariables false
set_option linter.unusedSimpArgs false

open Go.Proofs.YtempeenjpaldaaaDoor.SNum
/-- a complex64's value, told by one number -/
abbrev CV (n : Int) : Value := .complex .f32 (n.toNat / 4294967296) (n.toNat % 4294967296)
/-- a complex64 as one cell, told by one number -/
abbrev CKI : Kd Int := Kd.scalar CV (fun _ => rfl)
theorem at_cki {w : World} {A : Option Addr} {n : Nat} {xs : List Int} (h : CKI.C w A n xs) (i : Int) (h0 : 0 ≤ i) (h1 : i < n) : ∃ ad, A = some ad ∧ w.cell? (ad.add i.toNat) = some (CV (rd xs i)) :=
  ReadsOf.at_ (Kd.reads_of_C (enc := CV) (d := (0 : Int)) (h1 := fun _ => rfl) h) i h0 h1
def cpx.f (a b : Int) : Option Int := if 0 ≤ a ∧ 0 ≤ b ∧ b < 4294967296 then some (a * 4294967296 + b) else none
theorem cpx.is {a b r : Int} (h : cpx.f a b = some r) : (Value.complex .f32 a.toNat b.toNat) = CV r := by
  unfold cpx.f at h
  split at h
  · obtain rfl := Option.some.inj h
    unfold CV
    congr 1 <;> omega
  · cases h
def reC.f (n : Int) : Option Int := some ((n.toNat / 4294967296 : Nat) : Int)
def imC.f (n : Int) : Option Int := some ((n.toNat % 4294967296 : Nat) : Int)
theorem reim.is {n a b : Int} (h1 : reC.f n = some a) (h2 : imC.f n = some b) : CV n = (Value.complex .f32 a.toNat b.toNat) := by
  obtain rfl := Option.some.inj h1
  obtain rfl := Option.some.inj h2
  rfl
theorem info58 : (Tryd.prog.info? 58).map (fun i => (i.zero, i.size, i.bytes)) = some (some (.complex .f32 0 0), 1, 8) := by kernel_rfl

/-! ### impl_ComplexText: function 44 -/
def impl_ComplexText.l0 : Nat → List ByteArray → List Int → Int → Int → Option (ByteArray × Bool)
  | 0, _, _, _, _ => none
  | k + 1, x4, x11, x12, x13 => if x13 < x12 then (if 0 ≤ x13 then (if x13 < (x11.length : Int) then ((reC.f (rd x11 x13)).bind fun t231 => ((impl_hexOf.f k t231).bind fun t232 => ((imC.f (rd x11 x13)).bind fun t233 => ((impl_hexOf.f k t233).bind fun t234 => (if t232.size + t234.size ≤ 9223372036854775807 then (if x4.length < 8796093022208 then (impl_ComplexText.l0 k (x4 ++ [t232 ++ t234]) x11 x12 (wrap64 (x13 + 1))) else (none)) else (none)))))) else (none)) else (none)) else ((impl_joined.f k x4).bind fun t229 => (some (t229, true)))
def impl_ComplexText.f (k : Nat) (l0 : List Int) : Option (ByteArray × Bool) := if (l0.length : Int) > 256 then (some ((⟨#[]⟩ : ByteArray), false)) else (impl_ComplexText.l0 k (([] : List ByteArray)) l0 (l0.length : Int) 0)
theorem impl_ComplexText.mono_l : ∀ k, (∀ y0 y1 y2 y3, LeO (impl_ComplexText.l0 k y0 y1 y2 y3) (impl_ComplexText.l0 (k + 1) y0 y1 y2 y3))
  | 0 => fun _ _ _ _ r h => by simp [impl_ComplexText.l0] at h
  | k + 1 => by
    have ih0 := impl_ComplexText.mono_l k
    · intro y0 y1 y2 y3
      unfold impl_ComplexText.l0
      repeat' first
      | (with_reducible exact ih0 _ _ _ _)
      | (with_reducible exact impl_hexOf.mono _ _)
      | (with_reducible exact impl_joined.mono _ _)
      | (with_reducible exact LeO.refl _)
      | (with_reducible exact LeO.none _)
      | (with_reducible refine LeO.ite ?_ ?_)
      | (with_reducible refine LeO.bind ?_ (fun _ => ?_))
      | exact ih0 _ _ _ _
      | exact impl_hexOf.mono _ _
      | exact impl_joined.mono _ _
      | exact LeO.none _
      | refine LeO.ite ?_ ?_
      | refine LeO.bind ?_ (fun _ => ?_)
theorem impl_ComplexText.mono : ∀ a0 k, LeO (impl_ComplexText.f k a0) (impl_ComplexText.f (k + 1) a0) := by
  intro a0 k
  have ih0 := impl_ComplexText.mono_l k
  unfold impl_ComplexText.f
  repeat' first
      | (with_reducible exact ih0 _ _ _ _)
      | (with_reducible exact impl_hexOf.mono _ _)
      | (with_reducible exact impl_joined.mono _ _)
      | (with_reducible exact LeO.refl _)
      | (with_reducible exact LeO.none _)
      | (with_reducible refine LeO.ite ?_ ?_)
      | (with_reducible refine LeO.bind ?_ (fun _ => ?_))
      | exact ih0 _ _ _ _
      | exact impl_hexOf.mono _ _
      | exact impl_joined.mono _ _
      | exact LeO.none _
      | refine LeO.ite ?_ ?_
      | refine LeO.bind ?_ (fun _ => ?_)
set_option maxHeartbeats 8000000 in
set_option maxRecDepth 100000 in
theorem impl_ComplexText.calls (k : Nat) (A0 : Option Addr) (c0 : Nat) (l0 : List Int) (r1 : ByteArray) (r2 : Bool) (w : World) (hr0 : Kd.C CKI w A0 l0.length l0) (hc0 : l0.length ≤ c0) (h : impl_ComplexText.f k l0 = some (r1, r2)) (HT : Aside0 (TH w)) :
    Calls Tryd.prog 44 #[.slice A0 l0.length c0] w fun e w' => e = .returned (.tuple #[.string r1, .bool r2]) ∧ Below w.heap.size w w' := by
  have HR0 := Aside0.mk hr0
  have HC0 := Aside0.mk hc0
  clear hr0 hc0
  have HB := Aside0.mk (Below.refl w.heap.size w)
  have H : (if (l0.length : Int) > 256 then (some ((⟨#[]⟩ : ByteArray), false)) else (impl_ComplexText.l0 k (([] : List ByteArray)) l0 (l0.length : Int) 0)) = some (r1, r2) := h
  clear h
  by_cases c2 : (l0.length : Int) > 256
  · rw [if_pos c2] at H
    have c2b0 : decide (256 < (l0.length : Int)) = true := decide_eq_true c2
    have c2b1 : decide (256 < l0.length) = true := decide_eq_true (by omega)
    clear c2
    simp only [Option.some.injEq, Prod.mk.injEq] at H
    obtain ⟨rfl, rfl⟩ := H
    go_enter Tryd.func44, Tryd.ntmps44
    go_wp2
    go_ret2
    exact ⟨by first | rfl | (simp [errW_none, errW_some] <;> rfl) | (simp [*, errW_none, errW_some] <;> rfl), by repeat (first | (with_reducible first | exact HB.out | apply below_alloc | apply pw_below_drewN | apply below_drew1) | exact HB.out)⟩
  · rw [if_neg c2] at H
    have c2b0 : decide (256 < (l0.length : Int)) = false := decide_eq_false c2
    have c2b1 : decide (256 < l0.length) = false := decide_eq_false (by omega)
    clear c2
    obtain ⟨y226, hy226⟩ : ∃ y_ : List ByteArray, y_ = (([] : List ByteArray)) := ⟨_, rfl⟩
    replace H : (impl_ComplexText.l0 k y226 l0 (l0.length : Int) 0) = some (r1, r2) := by first | (rw [hy226]; with_reducible exact H) | (have H2_ := (Option.bind_some _ _).symm.trans H; rw [hy226]; with_reducible exact H2_) | (have H2_ := (Option.bind_some _ _).symm.trans H; with_reducible exact H2_) | with_reducible exact H | (rw [hy226]; exact H) | exact H
    have Ny226 := Aside0.mk hy226
    clear hy226
    have H' := Aside0.mk H
    clear H
    go_enter Tryd.func44, Tryd.ntmps44
    go_wp2_with (first | ((with_reducible refine gate_dst (N := 10) rfl ?_); refine Kd.R_lit Kd.string _ 9 ?hg (N := 10) ?hd (xs := ([] : List ByteArray)) (inner := []) (ok := fun _ => True) (okp := fun _ => True) ?hr ?hp (fun _ hk => hk) trivial (Below.refl _ _) (Nat.le_refl _) (by simp) ?_; (case hd => rfl); (case hg => rfl); (case hr => first | (go_simp; done) | (go_simp; rfl)); (case hp => exact (Reps.none _ _)); intro v227 w3 ho4 hb hg_ hnew_; clear hg_ hnew_; (first | rw [← Ny226.out] at ho4 | (simp only [Int.reduceToNat] at ho4; rw [← Ny226.out] at ho4)); have n0_ := Aside0.mk (Kd.R_lower ho4 (below_size (by repeat (first | (with_reducible first | exact HB.out | apply below_alloc | apply pw_below_drewN | apply below_drew1) | exact HB.out)))); have n1_ := Aside0.mk (below_step (by repeat (first | (with_reducible first | exact HB.out | apply below_alloc | apply pw_below_drewN | apply below_drew1) | exact HB.out)) hb); clear HB; have HO228 := n0_; have HB := n1_; clear n0_ n1_; clear hb ho4))
    go_loopg [4, 13] k (fun kq v4 v13 w' => ∃ (x4_1 : List ByteArray) (x13_1 : Int), v13 = .int .i64 x13_1 ∧ Aside0 (impl_ComplexText.l0 kq x4_1 l0 (l0.length : Int) x13_1 = some (r1, r2)) ∧ Aside0 (kq ≤ k) ∧ Aside0 (Kd.R Kd.string 9 w' w.heap.size (fun _ => True) v4 x4_1) ∧ Aside0 (Below w.heap.size w w'))
    case atStart => exact ⟨(y226), (0), (by first | rfl | (simp; done) | (simp [*]; done)), H', ⟨Nat.le_refl _⟩, ⟨by (with_reducible repeat (first | apply Kd.R_alloc | apply Kd.R_drewN | apply Kd.R_drew)); exact HO228.out⟩, ⟨by repeat (first | (with_reducible first | exact HB.out | apply below_alloc | apply pw_below_drewN | apply below_drew1) | exact HB.out)⟩⟩
    case round =>
      clear H'
      try clear c2
      try clear c2b0
      try clear c2b1
      try clear p2
      try clear c4
      obtain ⟨x4_1, x13_1, rfl, HA, HK1, HO_4, HB⟩ := hrel
      cases gk with
      | zero => exact absurd HA.out (by simp [impl_ComplexText.l0])
      | succ k1 =>
        have H := HA.out
        clear HA
        simp only [impl_ComplexText.l0] at H
        by_cases c5 : x13_1 < (l0.length : Int)
        · rw [if_pos c5] at H
          have c5b0 : decide (x13_1 < (l0.length : Int)) = true := decide_eq_true c5
          clear c5
          by_cases c6 : 0 ≤ x13_1
          · rw [if_pos c6] at H
            have c6b0 : decide (0 ≤ x13_1) = true := decide_eq_true c6
            clear c6
            by_cases c7 : x13_1 < (l0.length : Int)
            · rw [if_pos c7] at H
              have c7b0 : decide (x13_1 < (l0.length : Int)) = true := decide_eq_true c7
              clear c7
              replace H := Option.bind_eq_some_iff.mp H
              obtain ⟨t231, A80, H⟩ := H
              replace H : ((impl_hexOf.f k1 t231).bind fun t232 => ((imC.f (rd l0 x13_1)).bind fun t233 => ((impl_hexOf.f k1 t233).bind fun t234 => (if t232.size + t234.size ≤ 9223372036854775807 then (if x4_1.length < 8796093022208 then (impl_ComplexText.l0 k1 (x4_1 ++ [t232 ++ t234]) l0 (l0.length : Int) (wrap64 (x13_1 + 1))) else (none)) else (none))))) = some (r1, r2) := H
              have A8 := Aside0.mk A80
              clear A80
              replace H := Option.bind_eq_some_iff.mp H
              obtain ⟨t232, A90, H⟩ := H
              replace H : ((imC.f (rd l0 x13_1)).bind fun t233 => ((impl_hexOf.f k1 t233).bind fun t234 => (if t232.size + t234.size ≤ 9223372036854775807 then (if x4_1.length < 8796093022208 then (impl_ComplexText.l0 k1 (x4_1 ++ [t232 ++ t234]) l0 (l0.length : Int) (wrap64 (x13_1 + 1))) else (none)) else (none)))) = some (r1, r2) := H
              have A9 := Aside0.mk A90
              clear A90
              replace H := Option.bind_eq_some_iff.mp H
              obtain ⟨t233, A100, H⟩ := H
              replace H : ((impl_hexOf.f k1 t233).bind fun t234 => (if t232.size + t234.size ≤ 9223372036854775807 then (if x4_1.length < 8796093022208 then (impl_ComplexText.l0 k1 (x4_1 ++ [t232 ++ t234]) l0 (l0.length : Int) (wrap64 (x13_1 + 1))) else (none)) else (none))) = some (r1, r2) := H
              have A10 := Aside0.mk A100
              clear A100
              replace H := Option.bind_eq_some_iff.mp H
              obtain ⟨t234, A110, H⟩ := H
              replace H : (if t232.size + t234.size ≤ 9223372036854775807 then (if x4_1.length < 8796093022208 then (impl_ComplexText.l0 k1 (x4_1 ++ [t232 ++ t234]) l0 (l0.length : Int) (wrap64 (x13_1 + 1))) else (none)) else (none)) = some (r1, r2) := H
              have A11 := Aside0.mk A110
              clear A110
              by_cases c12 : t232.size + t234.size ≤ 9223372036854775807
              · rw [if_pos c12] at H
                have c12b0 := eq_true c12
                have c12b1 : decide (t232.size + t234.size ≤ 9223372036854775807) = true := decide_eq_true c12
                try have c12b2 : (9223372036854775807 < t232.size + t234.size) = False := eq_false (Nat.not_lt.2 c12)
                by_cases c13 : x4_1.length < 8796093022208
                · rw [if_pos c13] at H
                  have LMc13 := Aside0.mk c13
                  clear c13
                  obtain ⟨y235, hy235⟩ : ∃ y_ : List ByteArray, y_ = (x4_1 ++ [t232 ++ t234]) := ⟨_, rfl⟩
                  replace H : (impl_ComplexText.l0 k1 y235 l0 (l0.length : Int) (wrap64 (x13_1 + 1))) = some (r1, r2) := by first | (rw [hy235]; with_reducible exact H) | (have H2_ := (Option.bind_some _ _).symm.trans H; rw [hy235]; with_reducible exact H2_) | (have H2_ := (Option.bind_some _ _).symm.trans H; with_reducible exact H2_) | with_reducible exact H | (rw [hy235]; exact H) | exact H
                  have Ny235 := Aside0.mk hy235
                  clear hy235
                  have H' := Aside0.mk H
                  clear H
                  have p230 : 0 ≤ (x13_1 : Int) := of_decide_eq_true (by first | (with_reducible assumption) | assumption)
                  have q230 : x13_1 < (l0.length : Int) := of_decide_eq_true (by first | (with_reducible assumption) | assumption)
                  obtain ⟨ad230, e230, hx230_0⟩ := at_cki HR0.out x13_1 p230 q230
                  cases e230
                  replace hx230_0 := (HB.out.cell (World.block_lt_of_cell? w _ hx230_0)).trans hx230_0
                  replace p230 := eq_true p230
                  replace q230 := eq_true q230
                  have EC_ := reim.is A8.out A10.out; (try rw [EC_] at hx230_0)
                  go_wp2_with (first | ((with_reducible refine gate_callee (f := 37) rfl ?_); refine goesL_ (some 20) rfl rfl Tryd.func37 (by kernel_rfl) rfl #[FV t231] rfl (by (try simp only [List.map_toArray, List.map_cons, List.map_nil]); first | done | rfl | (simp only [List.length_drop, List.length_take]; rfl)) ?_; (with_reducible refine (impl_hexOf.calls k1 t231 t232 _ A9.out ⟨TH.on HT.out (by repeat (first | (with_reducible first | exact HB.out | apply below_alloc | apply pw_below_drewN | apply below_drew1) | exact HB.out))⟩).mono ?_); rintro e w14 ⟨rfl, hb⟩; refine ⟨_, rfl, ?_⟩; have n0_ := Aside0.mk (Kd.R_below (by (with_reducible repeat (first | apply Kd.R_alloc | apply Kd.R_drewN | apply Kd.R_drew)); exact HO_4.out) hb); have n1_ := Aside0.mk (below_step (by repeat (first | (with_reducible first | exact HB.out | apply below_alloc | apply pw_below_drewN | apply below_drew1) | exact HB.out)) hb); clear HO_4; clear HB; have HO_4 := n0_; have HB := n1_; clear n0_ n1_; (try clear hb); (try clear hb2); (try clear hk); (try clear hi)) | ((with_reducible refine gate_callee (f := 37) rfl ?_); refine goesL_ (some 23) rfl rfl Tryd.func37 (by kernel_rfl) rfl #[FV t233] rfl (by (try simp only [List.map_toArray, List.map_cons, List.map_nil]); first | done | rfl | (simp only [List.length_drop, List.length_take]; rfl)) ?_; (with_reducible refine (impl_hexOf.calls k1 t233 t234 _ A11.out ⟨TH.on HT.out (by repeat (first | (with_reducible first | exact HB.out | apply below_alloc | apply pw_below_drewN | apply below_drew1) | exact HB.out))⟩).mono ?_); rintro e w15 ⟨rfl, hb⟩; refine ⟨_, rfl, ?_⟩; have n0_ := Aside0.mk (Kd.R_below (by (with_reducible repeat (first | apply Kd.R_alloc | apply Kd.R_drewN | apply Kd.R_drew)); exact HO_4.out) hb); have n1_ := Aside0.mk (below_step (by repeat (first | (with_reducible first | exact HB.out | apply below_alloc | apply pw_below_drewN | apply below_drew1) | exact HB.out)) hb); clear HO_4; clear HB; have HO_4 := n0_; have HB := n1_; clear n0_ n1_; (try clear hb); (try clear hb2); (try clear hk); (try clear hi)) | ((with_reducible refine gate_builtin (b := .append) (xs := #[.tmp 17, .tmp 25]) rfl ?_); at_builtin; refine Kd.R_append Kd.string (w0 := w) w.heap.size rfl (.tmp 17) (.tmp 25) 51 9 (.string ⟨#[]⟩) 16 rfl Tryd.underlying51 info9 rfl (by decide) (by omega) u4 x4_1 (t232 ++ t234) [.string (t232 ++ t234)] (fun _ => True) (fun _ => False) rfl rfl ?aP (fun _ hk => hk.elim) ?aF ?aO ?aB ?aS ?aL ?_; (case aP => exact rfl); (case aB => exact (by repeat (first | (with_reducible first | exact HB.out | apply below_alloc | apply pw_below_drewN | apply below_drew1) | exact HB.out))); (case aF => exact (fun _ _ => trivial)); (case aO => exact (by (with_reducible repeat (first | apply Kd.R_alloc | apply Kd.R_drewN | apply Kd.R_drew)); exact HO_4.out)); (case aS => exact (below_size (by repeat (first | (with_reducible first | exact HB.out | apply below_alloc | apply pw_below_drewN | apply below_drew1) | exact HB.out)))); (case aL => have := LMc13.out; omega); intro v236 w16 ho hb hg hat; rw [← Ny235.out] at ho; have n0_ := Aside0.mk (hb); have n1_ := Aside0.mk (ho); clear HB; clear HO_4; have HB := n0_; have HO237 := n1_; clear n0_ n1_; clear ho hb hg hat))
                  go_roundg k1
                  case measure => have := HK1.out; omega
                  case rel => exact ⟨(y235), (wrap64 (x13_1 + 1)), (by first | rfl | (simp; done) | (simp [*]; done)), H', ⟨by have := HK1.out; omega⟩, ⟨by (with_reducible repeat (first | apply Kd.R_alloc | apply Kd.R_drewN | apply Kd.R_drew)); exact HO237.out⟩, ⟨by repeat (first | (with_reducible first | exact HB.out | apply below_alloc | apply pw_below_drewN | apply below_drew1) | exact HB.out)⟩⟩
                · rw [if_neg c13] at H
                  exact absurd H (by simp)
              · rw [if_neg c12] at H
                exact absurd H (by simp)
            · rw [if_neg c7] at H
              exact absurd H (by simp)
          · rw [if_neg c6] at H
            exact absurd H (by simp)
        · rw [if_neg c5] at H
          have c5b0 : decide (x13_1 < (l0.length : Int)) = false := decide_eq_false c5
          clear c5
          replace H := Option.bind_eq_some_iff.mp H
          obtain ⟨t229, A170, H⟩ := H
          replace H : (some (t229, true)) = some (r1, r2) := H
          have A17 := Aside0.mk A170
          clear A170
          simp only [Option.some.injEq, Prod.mk.injEq] at H
          obtain ⟨rfl, rfl⟩ := H
          obtain ⟨Ao18, co18, eo18⟩ := Kd.R_slice HO_4.out
          subst eo18
          go_wp2_with (first | ((with_reducible refine gate_callee (f := 38) rfl ?_); refine goesL_ (some 29) rfl rfl Tryd.func38 (by kernel_rfl) rfl #[.slice Ao18 x4_1.length co18] rfl (by (try simp only [List.map_toArray, List.map_cons, List.map_nil]); first | done | rfl | (simp only [List.length_drop, List.length_take]; rfl)) ?_; (with_reducible refine (impl_joined.calls k1 _ _ x4_1 t229 _ ?side1 ?side2 A17.out).mono ?_); (case side1 => repeat (first | exact (Kd.R_reads' HO_4.out).2.2 | (with_reducible refine Kd.C_alloc ?_ _) | (with_reducible refine Kd.C_drewN ?_ _) | (with_reducible refine Kd.C_drew ?_))); (case side2 => exact (Kd.R_reads' HO_4.out).2.1); rintro e w19 ⟨rfl, hb⟩; refine ⟨_, rfl, ?_⟩; have n0_ := Aside0.mk (Kd.R_below (by (with_reducible repeat (first | apply Kd.R_alloc | apply Kd.R_drewN | apply Kd.R_drew)); exact HO_4.out) hb); have n1_ := Aside0.mk (below_step (by repeat (first | (with_reducible first | exact HB.out | apply below_alloc | apply pw_below_drewN | apply below_drew1) | exact HB.out)) hb); clear HO_4; clear HB; have HO_4 := n0_; have HB := n1_; clear n0_ n1_; (try clear hb); (try clear hb2); (try clear hk); (try clear hi)))
          go_ret2
          exact ⟨by first | rfl | (simp [errW_none, errW_some] <;> rfl) | (simp [*, errW_none, errW_some] <;> rfl), by repeat (first | (with_reducible first | exact HB.out | apply below_alloc | apply pw_below_drewN | apply below_drew1) | exact HB.out)⟩

end Go.Proofs.YtempeenjpaldaaaDoor.SCpx

namespace Go.Proofs.YtempeenjpaldaaaDoor.SCpx
open Go.RowKit Go.Proofs.YtempeenjpaldaaaDoorW.PrintWords Go.Proofs.YtempeenjpaldaaaDoorW.PrintLast Go.Proofs.YtempeenjpaldaaaDoorW.PrintMore
attribute [local go_sem] max2_int min2_int max_two min_two max_three min_three max_four min_four   -- for this text's walks alone
set_option linter.unusedVariables false
set_option linter.unusedSimpArgs false

open Go.Proofs.YtempeenjpaldaaaDoor.SNum

/-! ### spec_l01Digits: function 67 -/
mutual
def spec_l01Digits.l0 : Nat → ByteArray → Int → Int → Option (Int × Bool)
  | 0, _, _, _ => none
  | k + 1, x0, x4, x5 => if x5 < (x0.size : Int) then (if 0 ≤ x5 then (if (bt x0 x5) ≥ 48 then (spec_l01Digits.j1 k x0 x4 x5 (-1) (decide ((bt x0 x5) ≤ 57))) else (spec_l01Digits.j1 k x0 x4 x5 (-1) false)) else (none)) else ((spec_l01From.f x4).bind fun t177 => ((spec_l01Bits.f t177).bind fun t178 => (if t178 = x4 then (some (t177, true)) else (some (0, false)))))
def spec_l01Digits.j1 : Nat → ByteArray → Int → Int → Int → Bool → Option (Int × Bool)
  | 0, _, _, _, _, _ => none
  | k + 1, x0, x4, x5, x6, x23 => if x23 = true then (if 0 ≤ x5 then (if x5 < (x0.size : Int) then (spec_l01Digits.j2 k x0 x4 x5 (((bt x0 x5) - 48) % 256)) else (none)) else (none)) else (spec_l01Digits.j2 k x0 x4 x5 x6)
def spec_l01Digits.j2 : Nat → ByteArray → Int → Int → Int → Option (Int × Bool)
  | 0, _, _, _, _ => none
  | k + 1, x0, x4, x5, x6 => if 0 ≤ x5 then (if x5 < (x0.size : Int) then (if (bt x0 x5) ≥ 97 then (spec_l01Digits.j3 k x0 x4 x5 x6 (decide ((bt x0 x5) ≤ 102))) else (spec_l01Digits.j3 k x0 x4 x5 x6 false)) else (none)) else (none)
def spec_l01Digits.j3 : Nat → ByteArray → Int → Int → Int → Bool → Option (Int × Bool)
  | 0, _, _, _, _, _ => none
  | k + 1, x0, x4, x5, x6, x38 => if x38 = true then (if 0 ≤ x5 then (if x5 < (x0.size : Int) then (if ((((bt x0 x5) - 97) % 256) + 10) < 0 then (some (0, false)) else (spec_l01Digits.l0 k x0 (wrap64 ((wrap64 (16 * x4)) + ((((bt x0 x5) - 97) % 256) + 10))) (wrap64 (x5 + 1)))) else (none)) else (none)) else (if x6 < 0 then (some (0, false)) else (spec_l01Digits.l0 k x0 (wrap64 ((wrap64 (16 * x4)) + x6)) (wrap64 (x5 + 1))))
end
def spec_l01Digits.f (k : Nat) (a0 : ByteArray) : Option (Int × Bool) := spec_l01Digits.l0 k a0 0 0
theorem spec_l01Digits.mono_l : ∀ k, (∀ y0 y1 y2, LeO (spec_l01Digits.l0 k y0 y1 y2) (spec_l01Digits.l0 (k + 1) y0 y1 y2)) ∧ (∀ y0 y1 y2 y3 y4, LeO (spec_l01Digits.j1 k y0 y1 y2 y3 y4) (spec_l01Digits.j1 (k + 1) y0 y1 y2 y3 y4)) ∧ (∀ y0 y1 y2 y3, LeO (spec_l01Digits.j2 k y0 y1 y2 y3) (spec_l01Digits.j2 (k + 1) y0 y1 y2 y3)) ∧ (∀ y0 y1 y2 y3 y4, LeO (spec_l01Digits.j3 k y0 y1 y2 y3 y4) (spec_l01Digits.j3 (k + 1) y0 y1 y2 y3 y4))
  | 0 => ⟨fun _ _ _ r h => by simp [spec_l01Digits.l0] at h, fun _ _ _ _ _ r h => by simp [spec_l01Digits.j1] at h, fun _ _ _ _ r h => by simp [spec_l01Digits.j2] at h, fun _ _ _ _ _ r h => by simp [spec_l01Digits.j3] at h⟩
  | k + 1 => by
    obtain ⟨ih0, ih1, ih2, ih3⟩ := spec_l01Digits.mono_l k
    refine ⟨?_, ?_, ?_, ?_⟩
    · intro y0 y1 y2
      unfold spec_l01Digits.l0
      repeat' first
      | (with_reducible exact ih0 _ _ _)
      | (with_reducible exact ih1 _ _ _ _ _)
      | (with_reducible exact ih2 _ _ _ _)
      | (with_reducible exact ih3 _ _ _ _ _)
      | (with_reducible exact LeO.refl _)
      | (with_reducible exact LeO.none _)
      | (with_reducible refine LeO.ite ?_ ?_)
      | (with_reducible refine LeO.bind ?_ (fun _ => ?_))
      | exact ih0 _ _ _
      | exact ih1 _ _ _ _ _
      | exact ih2 _ _ _ _
      | exact ih3 _ _ _ _ _
      | exact LeO.none _
      | refine LeO.ite ?_ ?_
      | refine LeO.bind ?_ (fun _ => ?_)
    · intro y0 y1 y2 y3 y4
      unfold spec_l01Digits.j1
      repeat' first
      | (with_reducible exact ih0 _ _ _)
      | (with_reducible exact ih1 _ _ _ _ _)
      | (with_reducible exact ih2 _ _ _ _)
      | (with_reducible exact ih3 _ _ _ _ _)
      | (with_reducible exact LeO.refl _)
      | (with_reducible exact LeO.none _)
      | (with_reducible refine LeO.ite ?_ ?_)
      | (with_reducible refine LeO.bind ?_ (fun _ => ?_))
      | exact ih0 _ _ _
      | exact ih1 _ _ _ _ _
      | exact ih2 _ _ _ _
      | exact ih3 _ _ _ _ _
      | exact LeO.none _
      | refine LeO.ite ?_ ?_
      | refine LeO.bind ?_ (fun _ => ?_)
    · intro y0 y1 y2 y3
      unfold spec_l01Digits.j2
      repeat' first
      | (with_reducible exact ih0 _ _ _)
      | (with_reducible exact ih1 _ _ _ _ _)
      | (with_reducible exact ih2 _ _ _ _)
      | (with_reducible exact ih3 _ _ _ _ _)
      | (with_reducible exact LeO.refl _)
      | (with_reducible exact LeO.none _)
      | (with_reducible refine LeO.ite ?_ ?_)
      | (with_reducible refine LeO.bind ?_ (fun _ => ?_))
      | exact ih0 _ _ _
      | exact ih1 _ _ _ _ _
      | exact ih2 _ _ _ _
      | exact ih3 _ _ _ _ _
      | exact LeO.none _
      | refine LeO.ite ?_ ?_
      | refine LeO.bind ?_ (fun _ => ?_)
    · intro y0 y1 y2 y3 y4
      unfold spec_l01Digits.j3
      repeat' first
      | (with_reducible exact ih0 _ _ _)
      | (with_reducible exact ih1 _ _ _ _ _)
      | (with_reducible exact ih2 _ _ _ _)
      | (with_reducible exact ih3 _ _ _ _ _)
      | (with_reducible exact LeO.refl _)
      | (with_reducible exact LeO.none _)
      | (with_reducible refine LeO.ite ?_ ?_)
      | (with_reducible refine LeO.bind ?_ (fun _ => ?_))
      | exact ih0 _ _ _
      | exact ih1 _ _ _ _ _
      | exact ih2 _ _ _ _
      | exact ih3 _ _ _ _ _
      | exact LeO.none _
      | refine LeO.ite ?_ ?_
      | refine LeO.bind ?_ (fun _ => ?_)
theorem spec_l01Digits.mono : ∀ a0 k, LeO (spec_l01Digits.f k a0) (spec_l01Digits.f (k + 1) a0) := by
  intro a0 k
  obtain ⟨ih0, ih1, ih2, ih3⟩ := spec_l01Digits.mono_l k
  unfold spec_l01Digits.f
  repeat' first
      | (with_reducible exact ih0 _ _ _)
      | (with_reducible exact ih1 _ _ _ _ _)
      | (with_reducible exact ih2 _ _ _ _)
      | (with_reducible exact ih3 _ _ _ _ _)
      | (with_reducible exact LeO.refl _)
      | (with_reducible exact LeO.none _)
      | (with_reducible refine LeO.ite ?_ ?_)
      | (with_reducible refine LeO.bind ?_ (fun _ => ?_))
      | exact ih0 _ _ _
      | exact ih1 _ _ _ _ _
      | exact ih2 _ _ _ _
      | exact ih3 _ _ _ _ _
      | exact LeO.none _
      | refine LeO.ite ?_ ?_
      | refine LeO.bind ?_ (fun _ => ?_)
set_option maxHeartbeats 8000000 in
set_option maxRecDepth 100000 in
theorem spec_l01Digits.calls (k : Nat) (a0 : ByteArray) (r1 : Int) (r2 : Bool) (w : World) (h : spec_l01Digits.f k a0 = some (r1, r2)) :
    Calls Tryd.prog 67 #[.string a0] w fun e w' => e = .returned (.tuple #[FV r1, .bool r2]) ∧ Drawn0 w w' := by
  have H : (spec_l01Digits.l0 k a0 0 0) = some (r1, r2) := h
  clear h
  have H' := Aside0.mk H
  clear H
  go_enter Tryd.func67, Tryd.ntmps67
  go_wp2
  go_loopg [4, 5] k (fun kq v4 v5 w' => ∃ (x4_1 : Int) (x5_1 : Int), v4 = .int .i64 x4_1 ∧ v5 = .int .i64 x5_1 ∧ Aside0 (spec_l01Digits.l0 kq a0 x4_1 x5_1 = some (r1, r2)) ∧ Aside0 (kq ≤ k) ∧ Drawn0 w w')
  case atStart => exact ⟨(0), (0), (by first | rfl | (simp; done) | (simp [*]; done)), (by first | rfl | (simp; done) | (simp [*]; done)), H', ⟨Nat.le_refl _⟩, by repeat (first | exact Drawn0.refl _ | apply Drawn0.step)⟩
  case round =>
    clear H'
    obtain ⟨x4_1, x5_1, rfl, rfl, HA, HK1, ⟨m1, rfl⟩⟩ := hrel
    cases gk with
    | zero => exact absurd HA.out (by simp [spec_l01Digits.l0])
    | succ k1 =>
      have H := HA.out
      clear HA
      simp only [spec_l01Digits.l0] at H
      by_cases c2 : x5_1 < (a0.size : Int)
      · rw [if_pos c2] at H
        have c2b0 : decide (x5_1 < (a0.size : Int)) = true := decide_eq_true c2
        clear c2
        have HC3 := Aside0.mk H
        clear H
        go_upto_region 6 with (fail)
        go_cut [23] (fun v23 wc => ∃ (kq : Nat) (x23_2 : Bool), v23 = .bool x23_2 ∧ Aside0 (spec_l01Digits.j1 kq a0 x4_1 x5_1 (-1) x23_2 = some (r1, r2)) ∧ Aside0 (kq ≤ k1) ∧ Drawn0 w wc)
        case first =>
          have H := HC3.out
          clear HC3
          by_cases c4 : 0 ≤ x5_1
          · rw [if_pos c4] at H
            have c4b0 : decide (0 ≤ x5_1) = true := decide_eq_true c4
            clear c4
            (first | rw [c4b0] | (simp only [i64_w, i32_w]; rw [c4b0]) | skip)
            by_cases c6 : (bt a0 x5_1) ≥ 48
            · rw [if_pos c6] at H
              have c6b0 : decide (48 ≤ (bt a0 x5_1)) = true := decide_eq_true c6
              clear c6
              have H' := Aside0.mk H
              clear H
              have p5 : 0 ≤ (x5_1 : Int) := of_decide_eq_true (by first | (with_reducible assumption) | assumption)
              have q5 : x5_1 < (a0.size : Int) := of_decide_eq_true (by first | (with_reducible assumption) | assumption)
              have hx5 := bt_at a0 x5_1
              replace p5 := eq_true p5
              replace q5 := eq_true q5
              have p7 : 0 ≤ (x5_1 : Int) := of_decide_eq_true (by first | (with_reducible assumption) | assumption)
              have q7 : x5_1 < (a0.size : Int) := of_decide_eq_true (by first | (with_reducible assumption) | assumption)
              have hx7 := bt_at a0 x5_1
              replace p7 := eq_true p7
              replace q7 := eq_true q7
              go_wp2
              go_meet
              case rel => exact ⟨_, (decide ((bt a0 x5_1) ≤ 57)), (by first | rfl | (simp; done) | (simp [*]; done)), H', ⟨by have := HK1.out; first | omega | exact Nat.le_refl _⟩, by repeat (first | exact Drawn0.refl _ | apply Drawn0.step)⟩
            · rw [if_neg c6] at H
              have c6b0 : decide (48 ≤ (bt a0 x5_1)) = false := decide_eq_false c6
              clear c6
              have H' := Aside0.mk H
              clear H
              have p5 : 0 ≤ (x5_1 : Int) := of_decide_eq_true (by first | (with_reducible assumption) | assumption)
              have q5 : x5_1 < (a0.size : Int) := of_decide_eq_true (by first | (with_reducible assumption) | assumption)
              have hx5 := bt_at a0 x5_1
              replace p5 := eq_true p5
              replace q5 := eq_true q5
              go_wp2
              go_meet
              case rel => exact ⟨_, (false), (by first | rfl | (simp; done) | (simp [*]; done)), H', ⟨by have := HK1.out; first | omega | exact Nat.le_refl _⟩, by repeat (first | exact Drawn0.refl _ | apply Drawn0.step)⟩
          · rw [if_neg c4] at H
            exact absurd H (by simp)
        case rest =>
          clear HC3
          try clear c2
          try clear c2b0
          try clear p2
          try clear c4
          try clear c4b0
          try clear p5
          try clear q5
          try clear hx5
          try clear c6
          try clear c6b0
          try clear p7
          try clear q7
          try clear hx7
          try clear p5
          try clear p7
          try clear q5
          try clear q7
          obtain ⟨kq, x23_2, rfl, HA, HJ2, ⟨mc2, rfl⟩⟩ := hcut
          cases kq with
          | zero => exact absurd HA.out (by simp [spec_l01Digits.j1])
          | succ kj2 =>
            have H := HA.out
            clear HA
            simp only [spec_l01Digits.j1] at H
            have HC8 := Aside0.mk H
            clear H
            go_upto_if 23 with (fail)
            go_cut [6] (fun v6 wc => ∃ (kq : Nat) (x6_7 : Int), v6 = .int .i64 x6_7 ∧ Aside0 (spec_l01Digits.j2 kq a0 x4_1 x5_1 x6_7 = some (r1, r2)) ∧ Aside0 (kq ≤ kj2) ∧ Drawn0 w wc)
            case first =>
              have H := HC8.out
              clear HC8
              by_cases c9 : x23_2 = true
              · subst c9
                have H1 : (if 0 ≤ x5_1 then (if x5_1 < (a0.size : Int) then (spec_l01Digits.j2 kj2 a0 x4_1 x5_1 (((bt a0 x5_1) - 48) % 256)) else (none)) else (none)) = some (r1, r2) := by rw [if_pos rfl] at H; exact H
                clear H
                have H := H1
                clear H1
                by_cases c10 : 0 ≤ x5_1
                · rw [if_pos c10] at H
                  have c10b0 : decide (0 ≤ x5_1) = true := decide_eq_true c10
                  clear c10
                  (first | rw [c10b0] | (simp only [i64_w, i32_w]; rw [c10b0]) | skip)
                  by_cases c11 : x5_1 < (a0.size : Int)
                  · rw [if_pos c11] at H
                    have c11b0 : decide (x5_1 < (a0.size : Int)) = true := decide_eq_true c11
                    clear c11
                    have H' := Aside0.mk H
                    clear H
                    have p12 : 0 ≤ (x5_1 : Int) := of_decide_eq_true (by first | (with_reducible assumption) | assumption)
                    have q12 : x5_1 < (a0.size : Int) := of_decide_eq_true (by first | (with_reducible assumption) | assumption)
                    have hx12 := bt_at a0 x5_1
                    replace p12 := eq_true p12
                    replace q12 := eq_true q12
                    go_wp2
                    go_meet
                    case rel => exact ⟨_, (((bt a0 x5_1) - 48) % 256), (by first | rfl | (simp; done) | (simp [*]; done)), H', ⟨by have := HK1.out; have := HJ2.out; first | omega | exact Nat.le_refl _⟩, by repeat (first | exact Drawn0.refl _ | apply Drawn0.step)⟩
                  · rw [if_neg c11] at H
                    exact absurd H (by simp)
                · rw [if_neg c10] at H
                  exact absurd H (by simp)
              · replace c9 := Bool.eq_false_iff.mpr c9
                subst c9
                have H1 : (spec_l01Digits.j2 kj2 a0 x4_1 x5_1 (-1)) = some (r1, r2) := by rw [if_neg (show ¬ (false = true) by decide)] at H; exact H
                clear H
                have H := H1
                clear H1
                have H' := Aside0.mk H
                clear H
                go_wp2
                go_meet
                case rel => exact ⟨_, ((-1)), (by first | rfl | (simp; done) | (simp [*]; done)), H', ⟨by have := HK1.out; have := HJ2.out; first | omega | exact Nat.le_refl _⟩, by repeat (first | exact Drawn0.refl _ | apply Drawn0.step)⟩
            case rest =>
              clear HC8
              try clear c1
              try clear p1
              try clear q1
              try clear hx1
              try clear c2
              try clear c2b0
              try clear p2
              try clear c4
              try clear c4b0
              try clear p5
              try clear q5
              try clear hx5
              try clear c6
              try clear c6b0
              try clear p7
              try clear q7
              try clear hx7
              try clear c9
              try clear c10
              try clear c10b0
              try clear c11
              try clear c11b0
              try clear p12
              try clear q12
              try clear hx12
              try clear p12
              try clear p2
              try clear p5
              try clear p7
              try clear q12
              try clear q5
              try clear q7
              obtain ⟨kq, x6_7, rfl, HA, HJ7, ⟨mc7, rfl⟩⟩ := hcut
              cases kq with
              | zero => exact absurd HA.out (by simp [spec_l01Digits.j2])
              | succ kj7 =>
                have H := HA.out
                clear HA
                simp only [spec_l01Digits.j2] at H
                have HC13 := Aside0.mk H
                clear H
                go_upto_region 8 with (fail)
                go_cut [38] (fun v38 wc => ∃ (kq : Nat) (x38_12 : Bool), v38 = .bool x38_12 ∧ Aside0 (spec_l01Digits.j3 kq a0 x4_1 x5_1 x6_7 x38_12 = some (r1, r2)) ∧ Aside0 (kq ≤ kj7) ∧ Drawn0 w wc)
                case first =>
                  have H := HC13.out
                  clear HC13
                  by_cases c14 : 0 ≤ x5_1
                  · rw [if_pos c14] at H
                    have c14b0 : decide (0 ≤ x5_1) = true := decide_eq_true c14
                    clear c14
                    (first | rw [c14b0] | (simp only [i64_w, i32_w]; rw [c14b0]) | skip)
                    by_cases c15 : x5_1 < (a0.size : Int)
                    · rw [if_pos c15] at H
                      have c15b0 : decide (x5_1 < (a0.size : Int)) = true := decide_eq_true c15
                      clear c15
                      by_cases c17 : (bt a0 x5_1) ≥ 97
                      · rw [if_pos c17] at H
                        have c17b0 : decide (97 ≤ (bt a0 x5_1)) = true := decide_eq_true c17
                        clear c17
                        have H' := Aside0.mk H
                        clear H
                        have p16 : 0 ≤ (x5_1 : Int) := of_decide_eq_true (by first | (with_reducible assumption) | assumption)
                        have q16 : x5_1 < (a0.size : Int) := of_decide_eq_true (by first | (with_reducible assumption) | assumption)
                        have hx16 := bt_at a0 x5_1
                        replace p16 := eq_true p16
                        replace q16 := eq_true q16
                        have p18 : 0 ≤ (x5_1 : Int) := of_decide_eq_true (by first | (with_reducible assumption) | assumption)
                        have q18 : x5_1 < (a0.size : Int) := of_decide_eq_true (by first | (with_reducible assumption) | assumption)
                        have hx18 := bt_at a0 x5_1
                        replace p18 := eq_true p18
                        replace q18 := eq_true q18
                        go_wp2
                        go_meet
                        case rel => exact ⟨_, (decide ((bt a0 x5_1) ≤ 102)), (by first | rfl | (simp; done) | (simp [*]; done)), H', ⟨by have := HK1.out; have := HJ2.out; have := HJ7.out; first | omega | exact Nat.le_refl _⟩, by repeat (first | exact Drawn0.refl _ | apply Drawn0.step)⟩
                      · rw [if_neg c17] at H
                        have c17b0 : decide (97 ≤ (bt a0 x5_1)) = false := decide_eq_false c17
                        clear c17
                        have H' := Aside0.mk H
                        clear H
                        have p16 : 0 ≤ (x5_1 : Int) := of_decide_eq_true (by first | (with_reducible assumption) | assumption)
                        have q16 : x5_1 < (a0.size : Int) := of_decide_eq_true (by first | (with_reducible assumption) | assumption)
                        have hx16 := bt_at a0 x5_1
                        replace p16 := eq_true p16
                        replace q16 := eq_true q16
                        go_wp2
                        go_meet
                        case rel => exact ⟨_, (false), (by first | rfl | (simp; done) | (simp [*]; done)), H', ⟨by have := HK1.out; have := HJ2.out; have := HJ7.out; first | omega | exact Nat.le_refl _⟩, by repeat (first | exact Drawn0.refl _ | apply Drawn0.step)⟩
                    · rw [if_neg c15] at H
                      exact absurd H (by simp)
                  · rw [if_neg c14] at H
                    exact absurd H (by simp)
                case rest =>
                  clear HC13
                  try clear c1
                  try clear p1
                  try clear q1
                  try clear hx1
                  try clear c2
                  try clear c2b0
                  try clear p2
                  try clear c4
                  try clear c4b0
                  try clear p5
                  try clear q5
                  try clear hx5
                  try clear c6
                  try clear c6b0
                  try clear c7
                  try clear p7
                  try clear q7
                  try clear hx7
                  try clear c9
                  try clear c10
                  try clear c10b0
                  try clear c11
                  try clear c11b0
                  try clear p12
                  try clear q12
                  try clear hx12
                  try clear c14
                  try clear c14b0
                  try clear c15
                  try clear c15b0
                  try clear p16
                  try clear q16
                  try clear hx16
                  try clear c17
                  try clear c17b0
                  try clear p18
                  try clear q18
                  try clear hx18
                  try clear p1
                  try clear p12
                  try clear p16
                  try clear p18
                  try clear p2
                  try clear p5
                  try clear p7
                  try clear q1
                  try clear q12
                  try clear q16
                  try clear q18
                  try clear q5
                  try clear q7
                  obtain ⟨kq, x38_12, rfl, HA, HJ12, ⟨mc12, rfl⟩⟩ := hcut
                  cases kq with
                  | zero => exact absurd HA.out (by simp [spec_l01Digits.j3])
                  | succ kj12 =>
                    have H := HA.out
                    clear HA
                    simp only [spec_l01Digits.j3] at H
                    by_cases c19 : x38_12 = true
                    · subst c19
                      have H1 : (if 0 ≤ x5_1 then (if x5_1 < (a0.size : Int) then (if ((((bt a0 x5_1) - 97) % 256) + 10) < 0 then (some (0, false)) else (spec_l01Digits.l0 kj12 a0 (wrap64 ((wrap64 (16 * x4_1)) + ((((bt a0 x5_1) - 97) % 256) + 10))) (wrap64 (x5_1 + 1)))) else (none)) else (none)) = some (r1, r2) := by rw [if_pos rfl] at H; exact H
                      clear H
                      have H := H1
                      clear H1
                      by_cases c20 : 0 ≤ x5_1
                      · rw [if_pos c20] at H
                        have c20b0 : decide (0 ≤ x5_1) = true := decide_eq_true c20
                        clear c20
                        by_cases c21 : x5_1 < (a0.size : Int)
                        · rw [if_pos c21] at H
                          have c21b0 : decide (x5_1 < (a0.size : Int)) = true := decide_eq_true c21
                          clear c21
                          by_cases c23 : ((((bt a0 x5_1) - 97) % 256) + 10) < 0
                          · rw [if_pos c23] at H
                            have c23b0 : decide (((((bt a0 x5_1) - 97) % 256) + 10) < 0) = true := decide_eq_true c23
                            clear c23
                            simp only [Option.some.injEq, Prod.mk.injEq] at H
                            obtain ⟨rfl, rfl⟩ := H
                            have p22 : 0 ≤ (x5_1 : Int) := of_decide_eq_true (by first | (with_reducible assumption) | assumption)
                            have q22 : x5_1 < (a0.size : Int) := of_decide_eq_true (by first | (with_reducible assumption) | assumption)
                            have hx22 := bt_at a0 x5_1
                            replace p22 := eq_true p22
                            replace q22 := eq_true q22
                            go_wp2
                            go_ret2
                            exact ⟨by first | rfl | (simp; done) | (simp [*]; done), by repeat (first | exact Drawn0.refl _ | apply Drawn0.step)⟩
                          · rw [if_neg c23] at H
                            have c23b0 : decide (((((bt a0 x5_1) - 97) % 256) + 10) < 0) = false := decide_eq_false c23
                            clear c23
                            have H' := Aside0.mk H
                            clear H
                            have p22 : 0 ≤ (x5_1 : Int) := of_decide_eq_true (by first | (with_reducible assumption) | assumption)
                            have q22 : x5_1 < (a0.size : Int) := of_decide_eq_true (by first | (with_reducible assumption) | assumption)
                            have hx22 := bt_at a0 x5_1
                            replace p22 := eq_true p22
                            replace q22 := eq_true q22
                            go_wp2
                            go_roundg kj12
                            case measure => have := HK1.out; have := HJ2.out; have := HJ7.out; have := HJ12.out; omega
                            case rel => exact ⟨(wrap64 ((wrap64 (16 * x4_1)) + ((((bt a0 x5_1) - 97) % 256) + 10))), (wrap64 (x5_1 + 1)), (by first | rfl | (simp; done) | (simp [*]; done)), (by first | rfl | (simp; done) | (simp [*]; done)), H', ⟨by have := HK1.out; have := HJ2.out; have := HJ7.out; have := HJ12.out; omega⟩, by repeat (first | exact Drawn0.refl _ | apply Drawn0.step)⟩
                        · rw [if_neg c21] at H
                          exact absurd H (by simp)
                      · rw [if_neg c20] at H
                        exact absurd H (by simp)
                    · replace c19 := Bool.eq_false_iff.mpr c19
                      subst c19
                      have H1 : (if x6_7 < 0 then (some (0, false)) else (spec_l01Digits.l0 kj12 a0 (wrap64 ((wrap64 (16 * x4_1)) + x6_7)) (wrap64 (x5_1 + 1)))) = some (r1, r2) := by rw [if_neg (show ¬ (false = true) by decide)] at H; exact H
                      clear H
                      have H := H1
                      clear H1
                      by_cases c24 : x6_7 < 0
                      · rw [if_pos c24] at H
                        have c24b0 : decide (x6_7 < 0) = true := decide_eq_true c24
                        clear c24
                        simp only [Option.some.injEq, Prod.mk.injEq] at H
                        obtain ⟨rfl, rfl⟩ := H
                        go_wp2
                        go_ret2
                        exact ⟨by first | rfl | (simp; done) | (simp [*]; done), by repeat (first | exact Drawn0.refl _ | apply Drawn0.step)⟩
                      · rw [if_neg c24] at H
                        have c24b0 : decide (x6_7 < 0) = false := decide_eq_false c24
                        clear c24
                        have H' := Aside0.mk H
                        clear H
                        go_wp2
                        go_roundg kj12
                        case measure => have := HK1.out; have := HJ2.out; have := HJ7.out; have := HJ12.out; omega
                        case rel => exact ⟨(wrap64 ((wrap64 (16 * x4_1)) + x6_7)), (wrap64 (x5_1 + 1)), (by first | rfl | (simp; done) | (simp [*]; done)), (by first | rfl | (simp; done) | (simp [*]; done)), H', ⟨by have := HK1.out; have := HJ2.out; have := HJ7.out; have := HJ12.out; omega⟩, by repeat (first | exact Drawn0.refl _ | apply Drawn0.step)⟩
      · rw [if_neg c2] at H
        have c2b0 : decide (x5_1 < (a0.size : Int)) = false := decide_eq_false c2
        clear c2
        replace H := Option.bind_eq_some_iff.mp H
        obtain ⟨t177, A250, H⟩ := H
        replace H : ((spec_l01Bits.f t177).bind fun t178 => (if t178 = x4_1 then (some (t177, true)) else (some (0, false)))) = some (r1, r2) := H
        have A25 := Aside0.mk A250
        clear A250
        replace H := Option.bind_eq_some_iff.mp H
        obtain ⟨t178, A260, H⟩ := H
        replace H : (if t178 = x4_1 then (some (t177, true)) else (some (0, false))) = some (r1, r2) := H
        have A26 := Aside0.mk A260
        clear A260
        by_cases c27 : t178 = x4_1
        · rw [if_pos c27] at H
          have c27b0 : (t178 == x4_1) = true := beq_iff_eq.mpr c27
          have c27b1 : (t178 != x4_1) = false := bne_eq_false_iff_eq.mpr c27
          clear c27
          simp only [Option.some.injEq, Prod.mk.injEq] at H
          obtain ⟨rfl, rfl⟩ := H
          go_wp2_with (first | ((with_reducible refine gate_callee (f := 62) rfl ?_); refine goesL_ (some 52) rfl rfl Tryd.func62 (by kernel_rfl) rfl #[.int .i64 x4_1] rfl (by (try simp only [List.map_toArray, List.map_cons, List.map_nil]); first | done | rfl | (simp only [List.length_drop, List.length_take]; rfl)) ?_; (with_reducible refine (spec_l01From.calls x4_1 t177 _ A25.out).mono ?_); rintro e w' ⟨rfl, ⟨nd, rfl⟩⟩; refine ⟨_, rfl, ?_⟩) | ((with_reducible refine gate_callee (f := 63) rfl ?_); refine goesL_ (some 54) rfl rfl Tryd.func63 (by kernel_rfl) rfl #[FV t177] rfl (by (try simp only [List.map_toArray, List.map_cons, List.map_nil]); first | done | rfl | (simp only [List.length_drop, List.length_take]; rfl)) ?_; (with_reducible refine (spec_l01Bits.calls t177 t178 _ A26.out).mono ?_); rintro e w' ⟨rfl, ⟨nd, rfl⟩⟩; refine ⟨_, rfl, ?_⟩))
          go_ret2
          exact ⟨by first | rfl | (simp; done) | (simp [*]; done), by repeat (first | exact Drawn0.refl _ | apply Drawn0.step)⟩
        · rw [if_neg c27] at H
          have c27b0 : (t178 == x4_1) = false := beq_eq_false_iff_ne.mpr c27
          have c27b1 : (t178 != x4_1) = true := bne_iff_ne.mpr c27
          simp only [Option.some.injEq, Prod.mk.injEq] at H
          obtain ⟨rfl, rfl⟩ := H
          go_wp2_with (first | ((with_reducible refine gate_callee (f := 62) rfl ?_); refine goesL_ (some 52) rfl rfl Tryd.func62 (by kernel_rfl) rfl #[.int .i64 x4_1] rfl (by (try simp only [List.map_toArray, List.map_cons, List.map_nil]); first | done | rfl | (simp only [List.length_drop, List.length_take]; rfl)) ?_; (with_reducible refine (spec_l01From.calls x4_1 t177 _ A25.out).mono ?_); rintro e w' ⟨rfl, ⟨nd, rfl⟩⟩; refine ⟨_, rfl, ?_⟩) | ((with_reducible refine gate_callee (f := 63) rfl ?_); refine goesL_ (some 54) rfl rfl Tryd.func63 (by kernel_rfl) rfl #[FV t177] rfl (by (try simp only [List.map_toArray, List.map_cons, List.map_nil]); first | done | rfl | (simp only [List.length_drop, List.length_take]; rfl)) ?_; (with_reducible refine (spec_l01Bits.calls t177 t178 _ A26.out).mono ?_); rintro e w' ⟨rfl, ⟨nd, rfl⟩⟩; refine ⟨_, rfl, ?_⟩))
          go_ret2
          exact ⟨by first | rfl | (simp; done) | (simp [*]; done), by repeat (first | exact Drawn0.refl _ | apply Drawn0.step)⟩

/-! ### spec_l01CRead: function 43 -/
def spec_l01CRead.l0 : Nat → List Int → List ByteArray → Int → Option (List Int × Bool)
  | 0, _, _, _ => none
  | k + 1, x4, x5, x6 => if x6 < (x5.length : Int) then (if 0 ≤ x6 then (if ((rdOf ByteArray.empty x5 x6).size : Int) = 16 then (if 0 ≤ 8 then (if 8 ≤ ((rdOf ByteArray.empty x5 x6).size : Int) then ((spec_l01Digits.f k ((rdOf ByteArray.empty x5 x6).extract 0 8)).bind fun bt187 => ((spec_l01Digits.f k ((rdOf ByteArray.empty x5 x6).extract 8 (rdOf ByteArray.empty x5 x6).size)).bind fun bt190 => (if bt187.2 = true then (if bt190.2 = true then ((cpx.f bt187.1 bt190.1).bind fun t192 => (if x4.length < 17592186044416 then (spec_l01CRead.l0 k (x4 ++ [t192]) x5 (wrap64 (x6 + 1))) else (none))) else (some (([] : List Int), false))) else (some (([] : List Int), false))))) else (none)) else (none)) else (some (([] : List Int), false))) else (none)) else (some (x4, true))
def spec_l01CRead.f (k : Nat) (a0 : ByteArray) : Option (List Int × Bool) := (some (([] : List Int) : List Int)).bind fun y179 => (if a0.toList = ([110, 111, 110, 101] : List UInt8) then (some (y179, true)) else ((spec_l01Cut.f k a0 44).bind fun t182 => (if (t182.length : Int) > 256 then (some (([] : List Int), false)) else (spec_l01CRead.l0 k y179 t182 0))))
theorem spec_l01CRead.mono_l : ∀ k, (∀ y0 y1 y2, LeO (spec_l01CRead.l0 k y0 y1 y2) (spec_l01CRead.l0 (k + 1) y0 y1 y2))
  | 0 => fun _ _ _ r h => by simp [spec_l01CRead.l0] at h
  | k + 1 => by
    have ih0 := spec_l01CRead.mono_l k
    · intro y0 y1 y2
      unfold spec_l01CRead.l0
      repeat' first
      | (with_reducible exact ih0 _ _ _)
      | (with_reducible exact spec_l01Cut.mono _ _ _)
      | (with_reducible exact spec_l01Digits.mono _ _)
      | (with_reducible exact LeO.refl _)
      | (with_reducible exact LeO.none _)
      | (with_reducible refine LeO.ite ?_ ?_)
      | (with_reducible refine LeO.bind ?_ (fun _ => ?_))
      | exact ih0 _ _ _
      | exact spec_l01Cut.mono _ _ _
      | exact spec_l01Digits.mono _ _
      | exact LeO.none _
      | refine LeO.ite ?_ ?_
      | refine LeO.bind ?_ (fun _ => ?_)
theorem spec_l01CRead.mono : ∀ a0 k, LeO (spec_l01CRead.f k a0) (spec_l01CRead.f (k + 1) a0) := by
  intro a0 k
  have ih0 := spec_l01CRead.mono_l k
  unfold spec_l01CRead.f
  repeat' first
      | (with_reducible exact ih0 _ _ _)
      | (with_reducible exact spec_l01Cut.mono _ _ _)
      | (with_reducible exact spec_l01Digits.mono _ _)
      | (with_reducible exact LeO.refl _)
      | (with_reducible exact LeO.none _)
      | (with_reducible refine LeO.ite ?_ ?_)
      | (with_reducible refine LeO.bind ?_ (fun _ => ?_))
      | exact ih0 _ _ _
      | exact spec_l01Cut.mono _ _ _
      | exact spec_l01Digits.mono _ _
      | exact LeO.none _
      | refine LeO.ite ?_ ?_
      | refine LeO.bind ?_ (fun _ => ?_)
set_option maxHeartbeats 8000000 in
set_option maxRecDepth 100000 in
theorem spec_l01CRead.calls (k : Nat) (a0 : ByteArray) (r1 : List Int) (r2 : Bool) (w : World) (h : spec_l01CRead.f k a0 = some (r1, r2)) :
    Calls Tryd.prog 43 #[.string a0] w fun e w' => ∃ v0_ : Value, e = .returned (.tuple #[v0_, .bool r2]) ∧ Kd.R CKI 58 w' w.heap.size (fun _ => True) v0_ r1 ∧ Below w.heap.size w w' := by
  have HB := Aside0.mk (Below.refl w.heap.size w)
  have H : ((some (([] : List Int) : List Int)).bind fun y179 => (if a0.toList = ([110, 111, 110, 101] : List UInt8) then (some (y179, true)) else ((spec_l01Cut.f k a0 44).bind fun t182 => (if (t182.length : Int) > 256 then (some (([] : List Int), false)) else (spec_l01CRead.l0 k y179 t182 0))))) = some (r1, r2) := h
  clear h
  obtain ⟨y179, hy179⟩ : ∃ y_ : List Int, y_ = (([] : List Int)) := ⟨_, rfl⟩
  replace H : (if a0.toList = ([110, 111, 110, 101] : List UInt8) then (some (y179, true)) else ((spec_l01Cut.f k a0 44).bind fun t182 => (if (t182.length : Int) > 256 then (some (([] : List Int), false)) else (spec_l01CRead.l0 k y179 t182 0)))) = some (r1, r2) := by first | (rw [hy179]; with_reducible exact H) | (have H2_ := (Option.bind_some _ _).symm.trans H; rw [hy179]; with_reducible exact H2_) | (have H2_ := (Option.bind_some _ _).symm.trans H; with_reducible exact H2_) | with_reducible exact H | (rw [hy179]; exact H) | exact H
  have Ny179 := Aside0.mk hy179
  clear hy179
  by_cases c2 : a0.toList = ([110, 111, 110, 101] : List UInt8)
  · rw [if_pos c2] at H
    have c2b0 : (a0.toList == ([110, 111, 110, 101] : List UInt8)) = true := beq_iff_eq.mpr c2
    have c2b1 : (a0.toList != ([110, 111, 110, 101] : List UInt8)) = false := bne_eq_false_iff_eq.mpr c2
    clear c2
    simp only [Option.some.injEq, Prod.mk.injEq] at H
    obtain ⟨rfl, rfl⟩ := H
    go_enter Tryd.func43, Tryd.ntmps43
    go_wp2_with (first | ((with_reducible refine gate_dst (N := 11) rfl ?_); refine Kd.R_lit CKI _ 58 ?hg (N := 11) ?hd (xs := ([] : List Int)) (inner := []) (ok := fun _ => True) (okp := fun _ => True) ?hr ?hp (fun _ hk => hk) trivial (Below.refl _ _) (Nat.le_refl _) (by simp) ?_; (case hd => rfl); (case hg => rfl); (case hr => first | (go_simp; done) | (go_simp; rfl)); (case hp => exact (Reps.none _ _)); intro v180 w3 ho4 hb hg_ hnew_; clear hg_ hnew_; (first | rw [← Ny179.out] at ho4 | (simp only [Int.reduceToNat] at ho4; rw [← Ny179.out] at ho4)); have n0_ := Aside0.mk (Kd.R_lower ho4 (below_size (by repeat (first | (with_reducible first | exact HB.out | apply below_alloc | apply pw_below_drewN | apply below_drew1) | exact HB.out)))); have n1_ := Aside0.mk (below_step (by repeat (first | (with_reducible first | exact HB.out | apply below_alloc | apply pw_below_drewN | apply below_drew1) | exact HB.out)) hb); clear HB; have HO181 := n0_; have HB := n1_; clear n0_ n1_; clear hb ho4))
    go_ret2
    exact ⟨_, by first | rfl | (simp [errW_none, errW_some] <;> rfl) | (simp [*, errW_none, errW_some] <;> rfl), by (with_reducible repeat (first | apply Kd.R_alloc | apply Kd.R_drewN | apply Kd.R_drew)); exact HO181.out, by repeat (first | (with_reducible first | exact HB.out | apply below_alloc | apply pw_below_drewN | apply below_drew1) | exact HB.out)⟩
  · rw [if_neg c2] at H
    have c2b0 : (a0.toList == ([110, 111, 110, 101] : List UInt8)) = false := beq_eq_false_iff_ne.mpr c2
    have c2b1 : (a0.toList != ([110, 111, 110, 101] : List UInt8)) = true := bne_iff_ne.mpr c2
    replace H := Option.bind_eq_some_iff.mp H
    obtain ⟨t182, A50, H⟩ := H
    replace H : (if (t182.length : Int) > 256 then (some (([] : List Int), false)) else (spec_l01CRead.l0 k y179 t182 0)) = some (r1, r2) := H
    have A5 := Aside0.mk A50
    clear A50
    by_cases c6 : (t182.length : Int) > 256
    · rw [if_pos c6] at H
      have c6b0 : decide (256 < (t182.length : Int)) = true := decide_eq_true c6
      have c6b1 : decide (256 < t182.length) = true := decide_eq_true (by omega)
      clear c6
      simp only [Option.some.injEq, Prod.mk.injEq] at H
      obtain ⟨rfl, rfl⟩ := H
      go_enter Tryd.func43, Tryd.ntmps43
      go_wp2_with (first | ((with_reducible refine gate_dst (N := 11) rfl ?_); refine Kd.R_lit CKI _ 58 ?hg (N := 11) ?hd (xs := ([] : List Int)) (inner := []) (ok := fun _ => True) (okp := fun _ => True) ?hr ?hp (fun _ hk => hk) trivial (Below.refl _ _) (Nat.le_refl _) (by simp) ?_; (case hd => rfl); (case hg => rfl); (case hr => first | (go_simp; done) | (go_simp; rfl)); (case hp => exact (Reps.none _ _)); intro v180 w7 ho8 hb hg_ hnew_; clear hg_ hnew_; (first | rw [← Ny179.out] at ho8 | (simp only [Int.reduceToNat] at ho8; rw [← Ny179.out] at ho8)); have n0_ := Aside0.mk (Kd.R_lower ho8 (below_size (by repeat (first | (with_reducible first | exact HB.out | apply below_alloc | apply pw_below_drewN | apply below_drew1) | exact HB.out)))); have n1_ := Aside0.mk (below_step (by repeat (first | (with_reducible first | exact HB.out | apply below_alloc | apply pw_below_drewN | apply below_drew1) | exact HB.out)) hb); clear HB; have HO181 := n0_; have HB := n1_; clear n0_ n1_; clear hb ho8) | ((with_reducible refine gate_callee (f := 61) rfl ?_); refine goesL_ (some 16) rfl rfl Tryd.func61 (by kernel_rfl) rfl #[.string a0, .int .u8 44] rfl (by (try simp only [List.map_toArray, List.map_cons, List.map_nil]); first | done | rfl | (simp only [List.length_drop, List.length_take]; rfl)) ?_; (with_reducible refine (spec_l01Cut.calls k a0 44 t182 _ A5.out).mono ?_); rintro e w9 ⟨v183, rfl, ho0, hb⟩; refine ⟨_, rfl, ?_⟩; have n0_ := Aside0.mk (Kd.R_below (by (with_reducible repeat (first | apply Kd.R_alloc | apply Kd.R_drewN | apply Kd.R_drew)); exact HO181.out) hb); have n1_ := Aside0.mk (Kd.R_lower ho0 (below_size (by repeat (first | (with_reducible first | exact HB.out | apply below_alloc | apply pw_below_drewN | apply below_drew1) | exact HB.out)))); have n2_ := Aside0.mk (below_step (by repeat (first | (with_reducible first | exact HB.out | apply below_alloc | apply pw_below_drewN | apply below_drew1) | exact HB.out)) hb); clear HO181; clear HB; have HO181 := n0_; have HO184 := n1_; have HB := n2_; clear n0_ n1_ n2_; (try clear hb); (try clear hb2); (try clear hk); (try clear hi); (try clear ho0); obtain ⟨Ao10, co10, eo10⟩ := Kd.R_slice HO184.out; subst eo10))
      go_ret2
      exact ⟨_, by first | rfl | (simp [errW_none, errW_some] <;> rfl) | (simp [*, errW_none, errW_some] <;> rfl), by first | exact Kd.R_nil _ _ _ _ _ | exact Kd.N_nil _ _ _ _ _ | exact Kd.V_nil _ _ _ _ _ | exact Kd.Q_nil _ _ _ _ _ | exact Kd.S_nil _ _ _ _ _, by repeat (first | (with_reducible first | exact HB.out | apply below_alloc | apply pw_below_drewN | apply below_drew1) | exact HB.out)⟩
    · rw [if_neg c6] at H
      have c6b0 : decide (256 < (t182.length : Int)) = false := decide_eq_false c6
      have c6b1 : decide (256 < t182.length) = false := decide_eq_false (by omega)
      clear c6
      have H' := Aside0.mk H
      clear H
      go_enter Tryd.func43, Tryd.ntmps43
      go_wp2_with (first | ((with_reducible refine gate_dst (N := 11) rfl ?_); refine Kd.R_lit CKI _ 58 ?hg (N := 11) ?hd (xs := ([] : List Int)) (inner := []) (ok := fun _ => True) (okp := fun _ => True) ?hr ?hp (fun _ hk => hk) trivial (Below.refl _ _) (Nat.le_refl _) (by simp) ?_; (case hd => rfl); (case hg => rfl); (case hr => first | (go_simp; done) | (go_simp; rfl)); (case hp => exact (Reps.none _ _)); intro v180 w11 ho12 hb hg_ hnew_; clear hg_ hnew_; (first | rw [← Ny179.out] at ho12 | (simp only [Int.reduceToNat] at ho12; rw [← Ny179.out] at ho12)); have n0_ := Aside0.mk (Kd.R_lower ho12 (below_size (by repeat (first | (with_reducible first | exact HB.out | apply below_alloc | apply pw_below_drewN | apply below_drew1) | exact HB.out)))); have n1_ := Aside0.mk (below_step (by repeat (first | (with_reducible first | exact HB.out | apply below_alloc | apply pw_below_drewN | apply below_drew1) | exact HB.out)) hb); clear HB; have HO181 := n0_; have HB := n1_; clear n0_ n1_; clear hb ho12) | ((with_reducible refine gate_callee (f := 61) rfl ?_); refine goesL_ (some 16) rfl rfl Tryd.func61 (by kernel_rfl) rfl #[.string a0, .int .u8 44] rfl (by (try simp only [List.map_toArray, List.map_cons, List.map_nil]); first | done | rfl | (simp only [List.length_drop, List.length_take]; rfl)) ?_; (with_reducible refine (spec_l01Cut.calls k a0 44 t182 _ A5.out).mono ?_); rintro e w13 ⟨v183, rfl, ho0, hb⟩; refine ⟨_, rfl, ?_⟩; have n0_ := Aside0.mk (Kd.R_below (by (with_reducible repeat (first | apply Kd.R_alloc | apply Kd.R_drewN | apply Kd.R_drew)); exact HO181.out) hb); have n1_ := Aside0.mk (Kd.R_lower ho0 (below_size (by repeat (first | (with_reducible first | exact HB.out | apply below_alloc | apply pw_below_drewN | apply below_drew1) | exact HB.out)))); have n2_ := Aside0.mk (below_step (by repeat (first | (with_reducible first | exact HB.out | apply below_alloc | apply pw_below_drewN | apply below_drew1) | exact HB.out)) hb); clear HO181; clear HB; have HO181 := n0_; have HO184 := n1_; have HB := n2_; clear n0_ n1_ n2_; (try clear hb); (try clear hb2); (try clear hk); (try clear hi); (try clear ho0); obtain ⟨Ao14, co14, eo14⟩ := Kd.R_slice HO184.out; subst eo14))
      go_loopg [4, 6] k (fun kq v4 v6 w' => ∃ (x4_1 : List Int) (x6_1 : Int), v6 = .int .i64 x6_1 ∧ Aside0 (spec_l01CRead.l0 kq x4_1 t182 x6_1 = some (r1, r2)) ∧ Aside0 (kq ≤ k) ∧ Aside0 (Kd.R CKI 58 w' w.heap.size (fun _ => True) v4 x4_1) ∧ Aside0 (Kd.R Kd.string 9 w' w.heap.size (fun _ => True) (.slice Ao14 t182.length co14) t182) ∧ Aside0 (Below w.heap.size w w'))
      case atStart => exact ⟨(y179), (0), (by first | rfl | (simp; done) | (simp [*]; done)), H', ⟨Nat.le_refl _⟩, ⟨by (with_reducible repeat (first | apply Kd.R_alloc | apply Kd.R_drewN | apply Kd.R_drew)); exact HO181.out⟩, ⟨by (with_reducible repeat (first | apply Kd.R_alloc | apply Kd.R_drewN | apply Kd.R_drew)); exact HO184.out⟩, ⟨by repeat (first | (with_reducible first | exact HB.out | apply below_alloc | apply pw_below_drewN | apply below_drew1) | exact HB.out)⟩⟩
      case round =>
        clear H'
        try clear c2
        try clear c2b0
        try clear c2b1
        try clear p2
        try clear c4
        try clear c6
        try clear c6b0
        try clear c6b1
        obtain ⟨x4_1, x6_1, rfl, HA, HK1, HO_4, HO_5, HB⟩ := hrel
        cases gk with
        | zero => exact absurd HA.out (by simp [spec_l01CRead.l0])
        | succ k1 =>
          have H := HA.out
          clear HA
          simp only [spec_l01CRead.l0] at H
          by_cases c15 : x6_1 < (t182.length : Int)
          · rw [if_pos c15] at H
            have c15b0 : decide (x6_1 < (t182.length : Int)) = true := decide_eq_true c15
            clear c15
            by_cases c16 : 0 ≤ x6_1
            · rw [if_pos c16] at H
              have c16b0 : decide (0 ≤ x6_1) = true := decide_eq_true c16
              clear c16
              by_cases c17 : ((rdOf ByteArray.empty t182 x6_1).size : Int) = 16
              · rw [if_pos c17] at H
                have c17b0 : (((rdOf ByteArray.empty t182 x6_1).size : Int) == 16) = true := beq_iff_eq.mpr c17
                have c17b1 : (((rdOf ByteArray.empty t182 x6_1).size : Int) != 16) = false := bne_eq_false_iff_eq.mpr c17
                clear c17
                by_cases c18 : 0 ≤ 8
                · rw [if_pos c18] at H
                  have c18b0 := eq_true c18
                  have c18b1 : decide (0 ≤ 8) = true := decide_eq_true c18
                  clear c18
                  by_cases c19 : 8 ≤ ((rdOf ByteArray.empty t182 x6_1).size : Int)
                  · rw [if_pos c19] at H
                    have c19b0 := eq_true c19
                    have c19b1 : decide (8 ≤ ((rdOf ByteArray.empty t182 x6_1).size : Int)) = true := decide_eq_true c19
                    clear c19
                    replace H := Option.bind_eq_some_iff.mp H
                    obtain ⟨⟨t187, t188⟩, A200, H⟩ := H
                    replace H : ((spec_l01Digits.f k1 ((rdOf ByteArray.empty t182 x6_1).extract 8 (rdOf ByteArray.empty t182 x6_1).size)).bind fun bt190 => (if t188 = true then (if bt190.2 = true then ((cpx.f t187 bt190.1).bind fun t192 => (if x4_1.length < 17592186044416 then (spec_l01CRead.l0 k1 (x4_1 ++ [t192]) t182 (wrap64 (x6_1 + 1))) else (none))) else (some (([] : List Int), false))) else (some (([] : List Int), false)))) = some (r1, r2) := H
                    have A20 := Aside0.mk A200
                    clear A200
                    have c21b0 := eq_true (of_decide_eq_true (by first | (with_reducible assumption) | assumption) : 8 ≤ ((rdOf ByteArray.empty t182 x6_1).size : Int))
                    replace H := Option.bind_eq_some_iff.mp H
                    obtain ⟨⟨t190, t191⟩, A220, H⟩ := H
                    replace H : (if t188 = true then (if t191 = true then ((cpx.f t187 t190).bind fun t192 => (if x4_1.length < 17592186044416 then (spec_l01CRead.l0 k1 (x4_1 ++ [t192]) t182 (wrap64 (x6_1 + 1))) else (none))) else (some (([] : List Int), false))) else (some (([] : List Int), false))) = some (r1, r2) := H
                    have A22 := Aside0.mk A220
                    clear A220
                    by_cases c23 : t188 = true
                    · subst c23
                      have H1 : (if t191 = true then ((cpx.f t187 t190).bind fun t192 => (if x4_1.length < 17592186044416 then (spec_l01CRead.l0 k1 (x4_1 ++ [t192]) t182 (wrap64 (x6_1 + 1))) else (none))) else (some (([] : List Int), false))) = some (r1, r2) := by rw [if_pos rfl] at H; exact H
                      clear H
                      have H := H1
                      clear H1
                      by_cases c24 : t191 = true
                      · subst c24
                        have H1 : ((cpx.f t187 t190).bind fun t192 => (if x4_1.length < 17592186044416 then (spec_l01CRead.l0 k1 (x4_1 ++ [t192]) t182 (wrap64 (x6_1 + 1))) else (none))) = some (r1, r2) := by rw [if_pos rfl] at H; exact H
                        clear H
                        have H := H1
                        clear H1
                        replace H := Option.bind_eq_some_iff.mp H
                        obtain ⟨t192, A250, H⟩ := H
                        replace H : (if x4_1.length < 17592186044416 then (spec_l01CRead.l0 k1 (x4_1 ++ [t192]) t182 (wrap64 (x6_1 + 1))) else (none)) = some (r1, r2) := H
                        have A25 := Aside0.mk A250
                        clear A250
                        by_cases c26 : x4_1.length < 17592186044416
                        · rw [if_pos c26] at H
                          have LMc26 := Aside0.mk c26
                          clear c26
                          obtain ⟨y193, hy193⟩ : ∃ y_ : List Int, y_ = (x4_1 ++ [t192]) := ⟨_, rfl⟩
                          replace H : (spec_l01CRead.l0 k1 y193 t182 (wrap64 (x6_1 + 1))) = some (r1, r2) := by first | (rw [hy193]; with_reducible exact H) | (have H2_ := (Option.bind_some _ _).symm.trans H; rw [hy193]; with_reducible exact H2_) | (have H2_ := (Option.bind_some _ _).symm.trans H; with_reducible exact H2_) | with_reducible exact H | (rw [hy193]; exact H) | exact H
                          have Ny193 := Aside0.mk hy193
                          clear hy193
                          have H' := Aside0.mk H
                          clear H
                          have p185 : 0 ≤ (x6_1 : Int) := of_decide_eq_true (by first | (with_reducible assumption) | assumption)
                          have q185 : x6_1 < (t182.length : Int) := of_decide_eq_true (by first | (with_reducible assumption) | assumption)
                          obtain ⟨ad185, e185, hx185_0⟩ := Kd.at_string (Kd.R_reads' HO_5.out).2.2 x6_1 p185 q185
                          cases e185
                          replace p185 := eq_true p185
                          replace q185 := eq_true q185
                          have p186 : 0 ≤ (x6_1 : Int) := of_decide_eq_true (by first | (with_reducible assumption) | assumption)
                          have q186 : x6_1 < (t182.length : Int) := of_decide_eq_true (by first | (with_reducible assumption) | assumption)
                          obtain ⟨ad186, e186, hx186_0⟩ := Kd.at_string (Kd.R_reads' HO_5.out).2.2 x6_1 p186 q186
                          obtain rfl : ad185 = ad186 := (by injection e186)
                          replace p186 := eq_true p186
                          replace q186 := eq_true q186
                          have EC_ := cpx.is A25.out
                          go_wp2_with (first | ((with_reducible refine gate_callee (f := 67) rfl ?_); refine goesL_ (some 38) rfl rfl Tryd.func67 (by kernel_rfl) rfl #[.string ((rdOf ByteArray.empty t182 x6_1).extract 0 8)] rfl (by (try simp only [List.map_toArray, List.map_cons, List.map_nil]); first | done | rfl | (simp only [List.length_drop, List.length_take]; rfl)) ?_; (with_reducible refine (spec_l01Digits.calls k1 ((rdOf ByteArray.empty t182 x6_1).extract 0 8) t187 true _ A20.out).mono ?_); rintro e w' ⟨rfl, ⟨nd, rfl⟩⟩; refine ⟨_, rfl, ?_⟩; have p189 : 0 ≤ (x6_1 : Int) := of_decide_eq_true (by first | (with_reducible assumption) | assumption); have q189 : x6_1 < (t182.length : Int) := of_decide_eq_true (by first | (with_reducible assumption) | assumption); obtain ⟨ad189, e189, hx189_0⟩ := Kd.at_string (Kd.R_reads' HO_5.out).2.2 x6_1 p189 q189; obtain rfl : ad185 = ad189 := (by injection e189); replace p189 := eq_true p189; replace q189 := eq_true q189) | ((with_reducible refine gate_callee (f := 67) rfl ?_); refine goesL_ (some 47) rfl rfl Tryd.func67 (by kernel_rfl) rfl #[.string ((rdOf ByteArray.empty t182 x6_1).extract 8 (rdOf ByteArray.empty t182 x6_1).size)] rfl (by (try simp only [List.map_toArray, List.map_cons, List.map_nil]); first | done | rfl | (simp only [List.length_drop, List.length_take]; rfl)) ?_; (with_reducible refine (spec_l01Digits.calls k1 ((rdOf ByteArray.empty t182 x6_1).extract 8 (rdOf ByteArray.empty t182 x6_1).size) t190 true _ A22.out).mono ?_); rintro e w' ⟨rfl, ⟨nd, rfl⟩⟩; refine ⟨_, rfl, ?_⟩) | ((with_reducible refine gate_builtin (b := .append) (xs := #[.tmp 56, .tmp 60]) rfl ?_); at_builtin; refine Kd.R_append CKI (w0 := w) w.heap.size rfl (.tmp 56) (.tmp 60) 32 58 (.complex .f32 0 0) 8 rfl Tryd.underlying32 info58 rfl (by decide) (by omega) u4 x4_1 t192 [CV t192] (fun _ => True) (fun _ => False) rfl rfl ?aP (fun _ hk => hk.elim) ?aF ?aO ?aB ?aS ?aL ?_; (case aP => exact rfl); (case aB => exact (by repeat (first | (with_reducible first | exact HB.out | apply below_alloc | apply pw_below_drewN | apply below_drew1) | exact HB.out))); (case aF => exact (fun _ _ => trivial)); (case aO => exact (by (with_reducible repeat (first | apply Kd.R_alloc | apply Kd.R_drewN | apply Kd.R_drew)); exact HO_4.out)); (case aS => exact (below_size (by repeat (first | (with_reducible first | exact HB.out | apply below_alloc | apply pw_below_drewN | apply below_drew1) | exact HB.out)))); (case aL => have := LMc26.out; omega); intro v194 w27 ho hb hg hat; rw [← Ny193.out] at ho; have n0_ := Aside0.mk (Kd.R_over' (by (with_reducible repeat (first | apply Kd.R_alloc | apply Kd.R_drewN | apply Kd.R_drew)); exact HO_5.out) (Kd.R_typed (by (with_reducible repeat (first | apply Kd.R_alloc | apply Kd.R_drewN | apply Kd.R_drew)); exact HO_4.out)) (by decide) hg); have n1_ := Aside0.mk (hb); have n2_ := Aside0.mk (ho); clear HO_5; clear HB; clear HO_4; have HO_5 := n0_; have HB := n1_; have HO195 := n2_; clear n0_ n1_ n2_; clear ho hb hg hat))
                          go_roundg k1
                          case measure => have := HK1.out; omega
                          case rel => exact ⟨(y193), (wrap64 (x6_1 + 1)), (by first | rfl | (simp; done) | (simp [*]; done)), H', ⟨by have := HK1.out; omega⟩, ⟨by (with_reducible repeat (first | apply Kd.R_alloc | apply Kd.R_drewN | apply Kd.R_drew)); exact HO195.out⟩, ⟨by (with_reducible repeat (first | apply Kd.R_alloc | apply Kd.R_drewN | apply Kd.R_drew)); exact HO_5.out⟩, ⟨by repeat (first | (with_reducible first | exact HB.out | apply below_alloc | apply pw_below_drewN | apply below_drew1) | exact HB.out)⟩⟩
                        · rw [if_neg c26] at H
                          exact absurd H (by simp)
                      · replace c24 := Bool.eq_false_iff.mpr c24
                        subst c24
                        have H1 : (some (([] : List Int), false)) = some (r1, r2) := by rw [if_neg (show ¬ (false = true) by decide)] at H; exact H
                        clear H
                        have H := H1
                        clear H1
                        simp only [Option.some.injEq, Prod.mk.injEq] at H
                        obtain ⟨rfl, rfl⟩ := H
                        have p185 : 0 ≤ (x6_1 : Int) := of_decide_eq_true (by first | (with_reducible assumption) | assumption)
                        have q185 : x6_1 < (t182.length : Int) := of_decide_eq_true (by first | (with_reducible assumption) | assumption)
                        obtain ⟨ad185, e185, hx185_0⟩ := Kd.at_string (Kd.R_reads' HO_5.out).2.2 x6_1 p185 q185
                        cases e185
                        replace p185 := eq_true p185
                        replace q185 := eq_true q185
                        have p186 : 0 ≤ (x6_1 : Int) := of_decide_eq_true (by first | (with_reducible assumption) | assumption)
                        have q186 : x6_1 < (t182.length : Int) := of_decide_eq_true (by first | (with_reducible assumption) | assumption)
                        obtain ⟨ad186, e186, hx186_0⟩ := Kd.at_string (Kd.R_reads' HO_5.out).2.2 x6_1 p186 q186
                        obtain rfl : ad185 = ad186 := (by injection e186)
                        replace p186 := eq_true p186
                        replace q186 := eq_true q186
                        go_wp2_with (first | ((with_reducible refine gate_callee (f := 67) rfl ?_); refine goesL_ (some 38) rfl rfl Tryd.func67 (by kernel_rfl) rfl #[.string ((rdOf ByteArray.empty t182 x6_1).extract 0 8)] rfl (by (try simp only [List.map_toArray, List.map_cons, List.map_nil]); first | done | rfl | (simp only [List.length_drop, List.length_take]; rfl)) ?_; (with_reducible refine (spec_l01Digits.calls k1 ((rdOf ByteArray.empty t182 x6_1).extract 0 8) t187 true _ A20.out).mono ?_); rintro e w' ⟨rfl, ⟨nd, rfl⟩⟩; refine ⟨_, rfl, ?_⟩; have p189 : 0 ≤ (x6_1 : Int) := of_decide_eq_true (by first | (with_reducible assumption) | assumption); have q189 : x6_1 < (t182.length : Int) := of_decide_eq_true (by first | (with_reducible assumption) | assumption); obtain ⟨ad189, e189, hx189_0⟩ := Kd.at_string (Kd.R_reads' HO_5.out).2.2 x6_1 p189 q189; obtain rfl : ad185 = ad189 := (by injection e189); replace p189 := eq_true p189; replace q189 := eq_true q189) | ((with_reducible refine gate_callee (f := 67) rfl ?_); refine goesL_ (some 47) rfl rfl Tryd.func67 (by kernel_rfl) rfl #[.string ((rdOf ByteArray.empty t182 x6_1).extract 8 (rdOf ByteArray.empty t182 x6_1).size)] rfl (by (try simp only [List.map_toArray, List.map_cons, List.map_nil]); first | done | rfl | (simp only [List.length_drop, List.length_take]; rfl)) ?_; (with_reducible refine (spec_l01Digits.calls k1 ((rdOf ByteArray.empty t182 x6_1).extract 8 (rdOf ByteArray.empty t182 x6_1).size) t190 false _ A22.out).mono ?_); rintro e w' ⟨rfl, ⟨nd, rfl⟩⟩; refine ⟨_, rfl, ?_⟩))
                        go_ret2
                        exact ⟨_, by first | rfl | (simp [errW_none, errW_some] <;> rfl) | (simp [*, errW_none, errW_some] <;> rfl), by first | exact Kd.R_nil _ _ _ _ _ | exact Kd.N_nil _ _ _ _ _ | exact Kd.V_nil _ _ _ _ _ | exact Kd.Q_nil _ _ _ _ _ | exact Kd.S_nil _ _ _ _ _, by repeat (first | (with_reducible first | exact HB.out | apply below_alloc | apply pw_below_drewN | apply below_drew1) | exact HB.out)⟩
                    · replace c23 := Bool.eq_false_iff.mpr c23
                      subst c23
                      have H1 : (some (([] : List Int), false)) = some (r1, r2) := by rw [if_neg (show ¬ (false = true) by decide)] at H; exact H
                      clear H
                      have H := H1
                      clear H1
                      simp only [Option.some.injEq, Prod.mk.injEq] at H
                      obtain ⟨rfl, rfl⟩ := H
                      have p185 : 0 ≤ (x6_1 : Int) := of_decide_eq_true (by first | (with_reducible assumption) | assumption)
                      have q185 : x6_1 < (t182.length : Int) := of_decide_eq_true (by first | (with_reducible assumption) | assumption)
                      obtain ⟨ad185, e185, hx185_0⟩ := Kd.at_string (Kd.R_reads' HO_5.out).2.2 x6_1 p185 q185
                      cases e185
                      replace p185 := eq_true p185
                      replace q185 := eq_true q185
                      have p186 : 0 ≤ (x6_1 : Int) := of_decide_eq_true (by first | (with_reducible assumption) | assumption)
                      have q186 : x6_1 < (t182.length : Int) := of_decide_eq_true (by first | (with_reducible assumption) | assumption)
                      obtain ⟨ad186, e186, hx186_0⟩ := Kd.at_string (Kd.R_reads' HO_5.out).2.2 x6_1 p186 q186
                      obtain rfl : ad185 = ad186 := (by injection e186)
                      replace p186 := eq_true p186
                      replace q186 := eq_true q186
                      go_wp2_with (first | ((with_reducible refine gate_callee (f := 67) rfl ?_); refine goesL_ (some 38) rfl rfl Tryd.func67 (by kernel_rfl) rfl #[.string ((rdOf ByteArray.empty t182 x6_1).extract 0 8)] rfl (by (try simp only [List.map_toArray, List.map_cons, List.map_nil]); first | done | rfl | (simp only [List.length_drop, List.length_take]; rfl)) ?_; (with_reducible refine (spec_l01Digits.calls k1 ((rdOf ByteArray.empty t182 x6_1).extract 0 8) t187 false _ A20.out).mono ?_); rintro e w' ⟨rfl, ⟨nd, rfl⟩⟩; refine ⟨_, rfl, ?_⟩; have p189 : 0 ≤ (x6_1 : Int) := of_decide_eq_true (by first | (with_reducible assumption) | assumption); have q189 : x6_1 < (t182.length : Int) := of_decide_eq_true (by first | (with_reducible assumption) | assumption); obtain ⟨ad189, e189, hx189_0⟩ := Kd.at_string (Kd.R_reads' HO_5.out).2.2 x6_1 p189 q189; obtain rfl : ad185 = ad189 := (by injection e189); replace p189 := eq_true p189; replace q189 := eq_true q189) | ((with_reducible refine gate_callee (f := 67) rfl ?_); refine goesL_ (some 47) rfl rfl Tryd.func67 (by kernel_rfl) rfl #[.string ((rdOf ByteArray.empty t182 x6_1).extract 8 (rdOf ByteArray.empty t182 x6_1).size)] rfl (by (try simp only [List.map_toArray, List.map_cons, List.map_nil]); first | done | rfl | (simp only [List.length_drop, List.length_take]; rfl)) ?_; (with_reducible refine (spec_l01Digits.calls k1 ((rdOf ByteArray.empty t182 x6_1).extract 8 (rdOf ByteArray.empty t182 x6_1).size) t190 t191 _ A22.out).mono ?_); rintro e w' ⟨rfl, ⟨nd, rfl⟩⟩; refine ⟨_, rfl, ?_⟩))
                      go_ret2
                      exact ⟨_, by first | rfl | (simp [errW_none, errW_some] <;> rfl) | (simp [*, errW_none, errW_some] <;> rfl), by first | exact Kd.R_nil _ _ _ _ _ | exact Kd.N_nil _ _ _ _ _ | exact Kd.V_nil _ _ _ _ _ | exact Kd.Q_nil _ _ _ _ _ | exact Kd.S_nil _ _ _ _ _, by repeat (first | (with_reducible first | exact HB.out | apply below_alloc | apply pw_below_drewN | apply below_drew1) | exact HB.out)⟩
                  · rw [if_neg c19] at H
                    exact absurd H (by simp)
                · rw [if_neg c18] at H
                  exact absurd H (by simp)
              · rw [if_neg c17] at H
                have c17b0 : (((rdOf ByteArray.empty t182 x6_1).size : Int) == 16) = false := beq_eq_false_iff_ne.mpr c17
                have c17b1 : (((rdOf ByteArray.empty t182 x6_1).size : Int) != 16) = true := bne_iff_ne.mpr c17
                simp only [Option.some.injEq, Prod.mk.injEq] at H
                obtain ⟨rfl, rfl⟩ := H
                have p185 : 0 ≤ (x6_1 : Int) := of_decide_eq_true (by first | (with_reducible assumption) | assumption)
                have q185 : x6_1 < (t182.length : Int) := of_decide_eq_true (by first | (with_reducible assumption) | assumption)
                obtain ⟨ad185, e185, hx185_0⟩ := Kd.at_string (Kd.R_reads' HO_5.out).2.2 x6_1 p185 q185
                cases e185
                replace p185 := eq_true p185
                replace q185 := eq_true q185
                go_wp2
                go_ret2
                exact ⟨_, by first | rfl | (simp [errW_none, errW_some] <;> rfl) | (simp [*, errW_none, errW_some] <;> rfl), by first | exact Kd.R_nil _ _ _ _ _ | exact Kd.N_nil _ _ _ _ _ | exact Kd.V_nil _ _ _ _ _ | exact Kd.Q_nil _ _ _ _ _ | exact Kd.S_nil _ _ _ _ _, by repeat (first | (with_reducible first | exact HB.out | apply below_alloc | apply pw_below_drewN | apply below_drew1) | exact HB.out)⟩
            · rw [if_neg c16] at H
              exact absurd H (by simp)
          · rw [if_neg c15] at H
            have c15b0 : decide (x6_1 < (t182.length : Int)) = false := decide_eq_false c15
            clear c15
            simp only [Option.some.injEq, Prod.mk.injEq] at H
            obtain ⟨rfl, rfl⟩ := H
            go_wp2
            go_ret2
            exact ⟨_, by first | rfl | (simp [errW_none, errW_some] <;> rfl) | (simp [*, errW_none, errW_some] <;> rfl), by (with_reducible repeat (first | apply Kd.R_alloc | apply Kd.R_drewN | apply Kd.R_drew)); exact HO_4.out, by repeat (first | (with_reducible first | exact HB.out | apply below_alloc | apply pw_below_drewN | apply below_drew1) | exact HB.out)⟩

/-! ### spec_ReadComplex: function 18 -/
def spec_ReadComplex.f (k : Nat) (a0 : ByteArray) : Option (List Int × Bool) := (spec_l01CRead.f k a0).bind fun bt196 => (some (bt196.1, bt196.2))
theorem spec_ReadComplex.mono : ∀ a0 k, LeO (spec_ReadComplex.f k a0) (spec_ReadComplex.f (k + 1) a0) := by
  intro a0 k
  unfold spec_ReadComplex.f
  repeat' first
      | (with_reducible exact spec_l01CRead.mono _ _)
      | (with_reducible exact LeO.refl _)
      | (with_reducible exact LeO.none _)
      | (with_reducible refine LeO.ite ?_ ?_)
      | (with_reducible refine LeO.bind ?_ (fun _ => ?_))
      | exact spec_l01CRead.mono _ _
      | exact LeO.none _
      | refine LeO.ite ?_ ?_
      | refine LeO.bind ?_ (fun _ => ?_)
set_option maxHeartbeats 8000000 in
set_option maxRecDepth 100000 in
theorem spec_ReadComplex.calls (k : Nat) (a0 : ByteArray) (r1 : List Int) (r2 : Bool) (w : World) (h : spec_ReadComplex.f k a0 = some (r1, r2)) :
    Calls Tryd.prog 18 #[.string a0] w fun e w' => ∃ v0_ : Value, e = .returned (.tuple #[v0_, .bool r2]) ∧ Kd.R CKI 58 w' w.heap.size (fun _ => True) v0_ r1 ∧ Below w.heap.size w w' := by
  have HB := Aside0.mk (Below.refl w.heap.size w)
  have H : ((spec_l01CRead.f k a0).bind fun bt196 => (some (bt196.1, bt196.2))) = some (r1, r2) := h
  clear h
  replace H := Option.bind_eq_some_iff.mp H
  obtain ⟨⟨t196, t197⟩, A20, H⟩ := H
  replace H : (some (t196, t197)) = some (r1, r2) := H
  have A2 := Aside0.mk A20
  clear A20
  simp only [Option.some.injEq, Prod.mk.injEq] at H
  obtain ⟨rfl, rfl⟩ := H
  go_enter Tryd.func18, Tryd.ntmps18
  go_wp2_with (first | ((with_reducible refine gate_callee (f := 43) rfl ?_); refine goesL_ (some 5) rfl rfl Tryd.func43 (by kernel_rfl) rfl #[.string a0] rfl (by (try simp only [List.map_toArray, List.map_cons, List.map_nil]); first | done | rfl | (simp only [List.length_drop, List.length_take]; rfl)) ?_; (with_reducible refine (spec_l01CRead.calls k a0 t196 t197 _ A2.out).mono ?_); rintro e w3 ⟨v198, rfl, ho0, hb⟩; refine ⟨_, rfl, ?_⟩; have n0_ := Aside0.mk (Kd.R_lower ho0 (below_size (by repeat (first | (with_reducible first | exact HB.out | apply below_alloc | apply pw_below_drewN | apply below_drew1) | exact HB.out)))); have n1_ := Aside0.mk (below_step (by repeat (first | (with_reducible first | exact HB.out | apply below_alloc | apply pw_below_drewN | apply below_drew1) | exact HB.out)) hb); clear HB; have HO199 := n0_; have HB := n1_; clear n0_ n1_; (try clear hb); (try clear hb2); (try clear hk); (try clear hi); (try clear ho0)))
  go_ret2
  exact ⟨_, by first | rfl | (simp [errW_none, errW_some] <;> rfl) | (simp [*, errW_none, errW_some] <;> rfl), by (with_reducible repeat (first | apply Kd.R_alloc | apply Kd.R_drewN | apply Kd.R_drew)); exact HO199.out, by repeat (first | (with_reducible first | exact HB.out | apply below_alloc | apply pw_below_drewN | apply below_drew1) | exact HB.out)⟩

end Go.Proofs.YtempeenjpaldaaaDoor.SCpx

namespace Go.Proofs.YtempeenjpaldaaaDoor.SCpx
open Go.RowKit Go.Proofs.YtempeenjpaldaaaDoorW.PrintWords Go.Proofs.YtempeenjpaldaaaDoorW.PrintLast Go.Proofs.YtempeenjpaldaaaDoorW.PrintMore
attribute [local go_sem] max2_int min2_int max_two min_two max_three min_three max_four min_four   -- for this text's walks alone
set_option linter.unusedVariables false
set_option linter.unusedSimpArgs false

open Go.Proofs.YtempeenjpaldaaaDoor.SNum

/-! ### impl_ReadComplex: function 19 -/
mutual
def impl_ReadComplex.l0 : Nat → ByteArray → List Int → List ByteArray → Int → Int → Option (List Int × Bool)
  | 0, _, _, _, _, _ => none
  | k + 1, x0, x4, x11, x12, x13 => if x13 < x12 then (if 0 ≤ x13 then (if x13 < (x11.length : Int) then (if ((rdOf ByteArray.empty x11 x13).size : Int) = 16 then (impl_ReadComplex.j1 k x0 x4 (rdOf ByteArray.empty x11 x13) x11 x12 x13 ((x4.length : Int) == 256)) else (impl_ReadComplex.j1 k x0 x4 (rdOf ByteArray.empty x11 x13) x11 x12 x13 true)) else (none)) else (none)) else ((impl_ComplexText.f k x4).bind fun bt244 => (if bt244.2 = true then (if bt244.1.toList = x0.toList then (some (x4, true)) else (some (([] : List Int), false))) else (some (([] : List Int), false))))
def impl_ReadComplex.j1 : Nat → ByteArray → List Int → ByteArray → List ByteArray → Int → Int → Bool → Option (List Int × Bool)
  | 0, _, _, _, _, _, _, _ => none
  | k + 1, x0, x4, x6, x11, x12, x13, x24 => if x24 = true then (some (([] : List Int), false)) else (if 0 ≤ 8 then (if 8 ≤ (x6.size : Int) then ((impl_readHex.f k (x6.extract 0 8)).bind fun t247 => ((impl_readHex.f k (x6.extract 8 x6.size)).bind fun t248 => ((cpx.f t247 t248).bind fun t249 => (if x4.length < 17592186044416 then (impl_ReadComplex.l0 k x0 (x4 ++ [t249]) x11 x12 (wrap64 (x13 + 1))) else (none))))) else (none)) else (none))
end
def impl_ReadComplex.f (k : Nat) (a0 : ByteArray) : Option (List Int × Bool) := (impl_pieces.f k a0).bind fun t241 => (impl_ReadComplex.l0 k a0 (([] : List Int)) t241 (t241.length : Int) 0)
theorem impl_ReadComplex.mono_l : ∀ k, (∀ y0 y1 y2 y3 y4, LeO (impl_ReadComplex.l0 k y0 y1 y2 y3 y4) (impl_ReadComplex.l0 (k + 1) y0 y1 y2 y3 y4)) ∧ (∀ y0 y1 y2 y3 y4 y5 y6, LeO (impl_ReadComplex.j1 k y0 y1 y2 y3 y4 y5 y6) (impl_ReadComplex.j1 (k + 1) y0 y1 y2 y3 y4 y5 y6))
  | 0 => ⟨fun _ _ _ _ _ r h => by simp [impl_ReadComplex.l0] at h, fun _ _ _ _ _ _ _ r h => by simp [impl_ReadComplex.j1] at h⟩
  | k + 1 => by
    obtain ⟨ih0, ih1⟩ := impl_ReadComplex.mono_l k
    refine ⟨?_, ?_⟩
    · intro y0 y1 y2 y3 y4
      unfold impl_ReadComplex.l0
      repeat' first
      | (with_reducible exact ih0 _ _ _ _ _)
      | (with_reducible exact ih1 _ _ _ _ _ _ _)
      | (with_reducible exact impl_ComplexText.mono _ _)
      | (with_reducible exact impl_pieces.mono _ _)
      | (with_reducible exact impl_readHex.mono _ _)
      | (with_reducible exact LeO.refl _)
      | (with_reducible exact LeO.none _)
      | (with_reducible refine LeO.ite ?_ ?_)
      | (with_reducible refine LeO.bind ?_ (fun _ => ?_))
      | exact ih0 _ _ _ _ _
      | exact ih1 _ _ _ _ _ _ _
      | exact impl_ComplexText.mono _ _
      | exact impl_pieces.mono _ _
      | exact impl_readHex.mono _ _
      | exact LeO.none _
      | refine LeO.ite ?_ ?_
      | refine LeO.bind ?_ (fun _ => ?_)
    · intro y0 y1 y2 y3 y4 y5 y6
      unfold impl_ReadComplex.j1
      repeat' first
      | (with_reducible exact ih0 _ _ _ _ _)
      | (with_reducible exact ih1 _ _ _ _ _ _ _)
      | (with_reducible exact impl_ComplexText.mono _ _)
      | (with_reducible exact impl_pieces.mono _ _)
      | (with_reducible exact impl_readHex.mono _ _)
      | (with_reducible exact LeO.refl _)
      | (with_reducible exact LeO.none _)
      | (with_reducible refine LeO.ite ?_ ?_)
      | (with_reducible refine LeO.bind ?_ (fun _ => ?_))
      | exact ih0 _ _ _ _ _
      | exact ih1 _ _ _ _ _ _ _
      | exact impl_ComplexText.mono _ _
      | exact impl_pieces.mono _ _
      | exact impl_readHex.mono _ _
      | exact LeO.none _
      | refine LeO.ite ?_ ?_
      | refine LeO.bind ?_ (fun _ => ?_)
theorem impl_ReadComplex.mono : ∀ a0 k, LeO (impl_ReadComplex.f k a0) (impl_ReadComplex.f (k + 1) a0) := by
  intro a0 k
  obtain ⟨ih0, ih1⟩ := impl_ReadComplex.mono_l k
  unfold impl_ReadComplex.f
  repeat' first
      | (with_reducible exact ih0 _ _ _ _ _)
      | (with_reducible exact ih1 _ _ _ _ _ _ _)
      | (with_reducible exact impl_ComplexText.mono _ _)
      | (with_reducible exact impl_pieces.mono _ _)
      | (with_reducible exact impl_readHex.mono _ _)
      | (with_reducible exact LeO.refl _)
      | (with_reducible exact LeO.none _)
      | (with_reducible refine LeO.ite ?_ ?_)
      | (with_reducible refine LeO.bind ?_ (fun _ => ?_))
      | exact ih0 _ _ _ _ _
      | exact ih1 _ _ _ _ _ _ _
      | exact impl_ComplexText.mono _ _
      | exact impl_pieces.mono _ _
      | exact impl_readHex.mono _ _
      | exact LeO.none _
      | refine LeO.ite ?_ ?_
      | refine LeO.bind ?_ (fun _ => ?_)
def impl_ReadComplex.T7 : Bool × List (List Nat × List Nat) := (true, [([], []), ([], []), ([1], [1]), ([2], [2]), ([], []), ([4], [4]), ([5, 3], [5]), ([3, 6], [3, 6]), ([7], [7]), ([0, 8, 6], [0, 8]), ([9, 9, 0, 1, 2, 3, 4, 5, 6, 7, 8, 9], [0, 9])])
def impl_ReadComplex.B7 : List Nat := [0, 0, 2, 6, 0, 16, 62, 126, 254, 511, 1023]
theorem impl_ReadComplex.tab7 : rtab .any (opsOf Tryd.f19 7) = impl_ReadComplex.T7 := by kernel_rfl
theorem impl_ReadComplex.bits7 : waitsOk impl_ReadComplex.T7.2 impl_ReadComplex.B7 = true := by kernel_rfl
set_option maxHeartbeats 8000000 in
set_option maxRecDepth 100000 in
theorem impl_ReadComplex.calls (k : Nat) (a0 : ByteArray) (r1 : List Int) (r2 : Bool) (w : World) (h : impl_ReadComplex.f k a0 = some (r1, r2)) (HT : Aside0 (TR w)) :
    Calls Tryd.prog 19 #[.string a0] w fun e w' => ∃ v0_ : Value, e = .returned (.tuple #[v0_, .bool r2]) ∧ Kd.R CKI 58 w' w.heap.size (fun _ => True) v0_ r1 ∧ Below w.heap.size w w' := by
  have HB := Aside0.mk (Below.refl w.heap.size w)
  have H : ((impl_pieces.f k a0).bind fun t241 => (impl_ReadComplex.l0 k a0 (([] : List Int)) t241 (t241.length : Int) 0)) = some (r1, r2) := h
  clear h
  obtain ⟨y238, hy238⟩ : ∃ y_ : List Int, y_ = (([] : List Int)) := ⟨_, rfl⟩
  replace H : ((impl_pieces.f k a0).bind fun t241 => (impl_ReadComplex.l0 k a0 y238 t241 (t241.length : Int) 0)) = some (r1, r2) := by first | (rw [hy238]; with_reducible exact H) | (have H2_ := (Option.bind_some _ _).symm.trans H; rw [hy238]; with_reducible exact H2_) | (have H2_ := (Option.bind_some _ _).symm.trans H; with_reducible exact H2_) | with_reducible exact H | (rw [hy238]; exact H) | exact H
  have Ny238 := Aside0.mk hy238
  clear hy238
  replace H := Option.bind_eq_some_iff.mp H
  obtain ⟨t241, A20, H⟩ := H
  replace H : (impl_ReadComplex.l0 k a0 y238 t241 (t241.length : Int) 0) = some (r1, r2) := H
  have A2 := Aside0.mk A20
  clear A20
  have H' := Aside0.mk H
  clear H
  go_enter Tryd.func19, Tryd.ntmps19
  go_wp2_with (first | ((with_reducible refine gate_dst (N := 9) rfl ?_); (try (refine gate_guard (by rfl) ?_; dsimp only)); refine Kd.R_lit CKI _ 58 ?hg (N := 9) ?hd (xs := ([] : List Int)) (inner := []) (ok := fun _ => True) (okp := fun _ => True) ?hr ?hp (fun _ hk => hk) trivial (Below.refl _ _) (Nat.le_refl _) (by simp) ?_; (case hd => rfl); (case hg => rfl); (case hr => first | (go_simp; done) | (go_simp; rfl)); (case hp => exact (Reps.none _ _)); intro v239 w3 ho4 hb hg_ hnew_; clear hg_ hnew_; (first | rw [← Ny238.out] at ho4 | (simp only [Int.reduceToNat] at ho4; rw [← Ny238.out] at ho4)); have n0_ := Aside0.mk (Kd.R_lower ho4 (below_size (by repeat (first | (with_reducible first | exact HB.out | apply below_alloc | apply pw_below_drewN | apply below_drew1) | exact HB.out)))); have n1_ := Aside0.mk (below_step (by repeat (first | (with_reducible first | exact HB.out | apply below_alloc | apply pw_below_drewN | apply below_drew1) | exact HB.out)) hb); clear HB; have HO240 := n0_; have HB := n1_; clear n0_ n1_; clear hb ho4) | ((with_reducible refine gate_callee (f := 41) rfl ?_); refine goesL_ (some 11) rfl rfl Tryd.func41 (by kernel_rfl) rfl #[.string a0] rfl (by (try simp only [List.map_toArray, List.map_cons, List.map_nil]); first | done | rfl | (simp only [List.length_drop, List.length_take]; rfl)) ?_; (with_reducible refine (impl_pieces.calls k a0 t241 _ A2.out ⟨TR.on HT.out (by repeat (first | (with_reducible first | exact HB.out | apply below_alloc | apply pw_below_drewN | apply below_drew1) | exact HB.out))⟩).mono ?_); rintro e w5 ⟨v242, rfl, ho0, hb⟩; refine ⟨_, rfl, ?_⟩; have n0_ := Aside0.mk (Kd.R_below (by (with_reducible repeat (first | apply Kd.R_alloc | apply Kd.R_drewN | apply Kd.R_drew)); exact HO240.out) hb); have n1_ := Aside0.mk (Kd.R_lower ho0 (below_size (by repeat (first | (with_reducible first | exact HB.out | apply below_alloc | apply pw_below_drewN | apply below_drew1) | exact HB.out)))); have n2_ := Aside0.mk (below_step (by repeat (first | (with_reducible first | exact HB.out | apply below_alloc | apply pw_below_drewN | apply below_drew1) | exact HB.out)) hb); clear HO240; clear HB; have HO240 := n0_; have HO243 := n1_; have HB := n2_; clear n0_ n1_ n2_; (try clear hb); (try clear hb2); (try clear hk); (try clear hi); (try clear ho0); obtain ⟨Ao6, co6, eo6⟩ := Kd.R_slice HO243.out; subst eo6))
  go_loopg [4, 13] k (fun kq v4 v13 w' => ∃ (x4_1 : List Int) (x13_1 : Int), v13 = .int .i64 x13_1 ∧ Aside0 (impl_ReadComplex.l0 kq a0 x4_1 t241 (t241.length : Int) x13_1 = some (r1, r2)) ∧ Aside0 (kq ≤ k) ∧ Aside0 (Kd.R CKI 58 w' w.heap.size (fun _ => True) v4 x4_1) ∧ Aside0 (Kd.R Kd.string 9 w' w.heap.size (fun _ => True) (.slice Ao6 t241.length co6) t241) ∧ Aside0 (Below w.heap.size w w'))
  case atStart => exact ⟨(y238), (0), (by first | rfl | (simp; done) | (simp [*]; done)), H', ⟨Nat.le_refl _⟩, ⟨by (with_reducible repeat (first | apply Kd.R_alloc | apply Kd.R_drewN | apply Kd.R_drew)); exact HO240.out⟩, ⟨by (with_reducible repeat (first | apply Kd.R_alloc | apply Kd.R_drewN | apply Kd.R_drew)); exact HO243.out⟩, ⟨by repeat (first | (with_reducible first | exact HB.out | apply below_alloc | apply pw_below_drewN | apply below_drew1) | exact HB.out)⟩⟩
  case round =>
    clear H'
    try clear c1
    try clear p2
    try clear c4
    obtain ⟨x4_1, x13_1, rfl, HA, HK1, HO_4, HO_11, HB⟩ := hrel
    cases gk with
    | zero => exact absurd HA.out (by simp [impl_ReadComplex.l0])
    | succ k1 =>
      have H := HA.out
      clear HA
      simp only [impl_ReadComplex.l0] at H
      by_cases c7 : x13_1 < (t241.length : Int)
      · rw [if_pos c7] at H
        have c7b0 : decide (x13_1 < (t241.length : Int)) = true := decide_eq_true c7
        clear c7
        by_cases c8 : 0 ≤ x13_1
        · rw [if_pos c8] at H
          have c8b0 : decide (0 ≤ x13_1) = true := decide_eq_true c8
          clear c8
          by_cases c9 : x13_1 < (t241.length : Int)
          · rw [if_pos c9] at H
            have c9b0 : decide (x13_1 < (t241.length : Int)) = true := decide_eq_true c9
            clear c9
            have HC10 := Aside0.mk H
            clear H
            have p246 : 0 ≤ (x13_1 : Int) := of_decide_eq_true (by first | (with_reducible assumption) | assumption)
            have q246 : x13_1 < (t241.length : Int) := of_decide_eq_true (by first | (with_reducible assumption) | assumption)
            obtain ⟨ad246, e246, hx246_0⟩ := Kd.at_string (Kd.R_reads' HO_11.out).2.2 x13_1 p246 q246
            cases e246
            replace p246 := eq_true p246
            replace q246 := eq_true q246
            go_upto_region 5 with (fail)
            go_cut [24] (fun v24 wc => ∃ (kq : Nat) (x24_9 : Bool), v24 = .bool x24_9 ∧ Aside0 (impl_ReadComplex.j1 kq a0 x4_1 (rdOf ByteArray.empty t241 x13_1) t241 (t241.length : Int) x13_1 x24_9 = some (r1, r2)) ∧ Aside0 (kq ≤ k1) ∧ Aside0 (Kd.R CKI 58 wc w.heap.size (fun _ => True) u4 x4_1) ∧ Aside0 (Kd.R Kd.string 9 wc w.heap.size (fun _ => True) (.slice (some ad246) t241.length co6) t241) ∧ Aside0 (Below w.heap.size w wc))
            case first =>
              have H := HC10.out
              clear HC10
              by_cases c11 : ((rdOf ByteArray.empty t241 x13_1).size : Int) = 16
              · rw [if_pos c11] at H
                have c11b0 : (((rdOf ByteArray.empty t241 x13_1).size : Int) == 16) = true := beq_iff_eq.mpr c11
                have c11b1 : (((rdOf ByteArray.empty t241 x13_1).size : Int) != 16) = false := bne_eq_false_iff_eq.mpr c11
                clear c11
                (first | rw [c11b0] | (simp only [i64_w, i32_w]; rw [c11b0]) | skip)
                have H' := Aside0.mk H
                clear H
                obtain ⟨Ao12, co12, eo12⟩ := Kd.R_slice HO_4.out
                subst eo12
                go_wp2
                go_meet
                case rel => exact ⟨_, (((x4_1.length : Int) == 256)), (by first | rfl | (simp; done) | (simp [*]; done)), H', ⟨by have := HK1.out; first | omega | exact Nat.le_refl _⟩, ⟨by (with_reducible repeat (first | apply Kd.R_alloc | apply Kd.R_drewN | apply Kd.R_drew)); exact HO_4.out⟩, ⟨by (with_reducible repeat (first | apply Kd.R_alloc | apply Kd.R_drewN | apply Kd.R_drew)); exact HO_11.out⟩, ⟨by repeat (first | (with_reducible first | exact HB.out | apply below_alloc | apply pw_below_drewN | apply below_drew1) | exact HB.out)⟩⟩
              · rw [if_neg c11] at H
                have c11b0 : (((rdOf ByteArray.empty t241 x13_1).size : Int) == 16) = false := beq_eq_false_iff_ne.mpr c11
                have c11b1 : (((rdOf ByteArray.empty t241 x13_1).size : Int) != 16) = true := bne_iff_ne.mpr c11
                (first | rw [c11b0] | (simp only [i64_w, i32_w]; rw [c11b0]) | skip)
                have H' := Aside0.mk H
                clear H
                go_wp2
                go_meet
                case rel => exact ⟨_, (true), (by first | rfl | (simp; done) | (simp [*]; done)), H', ⟨by have := HK1.out; first | omega | exact Nat.le_refl _⟩, ⟨by (with_reducible repeat (first | apply Kd.R_alloc | apply Kd.R_drewN | apply Kd.R_drew)); exact HO_4.out⟩, ⟨by (with_reducible repeat (first | apply Kd.R_alloc | apply Kd.R_drewN | apply Kd.R_drew)); exact HO_11.out⟩, ⟨by repeat (first | (with_reducible first | exact HB.out | apply below_alloc | apply pw_below_drewN | apply below_drew1) | exact HB.out)⟩⟩
            case rest =>
              clear HC10
              try clear c1
              try clear p2
              try clear q2
              try clear hx2
              try clear c4
              try clear c7
              try clear c7b0
              try clear c8
              try clear c8b0
              try clear c9
              try clear c9b0
              try clear c11
              try clear c11b0
              try clear c11b1
              try clear hx246_0
              try clear p2
              try clear p246
              try clear q246
              obtain ⟨kq, x24_9, rfl, HA, HJ9, HO_4, HO_11, HB⟩ := hcut
              cases kq with
              | zero => exact absurd HA.out (by simp [impl_ReadComplex.j1])
              | succ kj9 =>
                have H := HA.out
                clear HA
                simp only [impl_ReadComplex.j1] at H
                by_cases c13 : x24_9 = true
                · subst c13
                  have H1 : (some (([] : List Int), false)) = some (r1, r2) := by rw [if_pos rfl] at H; exact H
                  clear H
                  have H := H1
                  clear H1
                  simp only [Option.some.injEq, Prod.mk.injEq] at H
                  obtain ⟨rfl, rfl⟩ := H
                  go_wp2
                  go_ret2
                  exact ⟨_, by first | rfl | (simp [errW_none, errW_some] <;> rfl) | (simp [*, errW_none, errW_some] <;> rfl), by first | exact Kd.R_nil _ _ _ _ _ | exact Kd.N_nil _ _ _ _ _ | exact Kd.V_nil _ _ _ _ _ | exact Kd.Q_nil _ _ _ _ _ | exact Kd.S_nil _ _ _ _ _, by repeat (first | (with_reducible first | exact HB.out | apply below_alloc | apply pw_below_drewN | apply below_drew1) | exact HB.out)⟩
                · replace c13 := Bool.eq_false_iff.mpr c13
                  subst c13
                  have H1 : (if 0 ≤ 8 then (if 8 ≤ ((rdOf ByteArray.empty t241 x13_1).size : Int) then ((impl_readHex.f kj9 ((rdOf ByteArray.empty t241 x13_1).extract 0 8)).bind fun t247 => ((impl_readHex.f kj9 ((rdOf ByteArray.empty t241 x13_1).extract 8 (rdOf ByteArray.empty t241 x13_1).size)).bind fun t248 => ((cpx.f t247 t248).bind fun t249 => (if x4_1.length < 17592186044416 then (impl_ReadComplex.l0 kj9 a0 (x4_1 ++ [t249]) t241 (t241.length : Int) (wrap64 (x13_1 + 1))) else (none))))) else (none)) else (none)) = some (r1, r2) := by rw [if_neg (show ¬ (false = true) by decide)] at H; exact H
                  clear H
                  have H := H1
                  clear H1
                  by_cases c14 : 0 ≤ 8
                  · rw [if_pos c14] at H
                    have c14b0 := eq_true c14
                    have c14b1 : decide (0 ≤ 8) = true := decide_eq_true c14
                    clear c14
                    by_cases c15 : 8 ≤ ((rdOf ByteArray.empty t241 x13_1).size : Int)
                    · rw [if_pos c15] at H
                      have c15b0 := eq_true c15
                      have c15b1 : decide (8 ≤ ((rdOf ByteArray.empty t241 x13_1).size : Int)) = true := decide_eq_true c15
                      clear c15
                      replace H := Option.bind_eq_some_iff.mp H
                      obtain ⟨t247, A160, H⟩ := H
                      replace H : ((impl_readHex.f kj9 ((rdOf ByteArray.empty t241 x13_1).extract 8 (rdOf ByteArray.empty t241 x13_1).size)).bind fun t248 => ((cpx.f t247 t248).bind fun t249 => (if x4_1.length < 17592186044416 then (impl_ReadComplex.l0 kj9 a0 (x4_1 ++ [t249]) t241 (t241.length : Int) (wrap64 (x13_1 + 1))) else (none)))) = some (r1, r2) := H
                      have A16 := Aside0.mk A160
                      clear A160
                      have c17b0 := eq_true (of_decide_eq_true (by first | (with_reducible assumption) | assumption) : 8 ≤ ((rdOf ByteArray.empty t241 x13_1).size : Int))
                      replace H := Option.bind_eq_some_iff.mp H
                      obtain ⟨t248, A180, H⟩ := H
                      replace H : ((cpx.f t247 t248).bind fun t249 => (if x4_1.length < 17592186044416 then (impl_ReadComplex.l0 kj9 a0 (x4_1 ++ [t249]) t241 (t241.length : Int) (wrap64 (x13_1 + 1))) else (none))) = some (r1, r2) := H
                      have A18 := Aside0.mk A180
                      clear A180
                      replace H := Option.bind_eq_some_iff.mp H
                      obtain ⟨t249, A190, H⟩ := H
                      replace H : (if x4_1.length < 17592186044416 then (impl_ReadComplex.l0 kj9 a0 (x4_1 ++ [t249]) t241 (t241.length : Int) (wrap64 (x13_1 + 1))) else (none)) = some (r1, r2) := H
                      have A19 := Aside0.mk A190
                      clear A190
                      by_cases c20 : x4_1.length < 17592186044416
                      · rw [if_pos c20] at H
                        have LMc20 := Aside0.mk c20
                        clear c20
                        obtain ⟨y250, hy250⟩ : ∃ y_ : List Int, y_ = (x4_1 ++ [t249]) := ⟨_, rfl⟩
                        replace H : (impl_ReadComplex.l0 kj9 a0 y250 t241 (t241.length : Int) (wrap64 (x13_1 + 1))) = some (r1, r2) := by first | (rw [hy250]; with_reducible exact H) | (have H2_ := (Option.bind_some _ _).symm.trans H; rw [hy250]; with_reducible exact H2_) | (have H2_ := (Option.bind_some _ _).symm.trans H; with_reducible exact H2_) | with_reducible exact H | (rw [hy250]; exact H) | exact H
                        have Ny250 := Aside0.mk hy250
                        clear hy250
                        have H' := Aside0.mk H
                        clear H
                        try go_wp2
                        have n0_ := Aside0.mk (Kd.R_drew HO_4.out)
                        have n1_ := Aside0.mk (Kd.R_drew HO_11.out)
                        have n2_ := Aside0.mk (below_drew1 HB.out)
                        clear HO_4
                        clear HO_11
                        clear HB
                        have HO_4 := n0_
                        have HO_11 := n1_
                        have HB := n2_
                        clear n0_ n1_ n2_
                        refine start_ (n := 11) (S := fun w' => True) (ds := []) #[false, false, false, false, false, false, false, false, false, false, false] (by kernel_rfl) rfl rfl trivial (fun hHeld => ?_); refine with_tabW impl_ReadComplex.tab7 impl_ReadComplex.bits7 (fun HT_ HW_ => ?_)
                        generalize wc.drew = w21 at HO_4 HO_11 HB hHeld ⊢
                        refine pure_ (i := 0) (N := some 25) (v := ?_) (a' := ?_) #[true, false, false, false, false, false, false, false, false, false, false] rfl rfl (any_of HT_.out (by kernel_rfl)) (fun _ _ _ h => h) (Or.inl ⟨by rfl, ?_⟩) ?_ ?_
                        rotate_left
                        · intro w'
                          go_simp
                          with_reducible rfl
                        rotate_left
                        · simp only [Act.put, List.setIfInBounds_toArray, List.set_cons_zero, List.set_cons_succ, i64_w, i32_w]
                          rfl
                        refine pure_ (i := 1) (N := some 26) (v := ?_) (a' := ?_) #[true, true, false, false, false, false, false, false, false, false, false] rfl rfl (any_of HT_.out (by kernel_rfl)) (fun _ _ _ h => h) (Or.inl ⟨by rfl, ?_⟩) ?_ ?_
                        rotate_left
                        · intro w'
                          go_simp
                          with_reducible rfl
                        rotate_left
                        · simp only [Act.put, List.setIfInBounds_toArray, List.set_cons_zero, List.set_cons_succ, i64_w, i32_w]
                          rfl
                        refine pure_ (i := 2) (N := some 27) (v := ?_) (a' := ?_) #[true, true, true, false, false, false, false, false, false, false, false] rfl rfl (any_of HT_.out (by kernel_rfl)) (fun _ _ _ h => h) (Or.inl ⟨by rfl, ?_⟩) ?_ ?_
                        rotate_left
                        · intro w'
                          go_simp
                          with_reducible rfl
                        rotate_left
                        · simp only [Act.put, List.setIfInBounds_toArray, List.set_cons_zero, List.set_cons_succ, i64_w, i32_w]
                          rfl
                        refine pure_ (i := 4) (N := some 29) (v := ?_) (a' := ?_) #[true, true, true, false, true, false, false, false, false, false, false] rfl rfl (any_of HT_.out (by kernel_rfl)) (fun _ _ _ h => h) (Or.inl ⟨by rfl, ?_⟩) ?_ ?_
                        rotate_left
                        · intro w'
                          go_simp
                          with_reducible rfl
                        rotate_left
                        · simp only [Act.put, List.setIfInBounds_toArray, List.set_cons_zero, List.set_cons_succ, i64_w, i32_w]
                          rfl
                        refine pure_ (i := 5) (N := some 30) (v := ?_) (a' := ?_) #[true, true, true, false, true, true, false, false, false, false, false] rfl rfl (any_of HT_.out (by kernel_rfl)) (fun _ _ _ h => h) (Or.inl ⟨by rfl, ?_⟩) ?_ ?_
                        rotate_left
                        · intro w'
                          go_simp
                          with_reducible rfl
                        rotate_left
                        · simp only [Act.put, List.setIfInBounds_toArray, List.set_cons_zero, List.set_cons_succ, i64_w, i32_w]
                          rfl
                        refine one_ (i := 3) (N := some 28) #[true, true, true, true, true, true, false, false, false, false, false] rfl rfl (one_of HT_.out (by kernel_rfl)) (by decide) (fun K hK => ?_)
                        refine goes_ Tryd.func42 (by kernel_rfl) rfl #[.string ((rdOf ByteArray.empty t241 x13_1).extract 0 8)] (by rfl) rfl rfl (by (try simp only [List.map_toArray, List.map_cons, List.map_nil]); first | done | rfl | (simp only [List.length_drop, List.length_take]; rfl)) ?_
                        with_reducible refine (impl_readHex.calls kj9 ((rdOf ByteArray.empty t241 x13_1).extract 0 8) t247 _ A16.out ⟨TR.on HT.out (by repeat (first | (with_reducible first | exact HB.out | apply below_alloc | apply pw_below_drewN | apply below_drew1) | exact HB.out))⟩).mono ?_
                        rintro e w22 ⟨rfl, hb⟩
                        refine ⟨_, rfl, ?_⟩
                        have n0_ := Aside0.mk (Kd.R_below (by (with_reducible repeat (first | apply Kd.R_alloc | apply Kd.R_drewN | apply Kd.R_drew)); exact HO_4.out) hb)
                        have n1_ := Aside0.mk (Kd.R_below (by (with_reducible repeat (first | apply Kd.R_alloc | apply Kd.R_drewN | apply Kd.R_drew)); exact HO_11.out) hb)
                        have n2_ := Aside0.mk (below_step (by repeat (first | (with_reducible first | exact HB.out | apply below_alloc | apply pw_below_drewN | apply below_drew1) | exact HB.out)) hb)
                        clear HO_4
                        clear HO_11
                        clear HB
                        have HO_4 := n0_
                        have HO_11 := n1_
                        have HB := n2_
                        clear n0_ n1_ n2_
                        (try clear hb)
                        (try clear hb2)
                        (try clear hk)
                        (try clear hi)
                        refine hK.out _ _ trivial (fun hHeld => ?_)
                        clear hK K
                        refine norm_ (a' := ?_) ?_ ?_
                        rotate_left
                        · show Act.put _ (some 28) _ = _
                          simp only [Act.put, List.setIfInBounds_toArray, List.set_cons_zero, List.set_cons_succ, i64_w, i32_w]
                          rfl
                        refine one_ (i := 6) (N := some 31) #[true, true, true, true, true, true, true, false, false, false, false] rfl rfl (one_of HT_.out (by kernel_rfl)) (by decide) (fun K hK => ?_)
                        refine goes_ Tryd.func42 (by kernel_rfl) rfl #[.string ((rdOf ByteArray.empty t241 x13_1).extract 8 (rdOf ByteArray.empty t241 x13_1).size)] (by rfl) rfl rfl (by (try simp only [List.map_toArray, List.map_cons, List.map_nil]); first | done | rfl | (simp only [List.length_drop, List.length_take]; rfl)) ?_
                        with_reducible refine (impl_readHex.calls kj9 ((rdOf ByteArray.empty t241 x13_1).extract 8 (rdOf ByteArray.empty t241 x13_1).size) t248 _ A18.out ⟨TR.on HT.out (by repeat (first | (with_reducible first | exact HB.out | apply below_alloc | apply pw_below_drewN | apply below_drew1) | exact HB.out))⟩).mono ?_
                        rintro e w23 ⟨rfl, hb⟩
                        refine ⟨_, rfl, ?_⟩
                        have n0_ := Aside0.mk (Kd.R_below (by (with_reducible repeat (first | apply Kd.R_alloc | apply Kd.R_drewN | apply Kd.R_drew)); exact HO_4.out) hb)
                        have n1_ := Aside0.mk (Kd.R_below (by (with_reducible repeat (first | apply Kd.R_alloc | apply Kd.R_drewN | apply Kd.R_drew)); exact HO_11.out) hb)
                        have n2_ := Aside0.mk (below_step (by repeat (first | (with_reducible first | exact HB.out | apply below_alloc | apply pw_below_drewN | apply below_drew1) | exact HB.out)) hb)
                        clear HO_4
                        clear HO_11
                        clear HB
                        have HO_4 := n0_
                        have HO_11 := n1_
                        have HB := n2_
                        clear n0_ n1_ n2_
                        (try clear hb)
                        (try clear hb2)
                        (try clear hk)
                        (try clear hi)
                        refine hK.out _ _ trivial (fun hHeld => ?_)
                        clear hK K
                        refine norm_ (a' := ?_) ?_ ?_
                        rotate_left
                        · show Act.put _ (some 31) _ = _
                          simp only [Act.put, List.setIfInBounds_toArray, List.set_cons_zero, List.set_cons_succ, i64_w, i32_w]
                          rfl
                        refine one_ (i := 7) (N := some 32) #[true, true, true, true, true, true, true, true, false, false, false] rfl rfl (one_of HT_.out (by kernel_rfl)) (by decide) (fun K hK => ?_)
                        have EC_ := cpx.is A19.out
                        refine value_ (w1 := ?_) (v := CV t249) (by rfl) rfl ?_ ?_
                        rotate_left
                        · go_simp
                          first | exact ⟨EC_, rfl⟩ | exact rfl | exact EC_ | (rw [EC_]; rfl) | (rw [← EC_]; rfl)
                        refine hK.out _ _ trivial (fun hHeld => ?_)
                        clear hK K
                        refine norm_ (a' := ?_) ?_ ?_
                        rotate_left
                        · show Act.put _ (some 32) _ = _
                          simp only [Act.put, List.setIfInBounds_toArray, List.set_cons_zero, List.set_cons_succ, i64_w, i32_w]
                          rfl
                        refine one_ (i := 8) (N := some 33) #[true, true, true, true, true, true, true, true, true, false, false] rfl rfl (one_of HT_.out (by kernel_rfl)) (by decide) (fun K hK => ?_)
                        refine value_ (w1 := ?_) (v := ?_) (by rfl) rfl ?_ ?_
                        rotate_left 2
                        · go_simp
                          constructor
                          · rfl
                          · rfl
                        refine hK.out _ _ trivial (fun hHeld => ?_)
                        clear hK K
                        refine norm_ (a' := ?_) ?_ ?_
                        rotate_left
                        · show Act.put _ (some 33) _ = _
                          simp only [Act.put, List.setIfInBounds_toArray, List.set_cons_zero, List.set_cons_succ, i64_w, i32_w]
                          rfl
                        refine one_ (i := 9) (N := some 34) #[true, true, true, true, true, true, true, true, true, true, false] rfl rfl (one_of HT_.out (by kernel_rfl)) (by decide) (fun K hK => ?_)
                        refine Kd.R_append_step CKI (w0 := w) w.heap.size (by rfl) (.tmp 25) (.tmp 33) 32 58 (.complex .f32 0 0) 8 rfl Tryd.underlying32 info58 rfl (by decide) (by omega) u4 x4_1 t249 [CV t249] (fun _ => True) (fun _ => False) rfl rfl ?aP (fun _ hk => hk.elim) ?aF ?aO ?aB ?aS ?aL ?_
                        (case aP => exact rfl)
                        (case aB => exact (by repeat (first | (with_reducible first | exact HB.out | apply below_alloc | apply pw_below_drewN | apply below_drew1) | exact HB.out)))
                        (case aF => exact (fun _ _ => trivial))
                        (case aO => exact (by (with_reducible repeat (first | apply Kd.R_alloc | apply Kd.R_drewN | apply Kd.R_drew)); exact HO_4.out))
                        (case aS => exact (below_size (by repeat (first | (with_reducible first | exact HB.out | apply below_alloc | apply pw_below_drewN | apply below_drew1) | exact HB.out))))
                        (case aL => have := LMc20.out; omega)
                        intro v251 w24 ho hb hg hat
                        rw [← Ny250.out] at ho
                        have n0_ := Aside0.mk (Kd.R_over' (by (with_reducible repeat (first | apply Kd.R_alloc | apply Kd.R_drewN | apply Kd.R_drew)); exact HO_11.out) (Kd.R_typed (by (with_reducible repeat (first | apply Kd.R_alloc | apply Kd.R_drewN | apply Kd.R_drew)); exact HO_4.out)) (by decide) hg)
                        have n1_ := Aside0.mk (hb)
                        have n2_ := Aside0.mk (ho)
                        clear HO_11
                        clear HB
                        clear HO_4
                        have HO_11 := n0_
                        have HB := n1_
                        have HO252 := n2_
                        clear n0_ n1_ n2_
                        clear ho hb hg hat
                        refine hK.out _ _ trivial (fun hHeld => ?_)
                        clear hK K
                        refine norm_ (a' := ?_) ?_ ?_
                        rotate_left
                        · show Act.put _ (some 34) _ = _
                          simp only [Act.put, List.setIfInBounds_toArray, List.set_cons_zero, List.set_cons_succ, i64_w, i32_w]
                          rfl
                        refine pure_ (i := 10) (N := some 4) (v := ?_) (a' := ?_) #[true, true, true, true, true, true, true, true, true, true, true] rfl rfl (any_of HT_.out (by kernel_rfl)) (fun _ _ _ h => h) (Or.inl ⟨by rfl, ?_⟩) ?_ ?_
                        rotate_left
                        · intro w'
                          go_simp
                          with_reducible rfl
                        rotate_left
                        · simp only [Act.put, List.setIfInBounds_toArray, List.set_cons_zero, List.set_cons_succ, i64_w, i32_w]
                          rfl
                        refine done_ (done_of HT_.out (by kernel_rfl)) ?_
                        try go_wp2
                        go_roundg kj9
                        case measure => have := HK1.out; have := HJ9.out; omega
                        case rel => exact ⟨(y250), (wrap64 (x13_1 + 1)), (by first | rfl | (simp; done) | (simp [*]; done)), H', ⟨by have := HK1.out; have := HJ9.out; omega⟩, ⟨by (with_reducible repeat (first | apply Kd.R_alloc | apply Kd.R_drewN | apply Kd.R_drew)); exact HO252.out⟩, ⟨by (with_reducible repeat (first | apply Kd.R_alloc | apply Kd.R_drewN | apply Kd.R_drew)); exact HO_11.out⟩, ⟨by repeat (first | (with_reducible first | exact HB.out | apply below_alloc | apply pw_below_drewN | apply below_drew1) | exact HB.out)⟩⟩
                      · rw [if_neg c20] at H
                        exact absurd H (by simp)
                    · rw [if_neg c15] at H
                      exact absurd H (by simp)
                  · rw [if_neg c14] at H
                    exact absurd H (by simp)
          · rw [if_neg c9] at H
            exact absurd H (by simp)
        · rw [if_neg c8] at H
          exact absurd H (by simp)
      · rw [if_neg c7] at H
        have c7b0 : decide (x13_1 < (t241.length : Int)) = false := decide_eq_false c7
        clear c7
        replace H := Option.bind_eq_some_iff.mp H
        obtain ⟨⟨t244, t245⟩, A250, H⟩ := H
        replace H : (if t245 = true then (if t244.toList = a0.toList then (some (x4_1, true)) else (some (([] : List Int), false))) else (some (([] : List Int), false))) = some (r1, r2) := H
        have A25 := Aside0.mk A250
        clear A250
        by_cases c26 : t245 = true
        · subst c26
          have H1 : (if t244.toList = a0.toList then (some (x4_1, true)) else (some (([] : List Int), false))) = some (r1, r2) := by rw [if_pos rfl] at H; exact H
          clear H
          have H := H1
          clear H1
          by_cases c27 : t244.toList = a0.toList
          · rw [if_pos c27] at H
            have c27b0 : (t244.toList == a0.toList) = true := beq_iff_eq.mpr c27
            have c27b1 : (t244.toList != a0.toList) = false := bne_eq_false_iff_eq.mpr c27
            clear c27
            simp only [Option.some.injEq, Prod.mk.injEq] at H
            obtain ⟨rfl, rfl⟩ := H
            obtain ⟨Ao28, co28, eo28⟩ := Kd.R_slice HO_4.out
            subst eo28
            go_wp2_with (first | ((with_reducible refine gate_callee (f := 44) rfl ?_); refine goesL_ (some 38) rfl rfl Tryd.func44 (by kernel_rfl) rfl #[.slice Ao28 x4_1.length co28] rfl (by (try simp only [List.map_toArray, List.map_cons, List.map_nil]); first | done | rfl | (simp only [List.length_drop, List.length_take]; rfl)) ?_; (with_reducible refine (impl_ComplexText.calls k1 _ _ x4_1 t244 true _ ?side1 ?side2 A25.out ⟨TH.on (TR.th HT.out) (by repeat (first | (with_reducible first | exact HB.out | apply below_alloc | apply pw_below_drewN | apply below_drew1) | exact HB.out))⟩).mono ?_); (case side1 => repeat (first | exact (Kd.R_reads' HO_4.out).2.2 | (with_reducible refine Kd.C_alloc ?_ _) | (with_reducible refine Kd.C_drewN ?_ _) | (with_reducible refine Kd.C_drew ?_))); (case side2 => exact (Kd.R_reads' HO_4.out).2.1); rintro e w29 ⟨rfl, hb⟩; refine ⟨_, rfl, ?_⟩; have n0_ := Aside0.mk (Kd.R_below (by (with_reducible repeat (first | apply Kd.R_alloc | apply Kd.R_drewN | apply Kd.R_drew)); exact HO_4.out) hb); have n1_ := Aside0.mk (Kd.R_below (by (with_reducible repeat (first | apply Kd.R_alloc | apply Kd.R_drewN | apply Kd.R_drew)); exact HO_11.out) hb); have n2_ := Aside0.mk (below_step (by repeat (first | (with_reducible first | exact HB.out | apply below_alloc | apply pw_below_drewN | apply below_drew1) | exact HB.out)) hb); clear HO_4; clear HO_11; clear HB; have HO_4 := n0_; have HO_11 := n1_; have HB := n2_; clear n0_ n1_ n2_; (try clear hb); (try clear hb2); (try clear hk); (try clear hi)))
            go_ret2
            exact ⟨_, by first | rfl | (simp [errW_none, errW_some] <;> rfl) | (simp [*, errW_none, errW_some] <;> rfl), by (with_reducible repeat (first | apply Kd.R_alloc | apply Kd.R_drewN | apply Kd.R_drew)); exact HO_4.out, by repeat (first | (with_reducible first | exact HB.out | apply below_alloc | apply pw_below_drewN | apply below_drew1) | exact HB.out)⟩
          · rw [if_neg c27] at H
            have c27b0 : (t244.toList == a0.toList) = false := beq_eq_false_iff_ne.mpr c27
            have c27b1 : (t244.toList != a0.toList) = true := bne_iff_ne.mpr c27
            simp only [Option.some.injEq, Prod.mk.injEq] at H
            obtain ⟨rfl, rfl⟩ := H
            obtain ⟨Ao30, co30, eo30⟩ := Kd.R_slice HO_4.out
            subst eo30
            go_wp2_with (first | ((with_reducible refine gate_callee (f := 44) rfl ?_); refine goesL_ (some 38) rfl rfl Tryd.func44 (by kernel_rfl) rfl #[.slice Ao30 x4_1.length co30] rfl (by (try simp only [List.map_toArray, List.map_cons, List.map_nil]); first | done | rfl | (simp only [List.length_drop, List.length_take]; rfl)) ?_; (with_reducible refine (impl_ComplexText.calls k1 _ _ x4_1 t244 true _ ?side1 ?side2 A25.out ⟨TH.on (TR.th HT.out) (by repeat (first | (with_reducible first | exact HB.out | apply below_alloc | apply pw_below_drewN | apply below_drew1) | exact HB.out))⟩).mono ?_); (case side1 => repeat (first | exact (Kd.R_reads' HO_4.out).2.2 | (with_reducible refine Kd.C_alloc ?_ _) | (with_reducible refine Kd.C_drewN ?_ _) | (with_reducible refine Kd.C_drew ?_))); (case side2 => exact (Kd.R_reads' HO_4.out).2.1); rintro e w31 ⟨rfl, hb⟩; refine ⟨_, rfl, ?_⟩; have n0_ := Aside0.mk (Kd.R_below (by (with_reducible repeat (first | apply Kd.R_alloc | apply Kd.R_drewN | apply Kd.R_drew)); exact HO_4.out) hb); have n1_ := Aside0.mk (Kd.R_below (by (with_reducible repeat (first | apply Kd.R_alloc | apply Kd.R_drewN | apply Kd.R_drew)); exact HO_11.out) hb); have n2_ := Aside0.mk (below_step (by repeat (first | (with_reducible first | exact HB.out | apply below_alloc | apply pw_below_drewN | apply below_drew1) | exact HB.out)) hb); clear HO_4; clear HO_11; clear HB; have HO_4 := n0_; have HO_11 := n1_; have HB := n2_; clear n0_ n1_ n2_; (try clear hb); (try clear hb2); (try clear hk); (try clear hi)))
            go_ret2
            exact ⟨_, by first | rfl | (simp [errW_none, errW_some] <;> rfl) | (simp [*, errW_none, errW_some] <;> rfl), by first | exact Kd.R_nil _ _ _ _ _ | exact Kd.N_nil _ _ _ _ _ | exact Kd.V_nil _ _ _ _ _ | exact Kd.Q_nil _ _ _ _ _ | exact Kd.S_nil _ _ _ _ _, by repeat (first | (with_reducible first | exact HB.out | apply below_alloc | apply pw_below_drewN | apply below_drew1) | exact HB.out)⟩
        · replace c26 := Bool.eq_false_iff.mpr c26
          subst c26
          have H1 : (some (([] : List Int), false)) = some (r1, r2) := by rw [if_neg (show ¬ (false = true) by decide)] at H; exact H
          clear H
          have H := H1
          clear H1
          simp only [Option.some.injEq, Prod.mk.injEq] at H
          obtain ⟨rfl, rfl⟩ := H
          obtain ⟨Ao32, co32, eo32⟩ := Kd.R_slice HO_4.out
          subst eo32
          go_wp2_with (first | ((with_reducible refine gate_callee (f := 44) rfl ?_); refine goesL_ (some 38) rfl rfl Tryd.func44 (by kernel_rfl) rfl #[.slice Ao32 x4_1.length co32] rfl (by (try simp only [List.map_toArray, List.map_cons, List.map_nil]); first | done | rfl | (simp only [List.length_drop, List.length_take]; rfl)) ?_; (with_reducible refine (impl_ComplexText.calls k1 _ _ x4_1 t244 false _ ?side1 ?side2 A25.out ⟨TH.on (TR.th HT.out) (by repeat (first | (with_reducible first | exact HB.out | apply below_alloc | apply pw_below_drewN | apply below_drew1) | exact HB.out))⟩).mono ?_); (case side1 => repeat (first | exact (Kd.R_reads' HO_4.out).2.2 | (with_reducible refine Kd.C_alloc ?_ _) | (with_reducible refine Kd.C_drewN ?_ _) | (with_reducible refine Kd.C_drew ?_))); (case side2 => exact (Kd.R_reads' HO_4.out).2.1); rintro e w33 ⟨rfl, hb⟩; refine ⟨_, rfl, ?_⟩; have n0_ := Aside0.mk (Kd.R_below (by (with_reducible repeat (first | apply Kd.R_alloc | apply Kd.R_drewN | apply Kd.R_drew)); exact HO_4.out) hb); have n1_ := Aside0.mk (Kd.R_below (by (with_reducible repeat (first | apply Kd.R_alloc | apply Kd.R_drewN | apply Kd.R_drew)); exact HO_11.out) hb); have n2_ := Aside0.mk (below_step (by repeat (first | (with_reducible first | exact HB.out | apply below_alloc | apply pw_below_drewN | apply below_drew1) | exact HB.out)) hb); clear HO_4; clear HO_11; clear HB; have HO_4 := n0_; have HO_11 := n1_; have HB := n2_; clear n0_ n1_ n2_; (try clear hb); (try clear hb2); (try clear hk); (try clear hi)))
          go_ret2
          exact ⟨_, by first | rfl | (simp [errW_none, errW_some] <;> rfl) | (simp [*, errW_none, errW_some] <;> rfl), by first | exact Kd.R_nil _ _ _ _ _ | exact Kd.N_nil _ _ _ _ _ | exact Kd.V_nil _ _ _ _ _ | exact Kd.Q_nil _ _ _ _ _ | exact Kd.S_nil _ _ _ _ _, by repeat (first | (with_reducible first | exact HB.out | apply below_alloc | apply pw_below_drewN | apply below_drew1) | exact HB.out)⟩

end Go.Proofs.YtempeenjpaldaaaDoor.SCpx

namespace Go.Proofs.YtempeenjpaldaaaDoor
open Go.RowKit Fl Ieee
namespace Fl
theorem run_ff {P : Program} (s k : FloatKind) (b : Nat) (w : World) : (Conv.floatToFloat s b k).run P w = .ok (.float k (cres s b k w)) (w.drewN (ccnt s b k)) := by
  cases h : floatToFloatBits s b k with
  | some r => rw [run_floatToFloat w h]; simp [cres, ccnt, h, World.drewN_zero]
  | none =>
    have h0 := h
    unfold floatToFloatBits at h
    split at h
    · cases h
    · rename_i ne
      split at h
      · rename_i sg tt he
        have hn : isN s b = true := (isN_iff s b).2 ⟨_, _, he⟩
        simp [Conv.floatToFloat, ne, he, cres, ccnt, h0, hn, Question.forced, World.drew_is_drewN]
      · cases h
      · rename_i sg m e he
        split at h
        · rename_i ho
          have hn : isN s b = false := by unfold isN; rw [he]; rfl
          simp [Conv.floatToFloat, ne, he, ho, cres, ccnt, h0, hn, Question.forced, World.drew_is_drewN]
        · cases h
theorem run_cc {P : Program} (ts td : TypeId) (s k : FloatKind) (a b : Nat) (w : World) (hs : (P.underlying ts).isSome = true) (hd : P.underlying td = some (.complex k)) :
    (convert ts td (.complex s a b)).run P w = .ok (.complex k (cres s a k w) (cres s b k (w.drewN (ccnt s a k)))) (w.drewN (ccnt s a k + ccnt s b k)) := by
  obtain ⟨u, hs'⟩ := Option.isSome_iff_exists.1 hs
  cases u <;> simp [convert, run_underlying hs', run_underlying hd, Conv.complexToComplex, run_ff, World.drewN_drewN]
attribute [go_sem] run_cc
end Fl
theorem sameComplex_any (a b c d : Nat) (h1 : Sim .f64 a c) (h2 : Sim .f64 b d) (w : World) : Calls Tryd.prog 45 #[.complex .f64 a b, .complex .f64 c d] w fun e w' => e = .returned (.bool true) ∧ ∃ n, w' = w.drewN n := by
  have H1 := Lib.hid h1
  have H2 := Lib.hid h2
  clear h1 h2
  go_enter Tryd.func45, Tryd.ntmps45
  go_wp2_with (fail)
  refine (sameFloat_any _ _ H1.out _).mono ?_
  rintro e w' ⟨rfl, n, rfl⟩
  go_wp2_with (fail)
  refine (sameFloat_any _ _ H2.out _).mono ?_
  rintro e w' ⟨rfl, m, rfl⟩
  go_wp2
  go_ret
  exact ⟨rfl, _, rfl⟩
end Go.Proofs.YtempeenjpaldaaaDoor

namespace Go.Proofs.YtempeenjpaldaaaDoor
open Go.RowKit Go.Proofs.YtempeenjpaldaaaDoorW.PrintWords Go.Proofs.YtempeenjpaldaaaDoorW.PrintLast Fl SCpx

set_option maxHeartbeats 1000000 in
set_option maxRecDepth 100000 in
theorem eqC_any (A B : Option Addr) (c d : Nat) (l : List Int) (w : World) (hr0 : CKI.C w A l.length l) (hr1 : CKI.C w B l.length l) :
    Calls Tryd.prog 20 #[.slice A l.length c, .slice B l.length d] w fun e w' => e = .returned (.bool true) ∧ ∃ n, w' = w.drewN n := by
  have HR0 := Aside0.mk hr0
  have HR1 := Aside0.mk hr1
  have hmx := Kd.C_max hr0
  obtain ⟨n, hn⟩ : ∃ n, n = l.length := ⟨_, rfl⟩
  rw [← hn] at HR0 HR1 hmx ⊢
  clear hr0 hr1 hn
  go_enter Tryd.func20, Tryd.ntmps20
  go_wp2
  go_loopw [5] (fun v5 w' => ∃ j : Nat, v5 = .int .i64 j ∧ Aside0 (j ≤ n) ∧ Aside0 (∃ k, w' = w.drewN k)) (fun v5 _ => n - (intOf v5).toNat)
  case atStart => exact ⟨0, rfl, ⟨by omega⟩, ⟨0, rfl⟩⟩
  case round =>
    obtain ⟨j, rfl, HJ, HK⟩ := hrel
    by_cases hlt : j < n
    · obtain ⟨ad, ea, hx⟩ := at_cki HR0.out j (by omega) (by omega)
      obtain ⟨bd, eb, hy⟩ := at_cki HR1.out j (by omega) (by omega)
      subst ea eb
      rw [Int.toNat_natCast] at hx hy
      unfold CV at hx hy
      generalize (rd l (j : Int)).toNat / 4294967296 = x at hx hy
      generalize (rd l (j : Int)).toNat % 4294967296 = y at hx hy
      replace hx : wr.cell? (ad.add j) = some (.complex .f32 x y) := by obtain ⟨k, e⟩ := HK.out; rw [e]; exact hx
      replace hy : wr.cell? (bd.add j) = some (.complex .f32 x y) := by obtain ⟨k, e⟩ := HK.out; rw [e]; exact hy
      go_wp2_with fail
      go_region_with (go_at_call 45; refine (sameComplex_any _ _ _ _ (wide_both _ _ (Sim.refl _ _)) (wide_both _ _ (Sim.refl _ _)) _).mono ?_; rintro e w' ⟨rfl, n, rfl⟩)
      all_goals
        go_wp2
        go_roundw
        case rel => exact ⟨j + 1, by go_num, ⟨by omega⟩, ⟨by obtain ⟨k, e⟩ := HK.out; exact ⟨_, by rw [e, World.drewN_drewN]⟩⟩⟩
        case measure => simp [intOf]; omega
    · obtain rfl : j = n := by have := HJ.out; omega
      go_wp2
      go_ret
      exact ⟨rfl, HK.out⟩
end Go.Proofs.YtempeenjpaldaaaDoor

namespace Go.Proofs.YtempeenjpaldaaaDoor
open Go.RowKit Go.Proofs.YtempeenjpaldaaaDoorW.PrintWords Go.Proofs.YtempeenjpaldaaaDoorW.PrintLast Fl SCpx
open Ieee
/-- the mark of a number -/
def cmk (m : Int) : Int := (floatOfInt .f32 m : Int) * 4294967296 + 1065353216
theorem CV_mk (m : Int) : CV (cmk m) = .complex .f32 (floatOfInt .f32 m) 1065353216 := by
  have h : ∀ x : Nat, ((x : Int) * 4294967296 + 1065353216).toNat / 4294967296 = x ∧ ((x : Int) * 4294967296 + 1065353216).toNat % 4294967296 = 1065353216 := fun x => by omega
  unfold cmk
  obtain ⟨h1, h2⟩ := h (floatOfInt .f32 m)
  generalize floatOfInt .f32 m = x at h1 h2 ⊢
  simp only [CV, h1, h2]
theorem narrow_all : (List.range 600).all (fun k => floatToFloatBits .f64 (floatOfInt .f64 (k : Int)) .f32 == some (floatOfInt .f32 (k : Int))) = true := by decide +kernel
theorem narrow_is {m : Int} (h0 : 0 ≤ m) (h1 : m < 600) : floatToFloatBits .f64 (floatOfInt .f64 m) .f32 = some (floatOfInt .f32 m) := by
  have := eq_of_beq ((List.all_eq_true.1 narrow_all) m.toNat (List.mem_range.2 (by omega)))
  rwa [show ((m.toNat : Nat) : Int) = m by omega] at this
theorem narrow_one : floatToFloatBits .f64 4607182418800017408 .f32 = some 1065353216 := by decide +kernel
/-- the marks m, m + 1, .. -/
def cmarks (m : Int) (n : Nat) : List Int := (List.range n).map fun i : Nat => cmk (m + (i : Int))
theorem cmarks_length (m : Int) (n : Nat) : (cmarks m n).length = n := by simp [cmarks]
theorem cmarks_get {m : Int} {n i : Nat} (h : i < n) : rd (cmarks m n) (i : Int) = cmk (m + i) := by
  unfold cmarks rd; rw [Int.toNat_natCast, List.getD_eq_getElem?_getD]; simp [h]
theorem cmark_step {l : List Int} {m : Int} {j : Nat} (hj : j < l.length) : (cmarks m j ++ l.drop j).set j (cmk (m + j)) = cmarks m (j + 1) ++ l.drop (j + 1) := by
  apply List.ext_getElem?
  intro i
  have hl : (cmarks m j ++ l.drop j).length = l.length := by simp [cmarks_length]; omega
  rcases Nat.lt_trichotomy i j with g | g | g
  · rw [List.getElem?_set_ne (by omega), List.getElem?_append_left (by simp [cmarks_length]; omega), List.getElem?_append_left (by simp [cmarks_length]; omega)]
    unfold cmarks; simp [g, show i < j + 1 by omega]
  · subst g
    rw [List.getElem?_set_self (by omega), List.getElem?_append_left (by simp [cmarks_length])]
    unfold cmarks; simp
  · rw [List.getElem?_set_ne (by omega), List.getElem?_append_right (by simp [cmarks_length]; omega), List.getElem?_append_right (by simp [cmarks_length]; omega)]
    simp only [cmarks_length, List.getElem?_drop]
    congr 1; omega

set_option maxHeartbeats 1000000 in
set_option maxRecDepth 100000 in
theorem markC_any (v : Value) (l : List Int) (m : Int) (w : World) (base : Nat) (ok : Nat → Prop) (hr : CKI.R 58 w base ok v l) (h0 : 0 ≤ m) (hm : m + l.length ≤ 600) :
    Calls Tryd.prog 21 #[v, .int .i64 m] w fun e w' => e = .returned (.int .i64 (m + l.length)) ∧ CKI.R 58 w' base ok v (cmarks m l.length) ∧ w.grownBy w' v.ownBlock := by
  have HR := Aside0.mk hr
  obtain ⟨A, c, rfl, -, hC⟩ := Kd.R_reads hr
  clear hr
  have hmx := Kd.C_max hC
  clear hC
  go_enter Tryd.func21, Tryd.ntmps21
  go_wp2
  go_loopw [1, 5] (fun v1 v5 w' => ∃ j : Nat, v1 = .int .i64 (m + j) ∧ v5 = .int .i64 j ∧ Aside0 (j ≤ l.length) ∧ Aside0 (CKI.R 58 w' base ok (.slice A l.length c) (cmarks m j ++ l.drop j)) ∧ Aside0 (w.grownBy w' (Value.slice A l.length c).ownBlock)) (fun _ v5 _ => l.length - (intOf v5).toNat)
  case atStart => exact ⟨0, by simp, rfl, ⟨by omega⟩, ⟨by simpa [cmarks] using HR.out⟩, ⟨World.grownBy.refl _ _⟩⟩
  case round =>
    obtain ⟨j, rfl, rfl, HJ, HO1, HG⟩ := hrel
    clear HR
    by_cases hlt : j < l.length
    · have hl2 : (cmarks m j ++ l.drop j).length = l.length := by simp [cmarks_length]; omega
      obtain ⟨go9, co9, eo9, gb9, gl9, cl9, HG9⟩ := Kd.R_form HO1.out (by omega)
      rw [hl2] at eo9
      injection eo9 with ea en ec
      subst ea ec
      have HO3 := HO1.out
      have hl3 := hl2.symm
      rw [hl3] at HO3
      obtain ⟨hy, hf⟩ := Kd.R_cell (0 : Int) HO3 (j : Int) (by omega) (by omega)
      have HP := Kd.R_put HO3 (j : Int) (cmk (m + j))
      simp only [Int.toNat_natCast] at hy hf HP
      rw [hl2, cmark_step hlt, CV_mk] at HP
      have hn1 : ∀ w, cres .f64 (floatOfInt .f64 (m + j)) .f32 w = floatOfInt .f32 (m + j) := fun w => cres_some w (narrow_is (by omega) (by omega))
      have hn2 : ccnt .f64 (floatOfInt .f64 (m + j)) .f32 = 0 := by unfold ccnt; rw [narrow_is (by omega) (by omega)]; rfl
      have hn3 : ∀ w, cres .f64 4607182418800017408 .f32 w = 1065353216 := fun w => cres_some w narrow_one
      have hn4 : ccnt .f64 4607182418800017408 .f32 = 0 := by unfold ccnt; rw [narrow_one]; rfl
      have HP' := Aside0.mk HP
      clear HP hl2 hl3 gl9 HG9 HO1 gb9 HO3 en
      unfold CV at hy
      go_wp2
      go_roundw
      case rel => exact ⟨j + 1, by go_num, by go_num, ⟨by omega⟩, ⟨HP'.out.1⟩, ⟨HG.out.trans HP'.out.2⟩⟩
      case measure => simp [intOf]; omega
    · obtain rfl : j = l.length := by have := HJ.out; omega
      have HO2 : Aside0 (CKI.R 58 wr base ok (.slice A l.length c) (cmarks m l.length)) := ⟨by simpa using HO1.out⟩
      clear HO1
      go_wp2
      go_ret
      exact ⟨rfl, HO2.out, HG.out⟩

set_option maxHeartbeats 1000000 in
set_option maxRecDepth 100000 in
theorem heldC_any (A : Option Addr) (c n : Nat) (m : Int) (w : World) (hr0 : CKI.C w A n (cmarks m n)) (h0 : 0 ≤ m) (hm : m + n ≤ 600) :
    Calls Tryd.prog 22 #[.slice A n c, .int .i64 m] w fun e w' => e = .returned (.int .i64 (m + n)) ∧ w = w' := by
  have HR0 := Aside0.mk hr0
  clear hr0
  go_enter Tryd.func22, Tryd.ntmps22
  go_wp2
  go_loop [1, 5] (fun v1 v5 => ∃ j : Nat, v1 = .int .i64 (m + j) ∧ v5 = .int .i64 j ∧ Aside0 (j ≤ n)) (fun _ v5 => n - (intOf v5).toNat)
  case atStart => exact ⟨0, by simp, rfl, ⟨by omega⟩⟩
  case round =>
    obtain ⟨j, rfl, rfl, HJ⟩ := hrel
    by_cases hlt : j < n
    · obtain ⟨ad, ea, hx⟩ := at_cki HR0.out j (by omega) (by omega)
      subst ea
      rw [Int.toNat_natCast, cmarks_get hlt, CV_mk] at hx
      have hn1 : ∀ w, cres .f64 (floatOfInt .f64 (m + j)) .f32 w = floatOfInt .f32 (m + j) := fun w => cres_some w (narrow_is (by omega) (by omega))
      have hn2 : ccnt .f64 (floatOfInt .f64 (m + j)) .f32 = 0 := by unfold ccnt; rw [narrow_is (by omega) (by omega)]; rfl
      have hn3 : ∀ w, cres .f64 4607182418800017408 .f32 w = 1065353216 := fun w => cres_some w narrow_one
      have hn4 : ccnt .f64 4607182418800017408 .f32 = 0 := by unfold ccnt; rw [narrow_one]; rfl
      have ho : FloatKind.f32.format.order (floatOfInt .f32 (m + j)) (floatOfInt .f32 (m + j)) = some .eq := order_self (isN_ofInt _ _)
      have ho1 : FloatKind.f32.format.order 1065353216 1065353216 = some .eq := by decide +kernel
      go_wp2
      go_round
      case rel => exact ⟨j + 1, by go_num, by go_num, ⟨by omega⟩⟩
      case measure => simp [intOf]; omega
    · obtain rfl : j = n := by have := HJ.out; omega
      go_wp2
      go_ret
      exact ⟨rfl, rfl⟩
end Go.Proofs.YtempeenjpaldaaaDoor

namespace Go.Proofs.YtempeenjpaldaaaDoor.SCpx
open Go.RowKit Go.Proofs.YtempeenjpaldaaaDoorW.PrintWords Go.Proofs.YtempeenjpaldaaaDoorW.PrintLast Go.Proofs.YtempeenjpaldaaaDoorW.PrintMore
attribute [local go_sem] max2_int min2_int max_two min_two max_three min_three max_four min_four   -- for this text's walks alone
set_option linter.unusedVariables false
set_option linter.unusedSimpArgs false

open Go.Proofs.YtempeenjpaldaaaDoor.SNum

/-! ### laws_eqComplex64S: of a list and itself -/
def laws_eqComplex64S.f (l0 : List Int) (l1 : List Int) : Option (Bool) := if l0 = l1 then some true else none
theorem laws_eqComplex64S.calls (A0 : Option Addr) (c0 : Nat) (l0 : List Int) (A1 : Option Addr) (c1 : Nat) (l1 : List Int) (r : Bool) (w : World) (hr0 : Kd.C CKI w A0 l0.length l0) (hc0 : l0.length ≤ c0) (hr1 : Kd.C CKI w A1 l1.length l1) (hc1 : l1.length ≤ c1) (h : laws_eqComplex64S.f l0 l1 = some r) :
    Calls Tryd.prog 20 #[.slice A0 l0.length c0, .slice A1 l1.length c1] w fun e w' => e = .returned (.bool r) ∧ Drawn0 w w' := by
  unfold laws_eqComplex64S.f at h
  by_cases e : l0 = l1
  · rw [if_pos e] at h
    obtain rfl := Option.some.inj h
    subst e
    exact (eqC_any A0 A1 c0 c1 l0 w hr0 hr1).mono fun _ _ ⟨h1, n, h2⟩ => ⟨h1, ⟨n, h2⟩⟩
  · rw [if_neg e] at h
    cases h


/-! ### laws_markComplex64S: the marks -/
def laws_markComplex64S.f (k : Nat) (l0 : List Int) (a1 : Int) : Option (Int × List Int) := if 0 ≤ a1 ∧ a1 + l0.length ≤ 600 then some (a1 + l0.length, cmarks a1 l0.length) else none
theorem laws_markComplex64S.mono : ∀ a0 a1 k, LeO (laws_markComplex64S.f k a0 a1) (laws_markComplex64S.f (k + 1) a0 a1) := fun _ _ _ => LeO.refl _
theorem laws_markComplex64S.calls (k : Nat) (P0_ : Nat → Prop) (u9000_ : Value) (l0 : List Int) (a1 : Int) (r1 : Int) (r2 : List Int) (w0 w : World) (hB : Below w0.heap.size w0 w) (ho0 : Kd.R CKI 58 w w0.heap.size P0_ u9000_ l0) (h : laws_markComplex64S.f k l0 a1 = some (r1, r2)) :
    Calls Tryd.prog 21 #[u9000_, .int .i64 a1] w fun e w' => e = .returned (.int .i64 r1) ∧ Kd.R CKI 58 w' w0.heap.size (fun k_ => (P0_ k_ ∨ w.heap.size ≤ k_)) u9000_ r2 ∧ Below w0.heap.size w0 w' ∧ Kept w w' (fun k_ => P0_ k_) := by
  unfold laws_markComplex64S.f at h
  split at h
  · rename_i hx
    have h2 := Option.some.inj h
    simp only [Prod.mk.injEq] at h2
    obtain ⟨rfl, rfl⟩ := h2
    refine (markC_any u9000_ l0 a1 w w0.heap.size P0_ ho0 hx.1 hx.2).mono ?_
    rintro e w' ⟨rfl, hr, hg⟩
    refine ⟨rfl, Kd.R_mono hr (fun _ hk => Or.inl hk), pw_below_grown hB _ hB.size hg (fun k hk => Kd.R_base ho0 k hk), ?_⟩
    exact Kept.of_grown hg (Kept.refl _ _) (fun k hk => Or.inl (ho0.1 k hk))
  · cases h


/-! ### laws_heldComplex64S -/
def laws_heldComplex64S.f (l0 : List Int) (a1 : Int) : Option (Int) := if l0 = cmarks a1 l0.length ∧ 0 ≤ a1 ∧ a1 + l0.length ≤ 600 then some (a1 + l0.length) else none
theorem laws_heldComplex64S.calls (A0 : Option Addr) (c0 : Nat) (l0 : List Int) (a1 : Int) (r : Int) (w : World) (hr0 : Kd.C CKI w A0 l0.length l0) (hc0 : l0.length ≤ c0) (h : laws_heldComplex64S.f l0 a1 = some r) :
    Calls Tryd.prog 22 #[.slice A0 l0.length c0, .int .i64 a1] w fun e w' => e = .returned (.int .i64 r) ∧ Drawn0 w w' := by
  unfold laws_heldComplex64S.f at h
  split at h
  · rename_i hx
    obtain rfl := Option.some.inj h
    have h1 := hr0
    rw [hx.1, cmarks_length] at h1
    refine (heldC_any A0 c0 l0.length a1 w h1 hx.2.1 hx.2.2).mono ?_
    rintro e w' ⟨rfl, rfl⟩
    exact ⟨rfl, Drawn0.refl _⟩
  · cases h


/-! ### laws_FnExactReadComplex: function 5 -/
mutual
def laws_FnExactReadComplex.j0 : Nat → ByteArray → List Int → Bool → List Int → Bool → Option (Bool)
  | 0, _, _, _, _, _ => none
  | k + 1, x0, x3, x4, x5, x32 => if x32 = true then (some false) else ((laws_markComplex64S.f k x5 1).bind fun bt263 => ((laws_heldComplex64S.f bt263.2 1).bind fun t265 => (if t265 < 0 then (some false) else (if t265 = bt263.1 then ((impl_ReadComplex.f k x0).bind fun bt266 => ((laws_eqComplex64S.f bt266.1 x3).bind fun t270 => (if t270 = true then (laws_FnExactReadComplex.j1 k bt263.2 bt263.1 (bt266.2 != x4)) else (laws_FnExactReadComplex.j1 k bt263.2 bt263.1 true)))) else (some false)))))
def laws_FnExactReadComplex.j1 : Nat → List Int → Int → Bool → Option (Bool)
  | 0, _, _, _ => none
  | k + 1, x5, x7, x57 => if x57 = true then (some false) else ((laws_heldComplex64S.f x5 1).bind fun t271 => (if t271 < 0 then (some false) else (if t271 = x7 then (some true) else (some false))))
end
def laws_FnExactReadComplex.f (k : Nat) (a0 : ByteArray) : Option (Bool) := if (a0.size : Int) > 1048576 then (some true) else ((spec_ReadComplex.f k a0).bind fun bt254 => ((impl_ReadComplex.f k a0).bind fun bt258 => ((laws_eqComplex64S.f bt258.1 bt254.1).bind fun t262 => (if t262 = true then (laws_FnExactReadComplex.j0 k a0 bt254.1 bt254.2 bt258.1 (bt258.2 != bt254.2)) else (laws_FnExactReadComplex.j0 k a0 bt254.1 bt254.2 bt258.1 true)))))
theorem laws_FnExactReadComplex.mono_l : ∀ k, (∀ y0 y1 y2 y3 y4, LeO (laws_FnExactReadComplex.j0 k y0 y1 y2 y3 y4) (laws_FnExactReadComplex.j0 (k + 1) y0 y1 y2 y3 y4)) ∧ (∀ y0 y1 y2, LeO (laws_FnExactReadComplex.j1 k y0 y1 y2) (laws_FnExactReadComplex.j1 (k + 1) y0 y1 y2))
  | 0 => ⟨fun _ _ _ _ _ r h => by simp [laws_FnExactReadComplex.j0] at h, fun _ _ _ r h => by simp [laws_FnExactReadComplex.j1] at h⟩
  | k + 1 => by
    obtain ⟨ih0, ih1⟩ := laws_FnExactReadComplex.mono_l k
    refine ⟨?_, ?_⟩
    · intro y0 y1 y2 y3 y4
      unfold laws_FnExactReadComplex.j0
      repeat' first
      | (with_reducible exact ih0 _ _ _ _ _)
      | (with_reducible exact ih1 _ _ _)
      | (with_reducible exact impl_ReadComplex.mono _ _)
      | (with_reducible exact laws_markComplex64S.mono _ _ _)
      | (with_reducible exact spec_ReadComplex.mono _ _)
      | (with_reducible exact LeO.refl _)
      | (with_reducible exact LeO.none _)
      | (with_reducible refine LeO.ite ?_ ?_)
      | (with_reducible refine LeO.bind ?_ (fun _ => ?_))
      | exact ih0 _ _ _ _ _
      | exact ih1 _ _ _
      | exact impl_ReadComplex.mono _ _
      | exact laws_markComplex64S.mono _ _ _
      | exact spec_ReadComplex.mono _ _
      | exact LeO.none _
      | refine LeO.ite ?_ ?_
      | refine LeO.bind ?_ (fun _ => ?_)
    · intro y0 y1 y2
      unfold laws_FnExactReadComplex.j1
      repeat' first
      | (with_reducible exact ih0 _ _ _ _ _)
      | (with_reducible exact ih1 _ _ _)
      | (with_reducible exact impl_ReadComplex.mono _ _)
      | (with_reducible exact laws_markComplex64S.mono _ _ _)
      | (with_reducible exact spec_ReadComplex.mono _ _)
      | (with_reducible exact LeO.refl _)
      | (with_reducible exact LeO.none _)
      | (with_reducible refine LeO.ite ?_ ?_)
      | (with_reducible refine LeO.bind ?_ (fun _ => ?_))
      | exact ih0 _ _ _ _ _
      | exact ih1 _ _ _
      | exact impl_ReadComplex.mono _ _
      | exact laws_markComplex64S.mono _ _ _
      | exact spec_ReadComplex.mono _ _
      | exact LeO.none _
      | refine LeO.ite ?_ ?_
      | refine LeO.bind ?_ (fun _ => ?_)
theorem laws_FnExactReadComplex.mono : ∀ a0 k, LeO (laws_FnExactReadComplex.f k a0) (laws_FnExactReadComplex.f (k + 1) a0) := by
  intro a0 k
  obtain ⟨ih0, ih1⟩ := laws_FnExactReadComplex.mono_l k
  unfold laws_FnExactReadComplex.f
  repeat' first
      | (with_reducible exact ih0 _ _ _ _ _)
      | (with_reducible exact ih1 _ _ _)
      | (with_reducible exact impl_ReadComplex.mono _ _)
      | (with_reducible exact laws_markComplex64S.mono _ _ _)
      | (with_reducible exact spec_ReadComplex.mono _ _)
      | (with_reducible exact LeO.refl _)
      | (with_reducible exact LeO.none _)
      | (with_reducible refine LeO.ite ?_ ?_)
      | (with_reducible refine LeO.bind ?_ (fun _ => ?_))
      | exact ih0 _ _ _ _ _
      | exact ih1 _ _ _
      | exact impl_ReadComplex.mono _ _
      | exact laws_markComplex64S.mono _ _ _
      | exact spec_ReadComplex.mono _ _
      | exact LeO.none _
      | refine LeO.ite ?_ ?_
      | refine LeO.bind ?_ (fun _ => ?_)
set_option maxHeartbeats 8000000 in
set_option maxRecDepth 100000 in
theorem laws_FnExactReadComplex.calls (k : Nat) (a0 : ByteArray) (r : Bool) (w : World) (h : laws_FnExactReadComplex.f k a0 = some r) (HT : Aside0 (TR w)) :
    Calls Tryd.prog 5 #[.string a0] w fun e w' => e = .returned (.bool r) ∧ Below w.heap.size w w' := by
  have HB := Aside0.mk (Below.refl w.heap.size w)
  have H : (if (a0.size : Int) > 1048576 then (some true) else ((spec_ReadComplex.f k a0).bind fun bt254 => ((impl_ReadComplex.f k a0).bind fun bt258 => ((laws_eqComplex64S.f bt258.1 bt254.1).bind fun t262 => (if t262 = true then (laws_FnExactReadComplex.j0 k a0 bt254.1 bt254.2 bt258.1 (bt258.2 != bt254.2)) else (laws_FnExactReadComplex.j0 k a0 bt254.1 bt254.2 bt258.1 true)))))) = some r := h
  clear h
  by_cases c2 : (a0.size : Int) > 1048576
  · rw [if_pos c2] at H
    have c2b0 : decide (1048576 < (a0.size : Int)) = true := decide_eq_true c2
    have c2b1 : decide (1048576 < a0.size) = true := decide_eq_true (by omega)
    clear c2
    obtain rfl := Option.some.inj H
    go_enter Tryd.func5, Tryd.ntmps5
    go_wp2
    go_ret
    exact ⟨by first | rfl | (simp [errW_none, errW_some] <;> rfl) | (simp [*, errW_none, errW_some] <;> rfl), by repeat (first | (with_reducible first | exact HB.out | apply below_alloc | apply pw_below_drewN | apply below_drew1) | exact HB.out)⟩
  · rw [if_neg c2] at H
    have c2b0 : decide (1048576 < (a0.size : Int)) = false := decide_eq_false c2
    have c2b1 : decide (1048576 < a0.size) = false := decide_eq_false (by omega)
    clear c2
    replace H := Option.bind_eq_some_iff.mp H
    obtain ⟨⟨t254, t255⟩, A30, H⟩ := H
    replace H : ((impl_ReadComplex.f k a0).bind fun bt258 => ((laws_eqComplex64S.f bt258.1 t254).bind fun t262 => (if t262 = true then (laws_FnExactReadComplex.j0 k a0 t254 t255 bt258.1 (bt258.2 != t255)) else (laws_FnExactReadComplex.j0 k a0 t254 t255 bt258.1 true)))) = some r := H
    have A3 := Aside0.mk A30
    clear A30
    replace H := Option.bind_eq_some_iff.mp H
    obtain ⟨⟨t258, t259⟩, A40, H⟩ := H
    replace H : ((laws_eqComplex64S.f t258 t254).bind fun t262 => (if t262 = true then (laws_FnExactReadComplex.j0 k a0 t254 t255 t258 (t259 != t255)) else (laws_FnExactReadComplex.j0 k a0 t254 t255 t258 true))) = some r := H
    have A4 := Aside0.mk A40
    clear A40
    have HC5 := Aside0.mk H
    clear H
    go_enter Tryd.func5, Tryd.ntmps5
    go_upto_region 5 with (first | ((with_reducible refine gate_callee (f := 18) rfl ?_); refine goesL_ (some 16) rfl rfl Tryd.func18 (by kernel_rfl) rfl #[.string a0] rfl (by (try simp only [List.map_toArray, List.map_cons, List.map_nil]); first | done | rfl | (simp only [List.length_drop, List.length_take]; rfl)) ?_; (with_reducible refine (spec_ReadComplex.calls k a0 t254 t255 _ A3.out).mono ?_); rintro e w6 ⟨v256, rfl, ho0, hb⟩; refine ⟨_, rfl, ?_⟩; have n0_ := Aside0.mk (Kd.R_lower ho0 (below_size (by repeat (first | (with_reducible first | exact HB.out | apply below_alloc | apply pw_below_drewN | apply below_drew1) | exact HB.out)))); have n1_ := Aside0.mk (below_step (by repeat (first | (with_reducible first | exact HB.out | apply below_alloc | apply pw_below_drewN | apply below_drew1) | exact HB.out)) hb); clear HB; have HO257 := n0_; have HB := n1_; clear n0_ n1_; (try clear hb); (try clear hb2); (try clear hk); (try clear hi); (try clear ho0)) | ((with_reducible refine gate_callee (f := 19) rfl ?_); refine goesL_ (some 21) rfl rfl Tryd.func19 (by kernel_rfl) rfl #[.string a0] rfl (by (try simp only [List.map_toArray, List.map_cons, List.map_nil]); first | done | rfl | (simp only [List.length_drop, List.length_take]; rfl)) ?_; (with_reducible refine (impl_ReadComplex.calls k a0 t258 t259 _ A4.out ⟨TR.on HT.out (by repeat (first | (with_reducible first | exact HB.out | apply below_alloc | apply pw_below_drewN | apply below_drew1) | exact HB.out))⟩).mono ?_); rintro e w7 ⟨v260, rfl, ho0, hb⟩; refine ⟨_, rfl, ?_⟩; have n0_ := Aside0.mk (Kd.R_elder' (by (with_reducible repeat (first | apply Kd.R_alloc | apply Kd.R_drewN | apply Kd.R_drew)); exact HO257.out) (Kd.R_base ho0) hb); have n1_ := Aside0.mk (Kd.R_lower (Kd.R_new' ho0 (Kd.R_lt (by (with_reducible repeat (first | apply Kd.R_alloc | apply Kd.R_drewN | apply Kd.R_drew)); exact HO257.out))) (below_size (by repeat (first | (with_reducible first | exact HB.out | apply below_alloc | apply pw_below_drewN | apply below_drew1) | exact HB.out)))); have n2_ := Aside0.mk (below_step (by repeat (first | (with_reducible first | exact HB.out | apply below_alloc | apply pw_below_drewN | apply below_drew1) | exact HB.out)) hb); clear HO257; clear HB; have HO257 := n0_; have HO261 := n1_; have HB := n2_; clear n0_ n1_ n2_; (try clear hb); (try clear hb2); (try clear hk); (try clear hi); (try clear ho0)))
    (try simp only [Act.put, List.setIfInBounds_toArray, List.set_cons_zero, List.set_cons_succ])
    go_cut [32] (fun v32 wc => ∃ (kq : Nat) (x32_4 : Bool), v32 = .bool x32_4 ∧ Aside0 (laws_FnExactReadComplex.j0 kq a0 t254 t255 t258 x32_4 = some r) ∧ Aside0 (kq ≤ k) ∧ Aside0 (Kd.R CKI 58 wc w.heap.size (fun k_ => some k_ ≠ (v260 : Value).ownBlock) v256 t254) ∧ Aside0 (Kd.R CKI 58 wc w.heap.size (fun k_ => some k_ ≠ (v256 : Value).ownBlock) v260 t258) ∧ Aside0 (Below w.heap.size w wc))
    case first =>
      have H := HC5.out
      clear HC5
      replace H := Option.bind_eq_some_iff.mp H
      obtain ⟨t262, A80, H⟩ := H
      replace H : (if t262 = true then (laws_FnExactReadComplex.j0 k a0 t254 t255 t258 (t259 != t255)) else (laws_FnExactReadComplex.j0 k a0 t254 t255 t258 true)) = some r := H
      have A8 := Aside0.mk A80
      clear A80
      by_cases c9 : t262 = true
      · subst c9
        have H1 : (laws_FnExactReadComplex.j0 k a0 t254 t255 t258 (t259 != t255)) = some r := by rw [if_pos rfl] at H; exact H
        clear H
        have H := H1
        clear H1
        have H' := Aside0.mk H
        clear H
        obtain ⟨Ao10, co10, eo10⟩ := Kd.R_slice HO261.out
        subst eo10
        obtain ⟨Ao11, co11, eo11⟩ := Kd.R_slice HO257.out
        subst eo11
        go_wp2_with (first | ((with_reducible refine gate_callee (f := 20) rfl ?_); refine goesL_ (some 26) rfl rfl Tryd.func20 (by kernel_rfl) rfl #[.slice Ao10 t258.length co10, .slice Ao11 t254.length co11] rfl (by (try simp only [List.map_toArray, List.map_cons, List.map_nil]); first | done | rfl | (simp only [List.length_drop, List.length_take]; rfl)) ?_; (with_reducible refine (laws_eqComplex64S.calls _ _ t258 _ _ t254 true _ ?side1 ?side2 ?side3 ?side4 A8.out).mono ?_); (case side1 => repeat (first | exact (Kd.R_reads' HO261.out).2.2 | (with_reducible refine Kd.C_alloc ?_ _) | (with_reducible refine Kd.C_drewN ?_ _) | (with_reducible refine Kd.C_drew ?_))); (case side2 => exact (Kd.R_reads' HO261.out).2.1); (case side3 => repeat (first | exact (Kd.R_reads' HO257.out).2.2 | (with_reducible refine Kd.C_alloc ?_ _) | (with_reducible refine Kd.C_drewN ?_ _) | (with_reducible refine Kd.C_drew ?_))); (case side4 => exact (Kd.R_reads' HO257.out).2.1); rintro e w' ⟨rfl, ⟨nd, rfl⟩⟩; refine ⟨_, rfl, ?_⟩))
        go_meet
        case rel => exact ⟨_, ((t259 != t255)), (by first | rfl | (simp; done) | (simp [*]; done)), H', ⟨by first | omega | exact Nat.le_refl _⟩, ⟨by (with_reducible repeat (first | apply Kd.R_alloc | apply Kd.R_drewN | apply Kd.R_drew)); exact Kd.R_mono HO257.out (fun _ hk => hk.2)⟩, ⟨by (with_reducible repeat (first | apply Kd.R_alloc | apply Kd.R_drewN | apply Kd.R_drew)); exact Kd.R_mono HO261.out (fun _ hk => hk.2)⟩, ⟨by repeat (first | (with_reducible first | exact HB.out | apply below_alloc | apply pw_below_drewN | apply below_drew1) | exact HB.out)⟩⟩
      · replace c9 := Bool.eq_false_iff.mpr c9
        subst c9
        have H1 : (laws_FnExactReadComplex.j0 k a0 t254 t255 t258 true) = some r := by rw [if_neg (show ¬ (false = true) by decide)] at H; exact H
        clear H
        have H := H1
        clear H1
        have H' := Aside0.mk H
        clear H
        obtain ⟨Ao12, co12, eo12⟩ := Kd.R_slice HO261.out
        subst eo12
        obtain ⟨Ao13, co13, eo13⟩ := Kd.R_slice HO257.out
        subst eo13
        go_wp2_with (first | ((with_reducible refine gate_callee (f := 20) rfl ?_); refine goesL_ (some 26) rfl rfl Tryd.func20 (by kernel_rfl) rfl #[.slice Ao12 t258.length co12, .slice Ao13 t254.length co13] rfl (by (try simp only [List.map_toArray, List.map_cons, List.map_nil]); first | done | rfl | (simp only [List.length_drop, List.length_take]; rfl)) ?_; (with_reducible refine (laws_eqComplex64S.calls _ _ t258 _ _ t254 false _ ?side1 ?side2 ?side3 ?side4 A8.out).mono ?_); (case side1 => repeat (first | exact (Kd.R_reads' HO261.out).2.2 | (with_reducible refine Kd.C_alloc ?_ _) | (with_reducible refine Kd.C_drewN ?_ _) | (with_reducible refine Kd.C_drew ?_))); (case side2 => exact (Kd.R_reads' HO261.out).2.1); (case side3 => repeat (first | exact (Kd.R_reads' HO257.out).2.2 | (with_reducible refine Kd.C_alloc ?_ _) | (with_reducible refine Kd.C_drewN ?_ _) | (with_reducible refine Kd.C_drew ?_))); (case side4 => exact (Kd.R_reads' HO257.out).2.1); rintro e w' ⟨rfl, ⟨nd, rfl⟩⟩; refine ⟨_, rfl, ?_⟩))
        go_meet
        case rel => exact ⟨_, (true), (by first | rfl | (simp; done) | (simp [*]; done)), H', ⟨by first | omega | exact Nat.le_refl _⟩, ⟨by (with_reducible repeat (first | apply Kd.R_alloc | apply Kd.R_drewN | apply Kd.R_drew)); exact Kd.R_mono HO257.out (fun _ hk => hk.2)⟩, ⟨by (with_reducible repeat (first | apply Kd.R_alloc | apply Kd.R_drewN | apply Kd.R_drew)); exact Kd.R_mono HO261.out (fun _ hk => hk.2)⟩, ⟨by repeat (first | (with_reducible first | exact HB.out | apply below_alloc | apply pw_below_drewN | apply below_drew1) | exact HB.out)⟩⟩
    case rest =>
      clear HC5
      try clear c1
      try clear c2
      try clear c2b0
      try clear c2b1
      try clear p2
      try clear c5
      try clear c9
      obtain ⟨kq, x32_4, rfl, HA, HJ4, HO_3, HO_5, HB⟩ := hcut
      cases kq with
      | zero => exact absurd HA.out (by simp [laws_FnExactReadComplex.j0])
      | succ kj4 =>
        have H := HA.out
        clear HA
        simp only [laws_FnExactReadComplex.j0] at H
        by_cases c14 : x32_4 = true
        · subst c14
          have H1 : (some false) = some r := by rw [if_pos rfl] at H; exact H
          clear H
          have H := H1
          clear H1
          obtain rfl := Option.some.inj H
          go_wp2
          go_ret
          exact ⟨by first | rfl | (simp [errW_none, errW_some] <;> rfl) | (simp [*, errW_none, errW_some] <;> rfl), by repeat (first | (with_reducible first | exact HB.out | apply below_alloc | apply pw_below_drewN | apply below_drew1) | exact HB.out)⟩
        · replace c14 := Bool.eq_false_iff.mpr c14
          subst c14
          have H1 : ((laws_markComplex64S.f kj4 t258 1).bind fun bt263 => ((laws_heldComplex64S.f bt263.2 1).bind fun t265 => (if t265 < 0 then (some false) else (if t265 = bt263.1 then ((impl_ReadComplex.f kj4 a0).bind fun bt266 => ((laws_eqComplex64S.f bt266.1 t254).bind fun t270 => (if t270 = true then (laws_FnExactReadComplex.j1 kj4 bt263.2 bt263.1 (bt266.2 != t255)) else (laws_FnExactReadComplex.j1 kj4 bt263.2 bt263.1 true)))) else (some false))))) = some r := by rw [if_neg (show ¬ (false = true) by decide)] at H; exact H
          clear H
          have H := H1
          clear H1
          replace H := Option.bind_eq_some_iff.mp H
          obtain ⟨⟨t263, t264⟩, A150, H⟩ := H
          replace H : ((laws_heldComplex64S.f t264 1).bind fun t265 => (if t265 < 0 then (some false) else (if t265 = t263 then ((impl_ReadComplex.f kj4 a0).bind fun bt266 => ((laws_eqComplex64S.f bt266.1 t254).bind fun t270 => (if t270 = true then (laws_FnExactReadComplex.j1 kj4 t264 t263 (bt266.2 != t255)) else (laws_FnExactReadComplex.j1 kj4 t264 t263 true)))) else (some false)))) = some r := H
          have A15 := Aside0.mk A150
          clear A150
          replace H := Option.bind_eq_some_iff.mp H
          obtain ⟨t265, A160, H⟩ := H
          replace H : (if t265 < 0 then (some false) else (if t265 = t263 then ((impl_ReadComplex.f kj4 a0).bind fun bt266 => ((laws_eqComplex64S.f bt266.1 t254).bind fun t270 => (if t270 = true then (laws_FnExactReadComplex.j1 kj4 t264 t263 (bt266.2 != t255)) else (laws_FnExactReadComplex.j1 kj4 t264 t263 true)))) else (some false))) = some r := H
          have A16 := Aside0.mk A160
          clear A160
          by_cases c17 : t265 < 0
          · rw [if_pos c17] at H
            have c17b0 : decide (t265 < 0) = true := decide_eq_true c17
            clear c17
            obtain rfl := Option.some.inj H
            obtain ⟨Ao18, co18, eo18⟩ := Kd.R_slice HO_5.out
            subst eo18
            go_wp2_with (first | ((with_reducible refine gate_callee (f := 21) rfl ?_); refine goesL_ (some 35) rfl rfl Tryd.func21 (by kernel_rfl) rfl #[.slice Ao18 t258.length co18, .int .i64 1] rfl (by (try simp only [List.map_toArray, List.map_cons, List.map_nil]); first | done | rfl | (simp only [List.length_drop, List.length_take]; rfl)) ?_; (with_reducible refine (laws_markComplex64S.calls kj4 (fun k_ => some k_ = (.slice Ao18 t258.length co18 : Value).ownBlock) (.slice Ao18 t258.length co18) t258 1 t263 t264 w _ ?side1 ?side2 A15.out).mono ?_); (case side1 => repeat (first | (with_reducible first | exact HB.out | apply below_alloc | apply pw_below_drewN | apply below_drew1) | exact HB.out)); (case side2 => exact Kd.R_tight rfl HO_5.out); rintro e w19 ⟨rfl, hy0, hb, hkp⟩; refine ⟨_, rfl, ?_⟩; have n0_ := Aside0.mk (Kd.R_mono (ok' := fun k_ => some k_ ≠ (.slice Ao18 t258.length co18 : Value).ownBlock) (Kd.R_keptB (HO_3.out) hkp (fun k_ hk_ hs_ => (hk_) hs_)) (fun k_ hk_ => hk_.1)); have n1_ := Aside0.mk (Kd.R_reok rfl hy0 (fun k_ e_ => HO_5.out.1 k_ e_)); have n2_ := Aside0.mk (hb); clear HO_3; clear HO_5; clear HB; have HO_3 := n0_; have HO_5 := n1_; have HB := n2_; clear n0_ n1_ n2_; (try clear hb); (try clear hkp); (try clear hy0)) | ((with_reducible refine gate_callee (f := 22) rfl ?_); refine goesL_ (some 38) rfl rfl Tryd.func22 (by kernel_rfl) rfl #[.slice Ao18 t264.length co18, .int .i64 1] rfl (by (try simp only [List.map_toArray, List.map_cons, List.map_nil]); first | done | (rw [show t264.length = t258.length from (Kd.R_reads' HO_5.out).1.symm] <;> rfl) | rfl | (simp only [List.length_drop, List.length_take]; rfl)) ?_; (with_reducible refine (laws_heldComplex64S.calls _ _ t264 1 t265 _ ?side1 ?side2 A16.out).mono ?_); (case side1 => repeat (first | exact (Kd.R_reads' HO_5.out).2.2 | (with_reducible refine Kd.C_alloc ?_ _) | (with_reducible refine Kd.C_drewN ?_ _) | (with_reducible refine Kd.C_drew ?_))); (case side2 => rw [show t264.length = t258.length from (Kd.R_reads' HO_5.out).1.symm]; exact (Kd.R_reads' HO_5.out).2.1); rintro e w' ⟨rfl, ⟨nd, rfl⟩⟩; refine ⟨_, rfl, ?_⟩))
            go_ret
            exact ⟨by first | rfl | (simp [errW_none, errW_some] <;> rfl) | (simp [*, errW_none, errW_some] <;> rfl), by repeat (first | (with_reducible first | exact HB.out | apply below_alloc | apply pw_below_drewN | apply below_drew1) | exact HB.out)⟩
          · rw [if_neg c17] at H
            have c17b0 : decide (t265 < 0) = false := decide_eq_false c17
            clear c17
            by_cases c20 : t265 = t263
            · rw [if_pos c20] at H
              have c20b0 : (t265 == t263) = true := beq_iff_eq.mpr c20
              have c20b1 : (t265 != t263) = false := bne_eq_false_iff_eq.mpr c20
              clear c20
              replace H := Option.bind_eq_some_iff.mp H
              obtain ⟨⟨t266, t267⟩, A210, H⟩ := H
              replace H : ((laws_eqComplex64S.f t266 t254).bind fun t270 => (if t270 = true then (laws_FnExactReadComplex.j1 kj4 t264 t263 (t267 != t255)) else (laws_FnExactReadComplex.j1 kj4 t264 t263 true))) = some r := H
              have A21 := Aside0.mk A210
              clear A210
              have HC22 := Aside0.mk H
              clear H
              obtain ⟨Ao23, co23, eo23⟩ := Kd.R_slice HO_5.out
              subst eo23
              go_upto_region 16 with (first | ((with_reducible refine gate_callee (f := 21) rfl ?_); refine goesL_ (some 35) rfl rfl Tryd.func21 (by kernel_rfl) rfl #[.slice Ao23 t258.length co23, .int .i64 1] rfl (by (try simp only [List.map_toArray, List.map_cons, List.map_nil]); first | done | rfl | (simp only [List.length_drop, List.length_take]; rfl)) ?_; (with_reducible refine (laws_markComplex64S.calls kj4 (fun k_ => some k_ = (.slice Ao23 t258.length co23 : Value).ownBlock) (.slice Ao23 t258.length co23) t258 1 t263 t264 w _ ?side1 ?side2 A15.out).mono ?_); (case side1 => repeat (first | (with_reducible first | exact HB.out | apply below_alloc | apply pw_below_drewN | apply below_drew1) | exact HB.out)); (case side2 => exact Kd.R_tight rfl HO_5.out); rintro e w24 ⟨rfl, hy0, hb, hkp⟩; refine ⟨_, rfl, ?_⟩; have n0_ := Aside0.mk (Kd.R_mono (ok' := fun k_ => some k_ ≠ (.slice Ao23 t258.length co23 : Value).ownBlock) (Kd.R_keptB (HO_3.out) hkp (fun k_ hk_ hs_ => (hk_) hs_)) (fun k_ hk_ => hk_.1)); have n1_ := Aside0.mk (Kd.R_reok rfl hy0 (fun k_ e_ => HO_5.out.1 k_ e_)); have n2_ := Aside0.mk (hb); clear HO_3; clear HO_5; clear HB; have HO_3 := n0_; have HO_5 := n1_; have HB := n2_; clear n0_ n1_ n2_; (try clear hb); (try clear hkp); (try clear hy0)) | ((with_reducible refine gate_callee (f := 22) rfl ?_); refine goesL_ (some 38) rfl rfl Tryd.func22 (by kernel_rfl) rfl #[.slice Ao23 t264.length co23, .int .i64 1] rfl (by (try simp only [List.map_toArray, List.map_cons, List.map_nil]); first | done | (rw [show t264.length = t258.length from (Kd.R_reads' HO_5.out).1.symm] <;> rfl) | rfl | (simp only [List.length_drop, List.length_take]; rfl)) ?_; (with_reducible refine (laws_heldComplex64S.calls _ _ t264 1 t265 _ ?side1 ?side2 A16.out).mono ?_); (case side1 => repeat (first | exact (Kd.R_reads' HO_5.out).2.2 | (with_reducible refine Kd.C_alloc ?_ _) | (with_reducible refine Kd.C_drewN ?_ _) | (with_reducible refine Kd.C_drew ?_))); (case side2 => rw [show t264.length = t258.length from (Kd.R_reads' HO_5.out).1.symm]; exact (Kd.R_reads' HO_5.out).2.1); rintro e w' ⟨rfl, ⟨nd, rfl⟩⟩; refine ⟨_, rfl, ?_⟩) | ((with_reducible refine gate_callee (f := 19) rfl ?_); refine goesL_ (some 46) rfl rfl Tryd.func19 (by kernel_rfl) rfl #[.string a0] rfl (by (try simp only [List.map_toArray, List.map_cons, List.map_nil]); first | done | rfl | (simp only [List.length_drop, List.length_take]; rfl)) ?_; (with_reducible refine (impl_ReadComplex.calls kj4 a0 t266 t267 _ A21.out ⟨TR.on HT.out (by repeat (first | (with_reducible first | exact HB.out | apply below_alloc | apply pw_below_drewN | apply below_drew1) | exact HB.out))⟩).mono ?_); rintro e w25 ⟨v268, rfl, ho0, hb⟩; refine ⟨_, rfl, ?_⟩; have n0_ := Aside0.mk (Kd.R_elder' (by (with_reducible repeat (first | apply Kd.R_alloc | apply Kd.R_drewN | apply Kd.R_drew)); exact HO_3.out) (Kd.R_base ho0) hb); have n1_ := Aside0.mk (Kd.R_elder' (by (with_reducible repeat (first | apply Kd.R_alloc | apply Kd.R_drewN | apply Kd.R_drew)); exact HO_5.out) (Kd.R_base ho0) hb); have n2_ := Aside0.mk (Kd.R_lower (Kd.R_new' (Kd.R_new' ho0 (Kd.R_lt (by (with_reducible repeat (first | apply Kd.R_alloc | apply Kd.R_drewN | apply Kd.R_drew)); exact HO_3.out))) (Kd.R_lt (by (with_reducible repeat (first | apply Kd.R_alloc | apply Kd.R_drewN | apply Kd.R_drew)); exact HO_5.out))) (below_size (by repeat (first | (with_reducible first | exact HB.out | apply below_alloc | apply pw_below_drewN | apply below_drew1) | exact HB.out)))); have n3_ := Aside0.mk (below_step (by repeat (first | (with_reducible first | exact HB.out | apply below_alloc | apply pw_below_drewN | apply below_drew1) | exact HB.out)) hb); clear HO_3; clear HO_5; clear HB; have HO_3 := n0_; have HO_5 := n1_; have HO269 := n2_; have HB := n3_; clear n0_ n1_ n2_ n3_; (try clear hb); (try clear hb2); (try clear hk); (try clear hi); (try clear ho0)))
              (try simp only [Act.put, List.setIfInBounds_toArray, List.set_cons_zero, List.set_cons_succ])
              go_cut [57] (fun v57 wc => ∃ (kq : Nat) (x57_21 : Bool), v57 = .bool x57_21 ∧ Aside0 (laws_FnExactReadComplex.j1 kq t264 t263 x57_21 = some r) ∧ Aside0 (kq ≤ kj4) ∧ Aside0 (Kd.R CKI 58 wc w.heap.size (fun _ => True) (.slice Ao23 t258.length co23) t264) ∧ Aside0 (Below w.heap.size w wc))
              case first =>
                have H := HC22.out
                clear HC22
                replace H := Option.bind_eq_some_iff.mp H
                obtain ⟨t270, A260, H⟩ := H
                replace H : (if t270 = true then (laws_FnExactReadComplex.j1 kj4 t264 t263 (t267 != t255)) else (laws_FnExactReadComplex.j1 kj4 t264 t263 true)) = some r := H
                have A26 := Aside0.mk A260
                clear A260
                by_cases c27 : t270 = true
                · subst c27
                  have H1 : (laws_FnExactReadComplex.j1 kj4 t264 t263 (t267 != t255)) = some r := by rw [if_pos rfl] at H; exact H
                  clear H
                  have H := H1
                  clear H1
                  have H' := Aside0.mk H
                  clear H
                  obtain ⟨Ao28, co28, eo28⟩ := Kd.R_slice HO269.out
                  subst eo28
                  obtain ⟨Ao29, co29, eo29⟩ := Kd.R_slice HO_3.out
                  subst eo29
                  go_wp2_with (first | ((with_reducible refine gate_callee (f := 20) rfl ?_); refine goesL_ (some 51) rfl rfl Tryd.func20 (by kernel_rfl) rfl #[.slice Ao28 t266.length co28, .slice Ao29 t254.length co29] rfl (by (try simp only [List.map_toArray, List.map_cons, List.map_nil]); first | done | rfl | (simp only [List.length_drop, List.length_take]; rfl)) ?_; (with_reducible refine (laws_eqComplex64S.calls _ _ t266 _ _ t254 true _ ?side1 ?side2 ?side3 ?side4 A26.out).mono ?_); (case side1 => repeat (first | exact (Kd.R_reads' HO269.out).2.2 | (with_reducible refine Kd.C_alloc ?_ _) | (with_reducible refine Kd.C_drewN ?_ _) | (with_reducible refine Kd.C_drew ?_))); (case side2 => exact (Kd.R_reads' HO269.out).2.1); (case side3 => repeat (first | exact (Kd.R_reads' HO_3.out).2.2 | (with_reducible refine Kd.C_alloc ?_ _) | (with_reducible refine Kd.C_drewN ?_ _) | (with_reducible refine Kd.C_drew ?_))); (case side4 => exact (Kd.R_reads' HO_3.out).2.1); rintro e w' ⟨rfl, ⟨nd, rfl⟩⟩; refine ⟨_, rfl, ?_⟩))
                  go_meet
                  case rel => exact ⟨_, ((t267 != t255)), (by first | rfl | (simp; done) | (simp [*]; done)), H', ⟨by have := HJ4.out; first | omega | exact Nat.le_refl _⟩, ⟨by (with_reducible repeat (first | apply Kd.R_alloc | apply Kd.R_drewN | apply Kd.R_drew)); exact Kd.R_mono HO_5.out (fun _ hk => trivial)⟩, ⟨by repeat (first | (with_reducible first | exact HB.out | apply below_alloc | apply pw_below_drewN | apply below_drew1) | exact HB.out)⟩⟩
                · replace c27 := Bool.eq_false_iff.mpr c27
                  subst c27
                  have H1 : (laws_FnExactReadComplex.j1 kj4 t264 t263 true) = some r := by rw [if_neg (show ¬ (false = true) by decide)] at H; exact H
                  clear H
                  have H := H1
                  clear H1
                  have H' := Aside0.mk H
                  clear H
                  obtain ⟨Ao30, co30, eo30⟩ := Kd.R_slice HO269.out
                  subst eo30
                  obtain ⟨Ao31, co31, eo31⟩ := Kd.R_slice HO_3.out
                  subst eo31
                  go_wp2_with (first | ((with_reducible refine gate_callee (f := 20) rfl ?_); refine goesL_ (some 51) rfl rfl Tryd.func20 (by kernel_rfl) rfl #[.slice Ao30 t266.length co30, .slice Ao31 t254.length co31] rfl (by (try simp only [List.map_toArray, List.map_cons, List.map_nil]); first | done | rfl | (simp only [List.length_drop, List.length_take]; rfl)) ?_; (with_reducible refine (laws_eqComplex64S.calls _ _ t266 _ _ t254 false _ ?side1 ?side2 ?side3 ?side4 A26.out).mono ?_); (case side1 => repeat (first | exact (Kd.R_reads' HO269.out).2.2 | (with_reducible refine Kd.C_alloc ?_ _) | (with_reducible refine Kd.C_drewN ?_ _) | (with_reducible refine Kd.C_drew ?_))); (case side2 => exact (Kd.R_reads' HO269.out).2.1); (case side3 => repeat (first | exact (Kd.R_reads' HO_3.out).2.2 | (with_reducible refine Kd.C_alloc ?_ _) | (with_reducible refine Kd.C_drewN ?_ _) | (with_reducible refine Kd.C_drew ?_))); (case side4 => exact (Kd.R_reads' HO_3.out).2.1); rintro e w' ⟨rfl, ⟨nd, rfl⟩⟩; refine ⟨_, rfl, ?_⟩))
                  go_meet
                  case rel => exact ⟨_, (true), (by first | rfl | (simp; done) | (simp [*]; done)), H', ⟨by have := HJ4.out; first | omega | exact Nat.le_refl _⟩, ⟨by (with_reducible repeat (first | apply Kd.R_alloc | apply Kd.R_drewN | apply Kd.R_drew)); exact Kd.R_mono HO_5.out (fun _ hk => trivial)⟩, ⟨by repeat (first | (with_reducible first | exact HB.out | apply below_alloc | apply pw_below_drewN | apply below_drew1) | exact HB.out)⟩⟩
              case rest =>
                clear HC22
                try clear c1
                try clear c2
                try clear c2b0
                try clear c2b1
                try clear p2
                try clear c5
                try clear c9
                try clear c14
                try clear c17
                try clear c17b0
                try clear c18
                try clear c19
                try clear c20
                try clear c20b0
                try clear c20b1
                try clear c21
                try clear c22
                try clear c27
                try clear p2
                obtain ⟨kq, x57_21, rfl, HA, HJ21, HO_5, HB⟩ := hcut
                have hl5_21 := (Kd.R_reads' HO_5.out).1
                rw [hl5_21] at HO_5
                (try simp only [hl5_21])
                cases kq with
                | zero => exact absurd HA.out (by simp [laws_FnExactReadComplex.j1])
                | succ kj21 =>
                  have H := HA.out
                  clear HA
                  simp only [laws_FnExactReadComplex.j1] at H
                  by_cases c32 : x57_21 = true
                  · subst c32
                    have H1 : (some false) = some r := by rw [if_pos rfl] at H; exact H
                    clear H
                    have H := H1
                    clear H1
                    obtain rfl := Option.some.inj H
                    go_wp2
                    go_ret
                    exact ⟨by first | rfl | (simp [errW_none, errW_some] <;> rfl) | (simp [*, errW_none, errW_some] <;> rfl), by repeat (first | (with_reducible first | exact HB.out | apply below_alloc | apply pw_below_drewN | apply below_drew1) | exact HB.out)⟩
                  · replace c32 := Bool.eq_false_iff.mpr c32
                    subst c32
                    have H1 : ((laws_heldComplex64S.f t264 1).bind fun t271 => (if t271 < 0 then (some false) else (if t271 = t263 then (some true) else (some false)))) = some r := by rw [if_neg (show ¬ (false = true) by decide)] at H; exact H
                    clear H
                    have H := H1
                    clear H1
                    replace H := Option.bind_eq_some_iff.mp H
                    obtain ⟨t271, A330, H⟩ := H
                    replace H : (if t271 < 0 then (some false) else (if t271 = t263 then (some true) else (some false))) = some r := H
                    have A33 := Aside0.mk A330
                    clear A330
                    by_cases c34 : t271 < 0
                    · rw [if_pos c34] at H
                      have c34b0 : decide (t271 < 0) = true := decide_eq_true c34
                      clear c34
                      obtain rfl := Option.some.inj H
                      go_wp2_with (first | ((with_reducible refine gate_callee (f := 22) rfl ?_); refine goesL_ (some 60) rfl rfl Tryd.func22 (by kernel_rfl) rfl #[.slice Ao23 t264.length co23, .int .i64 1] rfl (by (try simp only [List.map_toArray, List.map_cons, List.map_nil]); first | done | rfl | (simp only [List.length_drop, List.length_take]; rfl)) ?_; (with_reducible refine (laws_heldComplex64S.calls _ _ t264 1 t271 _ ?side1 ?side2 A33.out).mono ?_); (case side1 => repeat (first | exact (Kd.R_reads' HO_5.out).2.2 | (with_reducible refine Kd.C_alloc ?_ _) | (with_reducible refine Kd.C_drewN ?_ _) | (with_reducible refine Kd.C_drew ?_))); (case side2 => exact (Kd.R_reads' HO_5.out).2.1); rintro e w' ⟨rfl, ⟨nd, rfl⟩⟩; refine ⟨_, rfl, ?_⟩))
                      go_ret
                      exact ⟨by first | rfl | (simp [errW_none, errW_some] <;> rfl) | (simp [*, errW_none, errW_some] <;> rfl), by repeat (first | (with_reducible first | exact HB.out | apply below_alloc | apply pw_below_drewN | apply below_drew1) | exact HB.out)⟩
                    · rw [if_neg c34] at H
                      have c34b0 : decide (t271 < 0) = false := decide_eq_false c34
                      clear c34
                      by_cases c35 : t271 = t263
                      · rw [if_pos c35] at H
                        have c35b0 : (t271 == t263) = true := beq_iff_eq.mpr c35
                        have c35b1 : (t271 != t263) = false := bne_eq_false_iff_eq.mpr c35
                        clear c35
                        obtain rfl := Option.some.inj H
                        go_wp2_with (first | ((with_reducible refine gate_callee (f := 22) rfl ?_); refine goesL_ (some 60) rfl rfl Tryd.func22 (by kernel_rfl) rfl #[.slice Ao23 t264.length co23, .int .i64 1] rfl (by (try simp only [List.map_toArray, List.map_cons, List.map_nil]); first | done | rfl | (simp only [List.length_drop, List.length_take]; rfl)) ?_; (with_reducible refine (laws_heldComplex64S.calls _ _ t264 1 t271 _ ?side1 ?side2 A33.out).mono ?_); (case side1 => repeat (first | exact (Kd.R_reads' HO_5.out).2.2 | (with_reducible refine Kd.C_alloc ?_ _) | (with_reducible refine Kd.C_drewN ?_ _) | (with_reducible refine Kd.C_drew ?_))); (case side2 => exact (Kd.R_reads' HO_5.out).2.1); rintro e w' ⟨rfl, ⟨nd, rfl⟩⟩; refine ⟨_, rfl, ?_⟩))
                        go_ret
                        exact ⟨by first | rfl | (simp [errW_none, errW_some] <;> rfl) | (simp [*, errW_none, errW_some] <;> rfl), by repeat (first | (with_reducible first | exact HB.out | apply below_alloc | apply pw_below_drewN | apply below_drew1) | exact HB.out)⟩
                      · rw [if_neg c35] at H
                        have c35b0 : (t271 == t263) = false := beq_eq_false_iff_ne.mpr c35
                        have c35b1 : (t271 != t263) = true := bne_iff_ne.mpr c35
                        obtain rfl := Option.some.inj H
                        go_wp2_with (first | ((with_reducible refine gate_callee (f := 22) rfl ?_); refine goesL_ (some 60) rfl rfl Tryd.func22 (by kernel_rfl) rfl #[.slice Ao23 t264.length co23, .int .i64 1] rfl (by (try simp only [List.map_toArray, List.map_cons, List.map_nil]); first | done | rfl | (simp only [List.length_drop, List.length_take]; rfl)) ?_; (with_reducible refine (laws_heldComplex64S.calls _ _ t264 1 t271 _ ?side1 ?side2 A33.out).mono ?_); (case side1 => repeat (first | exact (Kd.R_reads' HO_5.out).2.2 | (with_reducible refine Kd.C_alloc ?_ _) | (with_reducible refine Kd.C_drewN ?_ _) | (with_reducible refine Kd.C_drew ?_))); (case side2 => exact (Kd.R_reads' HO_5.out).2.1); rintro e w' ⟨rfl, ⟨nd, rfl⟩⟩; refine ⟨_, rfl, ?_⟩))
                        go_ret
                        exact ⟨by first | rfl | (simp [errW_none, errW_some] <;> rfl) | (simp [*, errW_none, errW_some] <;> rfl), by repeat (first | (with_reducible first | exact HB.out | apply below_alloc | apply pw_below_drewN | apply below_drew1) | exact HB.out)⟩
            · rw [if_neg c20] at H
              have c20b0 : (t265 == t263) = false := beq_eq_false_iff_ne.mpr c20
              have c20b1 : (t265 != t263) = true := bne_iff_ne.mpr c20
              obtain rfl := Option.some.inj H
              obtain ⟨Ao36, co36, eo36⟩ := Kd.R_slice HO_5.out
              subst eo36
              go_wp2_with (first | ((with_reducible refine gate_callee (f := 21) rfl ?_); refine goesL_ (some 35) rfl rfl Tryd.func21 (by kernel_rfl) rfl #[.slice Ao36 t258.length co36, .int .i64 1] rfl (by (try simp only [List.map_toArray, List.map_cons, List.map_nil]); first | done | rfl | (simp only [List.length_drop, List.length_take]; rfl)) ?_; (with_reducible refine (laws_markComplex64S.calls kj4 (fun k_ => some k_ = (.slice Ao36 t258.length co36 : Value).ownBlock) (.slice Ao36 t258.length co36) t258 1 t263 t264 w _ ?side1 ?side2 A15.out).mono ?_); (case side1 => repeat (first | (with_reducible first | exact HB.out | apply below_alloc | apply pw_below_drewN | apply below_drew1) | exact HB.out)); (case side2 => exact Kd.R_tight rfl HO_5.out); rintro e w37 ⟨rfl, hy0, hb, hkp⟩; refine ⟨_, rfl, ?_⟩; have n0_ := Aside0.mk (Kd.R_mono (ok' := fun k_ => some k_ ≠ (.slice Ao36 t258.length co36 : Value).ownBlock) (Kd.R_keptB (HO_3.out) hkp (fun k_ hk_ hs_ => (hk_) hs_)) (fun k_ hk_ => hk_.1)); have n1_ := Aside0.mk (Kd.R_reok rfl hy0 (fun k_ e_ => HO_5.out.1 k_ e_)); have n2_ := Aside0.mk (hb); clear HO_3; clear HO_5; clear HB; have HO_3 := n0_; have HO_5 := n1_; have HB := n2_; clear n0_ n1_ n2_; (try clear hb); (try clear hkp); (try clear hy0)) | ((with_reducible refine gate_callee (f := 22) rfl ?_); refine goesL_ (some 38) rfl rfl Tryd.func22 (by kernel_rfl) rfl #[.slice Ao36 t264.length co36, .int .i64 1] rfl (by (try simp only [List.map_toArray, List.map_cons, List.map_nil]); first | done | (rw [show t264.length = t258.length from (Kd.R_reads' HO_5.out).1.symm] <;> rfl) | rfl | (simp only [List.length_drop, List.length_take]; rfl)) ?_; (with_reducible refine (laws_heldComplex64S.calls _ _ t264 1 t265 _ ?side1 ?side2 A16.out).mono ?_); (case side1 => repeat (first | exact (Kd.R_reads' HO_5.out).2.2 | (with_reducible refine Kd.C_alloc ?_ _) | (with_reducible refine Kd.C_drewN ?_ _) | (with_reducible refine Kd.C_drew ?_))); (case side2 => rw [show t264.length = t258.length from (Kd.R_reads' HO_5.out).1.symm]; exact (Kd.R_reads' HO_5.out).2.1); rintro e w' ⟨rfl, ⟨nd, rfl⟩⟩; refine ⟨_, rfl, ?_⟩))
              go_ret
              exact ⟨by first | rfl | (simp [errW_none, errW_some] <;> rfl) | (simp [*, errW_none, errW_some] <;> rfl), by repeat (first | (with_reducible first | exact HB.out | apply below_alloc | apply pw_below_drewN | apply below_drew1) | exact HB.out)⟩

/-- THE ONE PURE STATEMENT of laws_FnExactReadComplex: yours. -/
def laws_FnExactReadComplex.Pure : Prop := ∀ (a0 : ByteArray), a0.size ≤ 140737488351232 → ∃ k, laws_FnExactReadComplex.f k a0 = some true
theorem laws_FnExactReadComplex.walk (P : laws_FnExactReadComplex.Pure) (a0 : ByteArray) (w : World) (w0 : a0.size ≤ 140737488351232) (HT : Aside0 (TR w)) :
    Calls Tryd.prog 5 #[.string a0] w fun e w' => e = .returned (.bool true) ∧ Below w.heap.size w w' := by
  obtain ⟨k, h⟩ := P a0 w0
  refine (laws_FnExactReadComplex.calls k a0 true w h HT).mono ?_
  rintro e w' ⟨rfl, hd⟩
  exact ⟨rfl, hd⟩

end Go.Proofs.YtempeenjpaldaaaDoor.SCpx

namespace Go.Proofs.YtempeenjpaldaaaDoor.SCpx
open Go.RowKit Go.Proofs.YtempeenjpaldaaaDoorW.PrintWords Go.Proofs.YtempeenjpaldaaaDoorW.PrintLast Go.Proofs.YtempeenjpaldaaaDoorW.PrintMore Fl Hx SNum
/-- one character -/
theorem dig_run (K : Nat) (p : ByteArray) (h8 : p.size = 8) (n j : Nat) (hj : j < 8) (hn : n < 16 ^ j) (c : UInt8) (hc : p.data.toList[j]? = some c) :
    spec_l01Digits.l0 (K + 1 + 1 + 1 + 1) p n j = match dv c.toNat with | some d => spec_l01Digits.l0 K p ((n * 16 + d : Nat) : Int) ((j + 1 : Nat) : Int) | none => some (0, false) := by
  have hlen : p.data.toList.length = 8 := by rw [data_length]; exact h8
  have hbt : bt p (j : Int) = (c.toNat : Int) := by
    rw [bt_list p j (by omega)]
    obtain ⟨_, h⟩ := List.getElem?_eq_some_iff.1 hc
    rw [h]
  have hp := pow_le (k := j) (by omega)
  have hc256 := c.toNat_lt
  conv => lhs; unfold spec_l01Digits.l0
  rw [hbt, if_pos (by omega), if_pos (by omega)]
  have e1 : (if (c.toNat : Int) ≥ 48 then spec_l01Digits.j1 (K + 1 + 1 + 1) p n j (-1) (decide ((c.toNat : Int) ≤ 57)) else spec_l01Digits.j1 (K + 1 + 1 + 1) p n j (-1) false) = spec_l01Digits.j1 (K + 1 + 1 + 1) p n j (-1) (decide (48 ≤ c.toNat ∧ c.toNat ≤ 57)) := by
    split
    · rw [decide_eq_decide.2 (show (c.toNat : Int) ≤ 57 ↔ 48 ≤ c.toNat ∧ c.toNat ≤ 57 by omega)]
    · rw [decide_eq_false (show ¬ (48 ≤ c.toNat ∧ c.toNat ≤ 57) by omega)]
  rw [e1]
  unfold spec_l01Digits.j1 spec_l01Digits.j2 dv
  rw [hbt]
  by_cases hd : 48 ≤ c.toNat ∧ c.toNat ≤ 57
  · rw [decide_eq_true hd, if_pos rfl, if_pos (by omega), if_pos (by omega), if_pos (by omega), if_pos (by omega), if_neg (by omega), if_pos hd]
    unfold spec_l01Digits.j3
    rw [if_neg (by decide), if_neg (by omega), w64 (16 * (n : Int)) (by omega) (by omega), w64 _ (by omega) (by omega), w64 _ (by omega) (by omega)]
    rw [show 16 * (n : Int) + ((c.toNat : Int) - 48) % 256 = ((n * 16 + (c.toNat - 48) : Nat) : Int) by omega, show (j : Int) + 1 = ((j + 1 : Nat) : Int) by omega]
  · rw [decide_eq_false hd, if_neg (by decide), if_pos (by omega), if_pos (by omega), if_neg hd]
    by_cases hl : 97 ≤ c.toNat ∧ c.toNat ≤ 102
    · rw [if_pos (by omega), decide_eq_true (by omega), if_pos hl]
      unfold spec_l01Digits.j3
      rw [hbt, if_pos rfl, if_pos (by omega), if_pos (by omega), if_neg (by omega), w64 (16 * (n : Int)) (by omega) (by omega), w64 _ (by omega) (by omega), w64 _ (by omega) (by omega)]
      rw [show 16 * (n : Int) + (((c.toNat : Int) - 97) % 256 + 10) = ((n * 16 + (c.toNat - 87) : Nat) : Int) by omega, show (j : Int) + 1 = ((j + 1 : Nat) : Int) by omega]
    · rw [if_neg hl]
      have e2 : (if (c.toNat : Int) ≥ 97 then spec_l01Digits.j3 (K + 1) p n j (-1) (decide ((c.toNat : Int) ≤ 102)) else spec_l01Digits.j3 (K + 1) p n j (-1) false) = spec_l01Digits.j3 (K + 1) p n j (-1) false := by
        split
        · rw [decide_eq_false (by omega)]
        · rfl
      rw [e2]
      unfold spec_l01Digits.j3
      rw [if_neg (by decide), if_pos (by decide)]
theorem dig_piece (p : ByteArray) (h8 : p.size = 8) : ∀ (m j n k : Nat), j + m = 8 → n < 16 ^ j →
    spec_l01Digits.l0 (k + 4 * m + 1) p n j = match parseL n (p.data.toList.drop j) with | some v => spec_l01Digits.l0 (k + 1) p (v : Nat) 8 | none => some (0, false)
  | 0, j, n, k, h, _ => by
    obtain rfl : j = 8 := by omega
    have hlen : p.data.toList.length = 8 := by rw [data_length]; exact h8
    rw [List.drop_eq_nil_of_le (by omega)]; rfl
  | m + 1, j, n, k, h, hn => by
    have hlen : p.data.toList.length = 8 := by rw [data_length]; exact h8
    have hd : p.data.toList.drop j = p.data.toList[j]'(by omega) :: p.data.toList.drop (j + 1) := List.drop_eq_getElem_cons (by omega)
    have hc : p.data.toList[j]? = some (p.data.toList[j]'(by omega)) := List.getElem?_eq_getElem (by omega)
    rw [show k + 4 * (m + 1) + 1 = (k + 4 * m + 1) + 1 + 1 + 1 + 1 by omega, dig_run _ p h8 n j (by omega) hn _ hc, hd, parseL]
    cases hdv : dv (p.data.toList[j]'(by omega)).toNat with
    | none => rfl
    | some d =>
      have := (dv_some hdv).1
      rw [Option.bind_some]
      exact dig_piece p h8 m (j + 1) (n * 16 + d) k (by omega) (by rw [Nat.pow_succ]; omega)
/-- what l01Digits answers -/
def digO : Option Int → Int × Bool
  | some v => (v, true)
  | none => (0, false)
theorem dig_is (p : ByteArray) (h8 : p.size = 8) (k : Nat) (hk : 40 ≤ k) : spec_l01Digits.f k p = some (digO (good p)) := by
  obtain ⟨k, rfl⟩ : ∃ m, k = m + 4 * 8 + 1 := ⟨k - 33, by omega⟩
  unfold spec_l01Digits.f good
  have h := dig_piece p h8 8 0 0 k (by omega) (by decide)
  rw [List.drop_zero, show ((0 : Nat) : Int) = 0 from rfl] at h
  rw [h, if_pos h8]
  cases hp : parseL 0 p.data.toList with
  | none => rfl
  | some v =>
    have hv := (hex8_parse (by rw [data_length]; exact h8) hp).2
    simp only [Option.bind_some]
    unfold spec_l01Digits.l0
    rw [if_neg (by omega)]
    unfold spec_l01From.f spec_l01Bits.f
    rw [if_pos (by omega), Option.bind_some, Int.toNat_natCast, if_pos hv, Option.bind_some]
    by_cases h : bitsN v = (v : Int)
    · rw [if_pos h, if_pos h]; rfl
    · rw [if_neg h, if_neg h]; rfl
/-- a piece of sixteen bytes -/
def lo (p : ByteArray) : ByteArray := p.extract 0 8
def hi (p : ByteArray) : ByteArray := p.extract 8 p.size
theorem lo_size {p : ByteArray} (h : p.size = 16) : (lo p).size = 8 := by unfold lo; rw [ByteArray.size_extract]; omega
theorem hi_size {p : ByteArray} (h : p.size = 16) : (hi p).size = 8 := by unfold hi; rw [ByteArray.size_extract]; omega
theorem lo_hi (p : ByteArray) (h : p.size = 16) : p.data.toList = (lo p).data.toList ++ (hi p).data.toList := by
  unfold lo hi
  rw [Lib.extract_data, Lib.extract_data, h]
  have hl : p.data.toList.length = 16 := by rw [data_length]; exact h
  simp only [List.drop_zero, Nat.sub_zero]
  rw [show List.take (16 - 8) (List.drop 8 p.data.toList) = List.drop 8 p.data.toList from List.take_of_length_le (by rw [List.length_drop]; omega)]
  exact (List.take_append_drop 8 _).symm
/-- a complex number, told by two -/
def two (a b : Int) : Int := a * 4294967296 + b
def goodC (p : ByteArray) : Option Int := if p.size = 16 then (good (lo p)).bind fun a => (good (hi p)).map (two a) else none
def readC (p : ByteArray) : Int := two (readN (lo p) : Nat) (readN (hi p) : Nat)
theorem two_re {a b : Nat} (hb : b < 4294967296) : (two a b).toNat / 4294967296 = a := by unfold two; omega
theorem two_im {a b : Nat} (hb : b < 4294967296) : (two a b).toNat % 4294967296 = b := by unfold two; omega
theorem goodC_iff {p : ByteArray} (h : p.size = 16) : goodC p = some (readC p) ↔ (good (lo p) = some ((readN (lo p) : Nat) : Int) ∧ good (hi p) = some ((readN (hi p) : Nat) : Int)) := by
  unfold goodC readC
  rw [if_pos h]
  constructor
  · intro g
    obtain ⟨a, ha, g⟩ := Option.bind_eq_some_iff.1 g
    obtain ⟨b, hb, _⟩ := Option.map_eq_some_iff.1 g
    obtain ⟨_, ea, _⟩ := good_read ha
    obtain ⟨_, eb, _⟩ := good_read hb
    exact ⟨by rw [ha, ea], by rw [hb, eb]⟩
  · rintro ⟨g1, g2⟩
    rw [g1, g2]; rfl
theorem goodC_read {p : ByteArray} {v : Int} (g : goodC p = some v) : p.size = 16 ∧ goodC p = some (readC p) := by
  unfold goodC at g
  split at g
  · rename_i h
    refine ⟨h, (goodC_iff h).2 ?_⟩
    obtain ⟨a, ha, g⟩ := Option.bind_eq_some_iff.1 g
    obtain ⟨b, hb, _⟩ := Option.map_eq_some_iff.1 g
    obtain ⟨_, ea, _⟩ := good_read ha
    obtain ⟨_, eb, _⟩ := good_read hb
    exact ⟨by rw [ha, ea], by rw [hb, eb]⟩
  · cases g
/-- the text of a piece's numbers is the piece again if and only if it is good -/
def tC (n : Int) : List UInt8 := hex8 (bitsN (n.toNat / 4294967296)).toNat ++ hex8 (bitsN (n.toNat % 4294967296)).toNat
theorem tC_iff {p : ByteArray} (h : p.size = 16) : tC (readC p) = p.data.toList ↔ goodC p = some (readC p) := by
  have h1 := readN_lt (lo_size h)
  have h2 := readN_lt (hi_size h)
  rw [goodC_iff h, ← good_iff (lo_size h), ← good_iff (hi_size h), lo_hi p h]
  unfold tC readC
  rw [two_re h2, two_im h2]
  constructor
  · intro g
    exact List.append_inj g (by rw [data_length, lo_size h]; exact hex8_len (by have := bitsN_range h1; omega))
  · rintro ⟨g1, g2⟩
    rw [g1, g2]
theorem tC_len (n : Int) (hn : n.toNat < 18446744073709551616) : (tC n).length = 16 := by
  have h1 : n.toNat / 4294967296 < 4294967296 := by omega
  have h2 : n.toNat % 4294967296 < 4294967296 := by omega
  unfold tC
  rw [List.length_append, hex8_len (by have := bitsN_range h1; omega), hex8_len (by have := bitsN_range h2; omega)]
theorem readC_lt {p : ByteArray} (h : p.size = 16) : (readC p).toNat < 18446744073709551616 := by
  have h1 := readN_lt (lo_size h)
  have h2 := readN_lt (hi_size h)
  unfold readC two
  omega
end Go.Proofs.YtempeenjpaldaaaDoor.SCpx

namespace Go.Proofs.YtempeenjpaldaaaDoor.SCpx
open Go.RowKit Go.Proofs.YtempeenjpaldaaaDoorW.PrintWords Go.Proofs.YtempeenjpaldaaaDoorW.PrintLast Go.Proofs.YtempeenjpaldaaaDoorW.PrintMore Fl Hx SNum
def valsC : List ByteArray → Option (List Int)
  | [] => some []
  | p :: r => (goodC p).bind fun v => (valsC r).map (v :: ·)
def readsC (P : List ByteArray) : List Int := P.map readC
theorem cpx_two {a b : Nat} (hb : b < 4294967296) : cpx.f a b = some (two a b) := by
  unfold cpx.f two
  rw [if_pos (by omega)]
theorem spec_runC (P : List ByteArray) (hP : P.length ≤ 256) : ∀ (m i k : Nat) (X : List Int), i + m = P.length → m + 42 ≤ k → X.length ≤ i → spec_l01CRead.l0 k X P i = some (resO X (valsC (P.drop i)))
  | _, _, 0, _, _, hk, _ => by omega
  | 0, i, k + 1, X, h, _, _ => by
    unfold spec_l01CRead.l0
    rw [if_neg (by omega), List.drop_eq_nil_of_le (by omega)]
    simp [valsC, resO]
  | m + 1, i, k + 1, X, h, hk, hX => by
    have hi : i < P.length := by omega
    conv => lhs; unfold spec_l01CRead.l0
    rw [if_pos (by omega), if_pos (by omega), rdOf_get P i hi, List.drop_eq_getElem_cons hi]
    simp only [valsC]
    by_cases h16 : P[i].size = 16
    · have e1 : spec_l01Digits.f k (P[i].extract 0 8) = some (digO (good (lo P[i]))) := dig_is (lo P[i]) (lo_size h16) k (by omega)
      have e2 : spec_l01Digits.f k (P[i].extract 8 P[i].size) = some (digO (good (SCpx.hi P[i]))) := dig_is (SCpx.hi P[i]) (hi_size h16) k (by omega)
      rw [if_pos (by omega), if_pos (by decide), if_pos (by omega), e1, Option.bind_some, e2, Option.bind_some]
      have hg : goodC P[i] = (good (lo P[i])).bind fun a => (good (SCpx.hi P[i])).map (two a) := by unfold goodC; rw [if_pos h16]
      rw [hg]
      cases ha : good (lo P[i]) with
      | none => rfl
      | some a =>
        cases hb : good (SCpx.hi P[i]) with
        | none => rfl
        | some b =>
          obtain ⟨_, ea, _⟩ := good_read ha
          obtain ⟨_, eb, lb⟩ := good_read hb
          simp only [digO, if_true, Option.bind_some, Option.map_some]
          rw [ea, eb, cpx_two lb, Option.bind_some, if_pos (by omega), w64 _ (by omega) (by omega), show (i : Int) + 1 = ((i + 1 : Nat) : Int) by omega]
          rw [spec_runC P hP m (i + 1) k _ (by omega) (by omega) (by rw [List.length_append, List.length_singleton]; omega), resO_cons]
    · rw [if_neg (by omega)]
      unfold goodC
      rw [if_neg h16]; rfl
theorem impl_step (s : ByteArray) (P : List ByteArray) (hP : P.length ≤ 1048577) (i k : Nat) (X : List Int) (hi : i < P.length) (hX : X.length ≤ 256) :
    impl_ReadComplex.l0 (k + 1 + 1) s X P (P.length : Int) i = if P[i].size = 16 ∧ X.length ≠ 256 then impl_ReadComplex.l0 k s (X ++ [readC P[i]]) P (P.length : Int) ((i + 1 : Nat) : Int) else some ([], false) := by
  conv => lhs; unfold impl_ReadComplex.l0
  rw [if_pos (by omega), if_pos (by omega), if_pos (by omega), rdOf_get P i hi]
  by_cases h16 : P[i].size = 16
  · rw [if_pos (by omega)]
    unfold impl_ReadComplex.j1
    by_cases h : X.length = 256
    · rw [if_pos (by rw [h]; rfl), if_neg (fun g => g.2 h)]
    · have hb : ((X.length : Int) == 256) = false := by rw [beq_eq_false_iff_ne]; omega
      have e1 : impl_readHex.f k (P[i].extract 0 8) = some ((readN (lo P[i]) : Nat) : Int) := by unfold impl_readHex.f; exact if_pos (lo_size h16)
      have e2 : impl_readHex.f k (P[i].extract 8 P[i].size) = some ((readN (SCpx.hi P[i]) : Nat) : Int) := by unfold impl_readHex.f; exact if_pos (hi_size h16)
      rw [hb, if_neg (by decide), if_pos (by decide), if_pos (by omega), e1, Option.bind_some, e2, Option.bind_some, cpx_two (readN_lt (hi_size h16)), Option.bind_some, if_pos (by omega), if_pos ⟨h16, h⟩, w64 _ (by omega) (by omega)]
      rfl
  · rw [if_neg (by omega), if_neg (fun g => h16 g.1)]
    unfold impl_ReadComplex.j1
    rw [if_pos rfl]
theorem impl_noC (s : ByteArray) (P : List ByteArray) (hP : P.length ≤ 1048577) : ∀ (m i k : Nat) (X : List Int), i + m = P.length → 2 * m + 1 ≤ k → X.length = i → i ≤ 256 → (256 < P.length ∨ ¬ ∀ p ∈ P.drop i, p.size = 16) →
    impl_ReadComplex.l0 k s X P (P.length : Int) i = some ([], false)
  | 0, i, k, X, h, _, hX, hi, hb => by
    exfalso
    rcases hb with hb | hb
    · omega
    · exact hb (by rw [List.drop_eq_nil_of_le (by omega)]; intro p hp; cases hp)
  | m + 1, i, k, X, h, hk, hX, hi, hb => by
    obtain ⟨k, rfl⟩ : ∃ q, k = q + 1 + 1 := ⟨k - 2, by omega⟩
    have hlt : i < P.length := by omega
    rw [impl_step s P hP i k X hlt (by omega)]
    by_cases g : P[i].size = 16 ∧ X.length ≠ 256
    · rw [if_pos g]
      exact impl_noC s P hP m (i + 1) k (X ++ [readC P[i]]) (by omega) (by omega) (by rw [List.length_append, List.length_singleton]; omega) (by omega) (hb.imp id (fun hb hn => hb (by
          rw [List.drop_eq_getElem_cons hlt]
          intro p hp
          rcases List.mem_cons.1 hp with rfl | hp
          · exact g.1
          · exact hn p hp)))
    · rw [if_neg g]
theorem impl_yesC (s : ByteArray) (P : List ByteArray) (hP : P.length ≤ 256) : ∀ (m i k : Nat) (X : List Int), i + m = P.length → 2 * m + 1 ≤ k → X.length = i → (∀ p ∈ P.drop i, p.size = 16) →
    ∃ k', k ≤ k' + 2 * m + 1 ∧ impl_ReadComplex.l0 k s X P (P.length : Int) i = (impl_ComplexText.f k' (X ++ readsC (P.drop i))).bind fun bt230 => (if bt230.2 = true then (if bt230.1.toList = s.toList then (some (X ++ readsC (P.drop i), true)) else (some (([] : List Int), false))) else (some (([] : List Int), false)))
  | _, _, 0, _, _, hk, _, _ => by omega
  | 0, i, k + 1, X, h, _, hX, hb => by
    refine ⟨k, by omega, ?_⟩
    conv => lhs; unfold impl_ReadComplex.l0
    rw [if_neg (by omega), List.drop_eq_nil_of_le (by omega), readsC, List.map_nil, List.append_nil]
  | m + 1, i, k + 1, X, h, hk, hX, hb => by
    obtain ⟨k, rfl⟩ : ∃ q, k = q + 1 := ⟨k - 1, by omega⟩
    have hlt : i < P.length := by omega
    rw [List.drop_eq_getElem_cons hlt] at hb
    have h16 := hb _ List.mem_cons_self
    obtain ⟨k', hk', h1⟩ := impl_yesC s P hP m (i + 1) k (X ++ [readC P[i]]) (by omega) (by omega) (by rw [List.length_append, List.length_singleton]; omega) (fun p hp => hb p (List.mem_cons_of_mem _ hp))
    refine ⟨k', by omega, ?_⟩
    rw [impl_step s P (by omega) i k X hlt (by omega), if_pos ⟨h16, by omega⟩, h1]
    have e : X ++ [readC P[i]] ++ readsC (P.drop (i + 1)) = X ++ readsC (P.drop i) := by
      rw [List.drop_eq_getElem_cons hlt, List.append_assoc]; rfl
    rw [e]
/-! ### the text -/
def cB (n : Int) : ByteArray := tB ((n.toNat / 4294967296 : Nat) : Int) ++ tB ((n.toNat % 4294967296 : Nat) : Int)
theorem cB_list (n : Int) : (cB n).data.toList = tC n := by
  unfold cB tC
  rw [app_list, tB_list, tB_list]; rfl
theorem cB_size (n : Int) (hn : n.toNat < 18446744073709551616) : (cB n).size = 16 := by
  rw [← data_length, cB_list, tC_len n hn]
theorem text_implC (xs : List Int) (hin : ∀ n ∈ xs, n.toNat < 18446744073709551616) (h64 : xs.length ≤ 256) (d : Nat) : ∀ (k i : Nat) (L : List ByteArray), i ≤ xs.length → xs.length - i = d → d < k → L.length = i →
    ∃ k', impl_ComplexText.l0 k L xs (xs.length : Int) (i : Int) = (impl_joined.f k' (L ++ (xs.drop i).map cB)).bind fun t => some (t, true) := by
  induction d with
  | zero =>
    intro k i L hi hd hk _
    obtain ⟨k, rfl⟩ : ∃ m, k = m + 1 := ⟨k - 1, by omega⟩
    have h1 : ¬ (i : Int) < (xs.length : Int) := by omega
    simp only [impl_ComplexText.l0]
    rw [if_neg h1, List.drop_eq_nil_of_le (by omega)]
    exact ⟨k, by simp⟩
  | succ d ih =>
    intro k i L hi hd hk hL
    obtain ⟨k, rfl⟩ : ∃ m, k = m + 1 := ⟨k - 1, by omega⟩
    have hlt : i < xs.length := by omega
    have h1 : (i : Int) < (xs.length : Int) := by omega
    have h2 : (0 : Int) ≤ (i : Int) := by omega
    have e : ((i : Int) + 1) = ((i + 1 : Nat) : Int) := by omega
    have hn := hin _ (List.getElem_mem hlt)
    simp only [impl_ComplexText.l0]
    rw [if_pos h1, if_pos h2, if_pos h1, rd_get xs i hlt]
    unfold reC.f imC.f
    rw [Option.bind_some, hex_impl (show InV _ by unfold InV; rw [Int.toNat_natCast]; omega) k, Option.bind_some, Option.bind_some, hex_impl (show InV _ by unfold InV; rw [Int.toNat_natCast]; omega) k, Option.bind_some]
    have hs := cB_size xs[i] hn
    unfold cB at hs
    rw [ByteArray.size_append] at hs
    rw [if_pos (by omega), if_pos (by omega), w64 _ (by omega) (by omega), e]
    obtain ⟨k', h⟩ := ih k (i + 1) (L ++ [cB xs[i]]) (by omega) (by omega) (by omega) (by simp [hL])
    refine ⟨k', ?_⟩
    have e2 : L ++ [cB xs[i]] ++ (xs.drop (i + 1)).map cB = L ++ (xs.drop i).map cB := by
      rw [List.drop_eq_getElem_cons hlt, List.map_cons, List.append_assoc]
      rfl
    rw [e2] at h
    exact h
theorem lens_le : ∀ (l : List (List UInt8)), (∀ x ∈ l, x.length = 16) → (Lib.joinTail [44] l).length = 17 * l.length
  | [], _ => rfl
  | x :: l, h => by
    have := lens_le l (fun y hy => h y (List.mem_cons_of_mem _ hy))
    have hx := h x List.mem_cons_self
    simp only [Lib.joinTail, List.map_cons, List.flatten_cons, List.length_append, List.length_cons, List.length_nil] at this ⊢
    omega
theorem text_listC (x : Int) (l : List Int) (hin : ∀ n ∈ x :: l, n.toNat < 18446744073709551616) (h64 : (x :: l).length ≤ 256) (k : Nat) (hk : (x :: l).length + 1 ≤ k) :
    ∃ t, impl_ComplexText.f k (x :: l) = some (t, true) ∧ t.data.toList = Lib.join ((x :: l).map tC) [44] := by
  unfold impl_ComplexText.f
  obtain ⟨k', hi⟩ := text_implC (x :: l) hin h64 (x :: l).length k 0 [] (by omega) (by omega) (by omega) rfl
  rw [if_neg (show ¬ ((x :: l).length : Int) > 256 by omega), show (0 : Int) = ((0 : Nat) : Int) from rfl, hi]
  rw [List.nil_append, List.drop_zero]
  have hl : joinB ((x :: l).map cB) (⟨#[44]⟩ : ByteArray) = Lib.join ((x :: l).map tC) [44] := by
    unfold joinB
    rw [List.map_map]
    exact congrArg (fun z => Lib.join z [44]) (List.map_congr_left (fun n _ => cB_list n))
  have hlen : (Lib.join ((x :: l).map tC) [44]).length ≤ 4369 := by
    have h1 := tC_len x (hin x List.mem_cons_self)
    have h2 := lens_le (l.map tC) (fun y hy => by obtain ⟨n, hn, rfl⟩ := List.mem_map.1 hy; exact tC_len n (hin n (List.mem_cons_of_mem _ hn)))
    rw [List.map_cons, Lib.join_cons, List.length_append, h1, h2, List.length_map]
    simp at h64
    omega
  unfold impl_joined.f strings_Join.f
  rw [if_neg (by simp; omega), if_pos ⟨by rw [hl]; omega, by simp at h64 ⊢; omega⟩]
  refine ⟨⟨(joinB ((x :: l).map cB) (⟨#[44]⟩ : ByteArray)).toArray⟩, rfl, ?_⟩
  rw [← hl]
theorem joinTail_injC : ∀ (a b : List (List UInt8)), (∀ x ∈ a, x.length = 16) → (∀ x ∈ b, x.length = 16) → Lib.joinTail [44] a = Lib.joinTail [44] b → a = b
  | [], [], _, _, _ => rfl
  | [], y :: b, _, _, h => by simp [Lib.joinTail] at h
  | x :: a, [], _, _, h => by simp [Lib.joinTail] at h
  | x :: a, y :: b, ha, hb, h => by
    simp only [Lib.joinTail, List.map_cons, List.flatten_cons] at h
    obtain ⟨h1, h2⟩ := List.append_inj h (by rw [List.length_append, List.length_append, ha x List.mem_cons_self, hb y List.mem_cons_self])
    have h3 : x = y := List.append_cancel_left h1
    rw [h3, joinTail_injC a b (fun z hz => ha z (List.mem_cons_of_mem _ hz)) (fun z hz => hb z (List.mem_cons_of_mem _ hz)) h2]
theorem join_injC {a b : List (List UInt8)} (ha : ∀ x ∈ a, x.length = 16) (hb : ∀ x ∈ b, x.length = 16) (hna : a ≠ []) (hnb : b ≠ []) (h : Lib.join a [44] = Lib.join b [44]) : a = b := by
  obtain ⟨x, a, rfl⟩ := List.exists_cons_of_ne_nil hna
  obtain ⟨y, b, rfl⟩ := List.exists_cons_of_ne_nil hnb
  rw [Lib.join_cons, Lib.join_cons] at h
  obtain ⟨h1, h2⟩ := List.append_inj h (by rw [ha x List.mem_cons_self, hb y List.mem_cons_self])
  rw [h1, joinTail_injC a b (fun z hz => ha z (List.mem_cons_of_mem _ hz)) (fun z hz => hb z (List.mem_cons_of_mem _ hz)) h2]
/-! ### both answers -/
def readCB (s : ByteArray) : List Int × Bool :=
  if s.toList = ([110, 111, 110, 101] : List UInt8) then ([], true) else if 256 < (piecesB s).length then ([], false) else resO [] (valsC (piecesB s))
theorem spec_readsC (s : ByteArray) (hs : s.size ≤ 1048576) (k : Nat) (hk : s.size + 20000 ≤ k) : spec_ReadComplex.f k s = some (readCB s) := by
  unfold spec_ReadComplex.f spec_l01CRead.f readCB
  rw [Option.bind_some]
  by_cases h : s.toList = ([110, 111, 110, 101] : List UInt8)
  · rw [if_pos h, if_pos h]; rfl
  · rw [if_neg h, if_neg h, cut_is s hs k (by omega), Option.bind_some]
    by_cases g : 256 < (piecesB s).length
    · rw [if_pos (by omega), if_pos g]; rfl
    · rw [if_neg (by omega), if_neg g]
      have := spec_runC (piecesB s) (by omega) (piecesB s).length 0 k [] (by omega) (by omega) (by simp)
      rw [List.drop_zero, show ((0 : Nat) : Int) = 0 from rfl] at this
      rw [this]; rfl
theorem valsC_good : ∀ (P : List ByteArray), (∀ p ∈ P, goodC p = some (readC p)) → valsC P = some (readsC P)
  | [], _ => rfl
  | p :: P, h => by
    rw [valsC, h p List.mem_cons_self, Option.bind_some, valsC_good P (fun q hq => h q (List.mem_cons_of_mem _ hq))]; rfl
theorem valsC_some : ∀ (P : List ByteArray) (vs : List Int), valsC P = some vs → ∀ p ∈ P, p.size = 16 ∧ goodC p = some (readC p)
  | [], _, _, p, hp => by cases hp
  | q :: P, vs, h, p, hp => by
    rw [valsC] at h
    obtain ⟨v, hv, h⟩ := Option.bind_eq_some_iff.1 h
    obtain ⟨us, hu, rfl⟩ := Option.map_eq_some_iff.1 h
    rcases List.mem_cons.1 hp with rfl | hp
    · exact goodC_read hv
    · exact valsC_some P us hu p hp
theorem impl_readsC (s : ByteArray) (hs : s.size ≤ 1048576) (k : Nat) (hk : 3 * s.size + 20000 ≤ k) : impl_ReadComplex.f k s = some (readCB s) := by
  unfold impl_ReadComplex.f impl_pieces.f readCB
  by_cases hn : s.toList = ([110, 111, 110, 101] : List UInt8)
  · rw [if_pos hn, if_pos hn, Option.bind_some]
    obtain ⟨k', hk', h1⟩ := impl_yesC s [] (by simp) 0 0 k [] rfl (by omega) rfl (fun p hp => by cases hp)
    rw [show ((0 : Nat) : Int) = 0 from rfl] at h1
    rw [h1]
    have h2 : impl_ComplexText.f k' ([] ++ readsC (([] : List ByteArray).drop 0)) = some ((⟨#[110, 111, 110, 101]⟩ : ByteArray), true) := by
      obtain ⟨k2, rfl⟩ : ∃ k2, k' = k2 + 1 := ⟨k' - 1, by omega⟩
      unfold impl_ComplexText.f
      rw [if_neg (by simp [readsC])]
      unfold impl_ComplexText.l0
      rw [if_neg (by simp [readsC])]
      rfl
    rw [h2, Option.bind_some, if_pos rfl, if_pos (by rw [hn]; decide +kernel)]
    rfl
  · rw [if_neg hn, if_neg hn, split_is s hs k, Option.bind_some, Option.bind_some]
    have hpl := pieces_len s
    by_cases hb : 256 < (piecesB s).length ∨ ¬ ∀ p ∈ (piecesB s).drop 0, p.size = 16
    · have h1 := impl_noC s (piecesB s) (by omega) (piecesB s).length 0 k [] (by omega) (by omega) rfl (by omega) hb
      rw [show ((0 : Nat) : Int) = 0 from rfl] at h1
      rw [h1]
      by_cases g : 256 < (piecesB s).length
      · rw [if_pos g]
      · rw [if_neg g]
        cases hv : valsC (piecesB s) with
        | none => rfl
        | some vs => exact absurd (fun p hp => (valsC_some _ vs hv p (by simpa using hp)).1) (hb.resolve_left g)
    · have hlen : ¬ 256 < (piecesB s).length := fun h => hb (Or.inl h)
      have h8 : ∀ p ∈ (piecesB s).drop 0, p.size = 16 := Classical.byContradiction (fun h => hb (Or.inr h))
      obtain ⟨k', hk', h1⟩ := impl_yesC s (piecesB s) (by omega) (piecesB s).length 0 k [] (by omega) (by omega) rfl h8
      rw [show ((0 : Nat) : Int) = 0 from rfl] at h1
      rw [h1, if_neg hlen]
      rw [List.drop_zero, List.nil_append]
      rw [List.drop_zero] at h8
      obtain ⟨x, r, hx⟩ := cutAcc_ne s.data.toList []
      have hP : piecesB s = mkB x :: r.map mkB := by unfold piecesB; rw [hx]; rfl
      have hrd : readsC (piecesB s) = readC (mkB x) :: readsC (r.map mkB) := by rw [hP]; rfl
      have hrl : (readsC (piecesB s)).length = (piecesB s).length := List.length_map ..
      obtain ⟨t, ht, hu⟩ := text_listC (readC (mkB x)) (readsC (r.map mkB)) (fun n hn => by
        rw [← hrd] at hn
        obtain ⟨p, hp, rfl⟩ := List.mem_map.1 hn
        exact readC_lt (h8 p hp)) (by rw [← hrd]; omega) k' (by rw [← hrd]; omega)
      rw [← hrd] at ht hu
      rw [ht, Option.bind_some, if_pos rfl]
      have hj : s.data.toList = Lib.join ((piecesB s).map fun p => p.data.toList) [44] := by
        have h1 := join_cut s.data.toList []
        rw [List.nil_append] at h1
        have h2 : ((piecesB s).map fun p => p.data.toList) = cutAcc [] s.data.toList := by
          unfold piecesB
          rw [List.map_map]
          exact (List.map_congr_left (fun l _ => rfl)).trans (List.map_id _)
        rw [h2, h1]
      have hmm : (readsC (piecesB s)).map tC = (piecesB s).map fun p => tC (readC p) := by unfold readsC; rw [List.map_map]; rfl
      by_cases he : t.toList = s.toList
      · rw [if_pos he]
        have h3 := list_eq.1 he
        rw [hu, hj, hmm] at h3
        have h4 := join_injC (fun l hl => by obtain ⟨p, hp, rfl⟩ := List.mem_map.1 hl; exact tC_len _ (readC_lt (h8 p hp))) (fun l hl => by obtain ⟨p, hp, rfl⟩ := List.mem_map.1 hl; rw [data_length]; exact h8 p hp) (by rw [hP]; simp) (by rw [hP]; simp) h3
        rw [valsC_good (piecesB s) (fun p hp => (tC_iff (h8 p hp)).1 (List.map_inj_left.1 h4 p hp))]; rfl
      · rw [if_neg he]
        cases hv : valsC (piecesB s) with
        | none => rfl
        | some vs =>
          exfalso
          apply he
          apply list_eq.2
          rw [hu, hj, hmm]
          congr 1
          exact List.map_congr_left (fun p hp => (tC_iff (h8 p hp)).2 (valsC_some _ vs hv p hp).2)
theorem valsC_len : ∀ (P : List ByteArray) (vs : List Int), valsC P = some vs → vs.length = P.length
  | [], vs, h => by cases h; rfl
  | p :: r, vs, h => by
    rw [valsC] at h
    obtain ⟨v, hv, h⟩ := Option.bind_eq_some_iff.1 h
    obtain ⟨us, hu, rfl⟩ := Option.map_eq_some_iff.1 h
    simp [valsC_len r us hu]
theorem readCB_len (s : ByteArray) : (readCB s).1.length ≤ 256 := by
  unfold readCB
  split
  · simp
  · split
    · simp
    · cases hv : valsC (piecesB s) with
      | none => simp [resO]
      | some vs =>
        have := valsC_len _ _ hv
        simp only [resO, List.nil_append]
        omega
end Go.Proofs.YtempeenjpaldaaaDoor.SCpx

namespace Go.Proofs.YtempeenjpaldaaaDoor.SCpx
open Go.RowKit Go.Proofs.YtempeenjpaldaaaDoorW.PrintWords Go.Proofs.YtempeenjpaldaaaDoorW.PrintLast Go.Proofs.YtempeenjpaldaaaDoorW.PrintMore Fl Hx SNum
theorem ReadComplex_pure : laws_FnExactReadComplex.Pure := by
  intro s _
  by_cases g : (s.size : Int) > 1048576
  · exact ⟨0, by unfold laws_FnExactReadComplex.f; rw [if_pos g]⟩
  · have hs : s.size ≤ 1048576 := by omega
    refine ⟨3 * s.size + 30000 + 1 + 1, ?_⟩
    have hl := readCB_len s
    obtain ⟨xs, b, hr⟩ : ∃ xs b, readCB s = (xs, b) := ⟨_, _, rfl⟩
    rw [hr] at hl
    have hspec := spec_readsC s hs (3 * s.size + 30000 + 1 + 1) (by omega)
    have himpl := impl_readsC s hs (3 * s.size + 30000 + 1 + 1) (by omega)
    have himpl2 := impl_readsC s hs (3 * s.size + 30000 + 1) (by omega)
    rw [hr] at hspec himpl himpl2
    generalize hK : 3 * s.size + 30000 = K at hspec himpl himpl2 ⊢
    unfold laws_FnExactReadComplex.f
    rw [if_neg g, hspec, Option.bind_some, himpl, Option.bind_some]
    have he : ∀ l : List Int, laws_eqComplex64S.f l l = some true := fun l => if_pos rfl
    rw [he, Option.bind_some, if_pos rfl, show (b != b) = false by cases b <;> rfl]
    simp only [laws_FnExactReadComplex.j0, Bool.false_eq_true, if_false]
    have hm : laws_markComplex64S.f (K + 1) xs 1 = some (1 + (xs.length : Int), cmarks 1 xs.length) := if_pos ⟨by decide, by simp only at hl; omega⟩
    have hh : laws_heldComplex64S.f (cmarks 1 xs.length) 1 = some (1 + (xs.length : Int)) := by
      unfold laws_heldComplex64S.f
      rw [cmarks_length, if_pos ⟨rfl, by decide, by simp only at hl; omega⟩]
    rw [hm, Option.bind_some, hh, Option.bind_some, if_neg (by omega), if_pos rfl, himpl2, Option.bind_some, he, Option.bind_some, if_pos rfl, show (b != b) = false by cases b <;> rfl]
    simp only [laws_FnExactReadComplex.j1, Bool.false_eq_true, if_false]
    rw [hh, Option.bind_some, if_neg (by omega), if_pos rfl]
theorem laid_gives_FnExactReadComplex {W : World} (h : laidMetH Tryd.prog Rows.fnExactReadComplexRow.laid W) (hS : W.ShapedOpen Tryd.prog) : TR W := laid_gives_FnExactReadNumbers h hS
end Go.Proofs.YtempeenjpaldaaaDoor.SCpx

