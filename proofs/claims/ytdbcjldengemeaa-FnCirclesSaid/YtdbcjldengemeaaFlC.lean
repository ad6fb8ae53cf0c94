/- Floats: pure forms, bounds, and what the small functions compute. -/
import Derived.WalkKit
import Derived.WalkLawsBesides
import Derived.Deep.Draws
import Derived.RowKit3
import Derived.Lib.Hide
import Derived.Test.YtdbcjldengemeaaChecked
import Derived.KernelRfl
namespace Go.Proofs.Ytdbcjldengemeaa
namespace Fl
open Ieee

/-- the bits stand for a NaN -/
def isN (k : FloatKind) (b : Nat) : Bool := (k.decode b).isNaN

/-- a NaN of each kind -/
def qn : FloatKind → Nat
  | .f32 => 2143289344
  | .f64 => 9221120237041090560

/-- '+', '-', '*', '/', one NaN standing for all -/
def fop (op : BinOp) (k : FloatKind) (x y : Nat) : Nat := (floatBits op k x y).getD (qn k)

/-- what the operation yields in the world w -/
def fres (op : BinOp) (k : FloatKind) (x y : Nat) (w : World) : Nat :=
  match floatBits op k x y with
  | some r => r
  | none => (Question.nanBits k x y).cut (w.tape w.drawn (.nanBits k x y))

/-- how many draws it makes -/
def fcnt (op : BinOp) (k : FloatKind) (x y : Nat) : Nat := if (floatBits op k x y).isSome then 0 else 1

theorem run_f {P : Program} (op : BinOp) (hop : op = .add ∨ op = .sub ∨ op = .mul ∨ op = .quo) (t : TypeId) (k : FloatKind) (x y : Nat) (w : World) :
    (binOp op t (.float k x) (.float k y)).run P w = .ok (.float k (fres op k x y w)) (w.drewN (fcnt op k x y)) := by
  cases h : floatBits op k x y with
  | some r => rw [run_float_arith w op t k x y r h]; simp [fres, fcnt, h, World.drewN_zero]
  | none =>
    unfold floatBits at h
    rcases hop with rfl | rfl | rfl | rfl <;> simp only at h <;>
      simp [binOp, Op.floatArith, h, fres, fcnt, floatBits, Question.forced, World.drew_is_drewN]

theorem run_add {P : Program} (t : TypeId) (k : FloatKind) (x y : Nat) (w : World) :
    (binOp .add t (.float k x) (.float k y)).run P w = .ok (.float k (fres .add k x y w)) (w.drewN (fcnt .add k x y)) := run_f .add (by simp) t k x y w
theorem run_sub {P : Program} (t : TypeId) (k : FloatKind) (x y : Nat) (w : World) :
    (binOp .sub t (.float k x) (.float k y)).run P w = .ok (.float k (fres .sub k x y w)) (w.drewN (fcnt .sub k x y)) := run_f .sub (by simp) t k x y w
theorem run_mul {P : Program} (t : TypeId) (k : FloatKind) (x y : Nat) (w : World) :
    (binOp .mul t (.float k x) (.float k y)).run P w = .ok (.float k (fres .mul k x y w)) (w.drewN (fcnt .mul k x y)) := run_f .mul (by simp) t k x y w
theorem run_quo {P : Program} (t : TypeId) (k : FloatKind) (x y : Nat) (w : World) :
    (binOp .quo t (.float k x) (.float k y)).run P w = .ok (.float k (fres .quo k x y w)) (w.drewN (fcnt .quo k x y)) := run_f .quo (by simp) t k x y w
attribute [go_sem] run_add run_sub run_mul run_quo

/-- the same, or both a NaN -/
def Sim (k : FloatKind) (a b : Nat) : Prop := a = b ∨ (isN k a = true ∧ isN k b = true)
theorem Sim.refl (k : FloatKind) (a : Nat) : Sim k a a := .inl rfl
theorem Sim.symm {k : FloatKind} {a b : Nat} (h : Sim k a b) : Sim k b a := h.elim (fun e => .inl e.symm) (fun ⟨x, y⟩ => .inr ⟨y, x⟩)
theorem Sim.trans {k : FloatKind} {a b c : Nat} (h : Sim k a b) (g : Sim k b c) : Sim k a c := by
  rcases h with rfl | ⟨x, y⟩
  · exact g
  · rcases g with rfl | ⟨_, z⟩
    · exact .inr ⟨x, y⟩
    · exact .inr ⟨x, z⟩
theorem Sim.isN_eq {k : FloatKind} {a b : Nat} (h : Sim k a b) : isN k a = isN k b := by
  rcases h with rfl | ⟨x, y⟩
  · rfl
  · rw [x, y]

theorem isN_iff (k : FloatKind) (b : Nat) : isN k b = true ↔ ∃ s t, k.decode b = .nan s t := by
  unfold isN Datum.isNaN
  constructor
  · intro h; split at h
    · exact ⟨_, _, by assumption⟩
    · cases h
  · rintro ⟨s, t, h⟩; rw [h]

theorem floatBits_nan_l {op : BinOp} {k : FloatKind} {x y : Nat} (h : isN k x = true) : floatBits op k x y = none := by
  obtain ⟨s, t, h⟩ := (isN_iff k x).1 h
  have h' : k.format.read x = .nan s t := h
  unfold floatBits
  cases op <;> simp [Format.add, Format.sub, Format.mul, Format.div, h', Datum.sum, Datum.product, Datum.quotient]
theorem floatBits_nan_r {op : BinOp} {k : FloatKind} {x y : Nat} (h : isN k y = true) : floatBits op k x y = none := by
  obtain ⟨s, t, h⟩ := (isN_iff k y).1 h
  have h' : k.format.read y = .nan s t := h
  unfold floatBits
  cases op <;> simp only [Format.add, Format.sub, Format.mul, Format.div, h', Datum.opposite] <;> cases k.format.read x <;> simp [Datum.sum, Datum.product, Datum.quotient]

theorem order_nan_l {k : FloatKind} {x y : Nat} (h : isN k x = true) : k.format.order x y = none := by
  obtain ⟨s, t, h⟩ := (isN_iff k x).1 h
  have h' : k.format.read x = .nan s t := h
  simp [Format.order, h', Datum.order]
theorem order_nan_r {k : FloatKind} {x y : Nat} (h : isN k y = true) : k.format.order x y = none := by
  obtain ⟨s, t, h⟩ := (isN_iff k y).1 h
  have h' : k.format.read y = .nan s t := h
  simp only [Format.order, h']
  cases k.format.read x <;> simp [Datum.order]
theorem order_self {k : FloatKind} {x : Nat} (h : isN k x = false) : k.format.order x x = some .eq := by
  unfold Format.order
  have h' : (k.format.read x).isNaN = false := h
  cases hr : k.format.read x with
  | nan s t => rw [hr] at h'; cases h'
  | infinity s => cases s <;> rfl
  | number s m e => simp [Datum.order, compare, compareOfLessAndEq]
theorem order_none_iff {k : FloatKind} {x y : Nat} : k.format.order x y = none ↔ isN k x = true ∨ isN k y = true := by
  constructor
  · intro h
    unfold isN FloatKind.decode
    unfold Format.order at h
    cases hx : k.format.read x <;> cases hy : k.format.read y <;> simp [hx, hy, Datum.order, Datum.isNaN] at h ⊢
  · rintro (h | h)
    · exact order_nan_l h
    · exact order_nan_r h

theorem fop_congr {op : BinOp} {k : FloatKind} {x x' y y' : Nat} (hx : Sim k x x') (hy : Sim k y y') : fop op k x y = fop op k x' y' := by
  unfold fop
  rcases hx with rfl | ⟨a, b⟩
  · rcases hy with rfl | ⟨c, d⟩
    · rfl
    · rw [floatBits_nan_r c, floatBits_nan_r d]
  · rw [floatBits_nan_l a, floatBits_nan_l b]
theorem order_congr {k : FloatKind} {x x' y y' : Nat} (hx : Sim k x x') (hy : Sim k y y') : k.format.order x y = k.format.order x' y' := by
  rcases hx with rfl | ⟨a, b⟩
  · rcases hy with rfl | ⟨c, d⟩
    · rfl
    · rw [order_nan_r c, order_nan_r d]
  · rw [order_nan_l a, order_nan_l b]

theorem isN_qn (k : FloatKind) : isN k (qn k) = true := by cases k <;> decide +kernel

theorem isN32_of {b s r : Nat} (_hs : s < 2) (hr : r < 8388607) (h : b = s * 2147483648 + 2139095041 + r) : isN .f32 b = true := by
  unfold isN FloatKind.decode Format.read
  have e1 : (FloatKind.f32.format).signWeight = 2147483648 := by decide +kernel
  have e2 : (FloatKind.f32.format).binade = 8388608 := by decide +kernel
  have e3 : (FloatKind.f32.format).infRung = 2139095040 := by decide +kernel
  simp only [e1, e2, e3]
  have hm : b % 2147483648 = 2139095041 + r := by omega
  rw [hm, if_neg (by omega), if_neg (by omega), if_neg (by omega)]
  rfl
theorem isN64_of {b s r : Nat} (_hs : s < 2) (hr : r < 4503599627370495) (h : b = s * 9223372036854775808 + 9218868437227405313 + r) : isN .f64 b = true := by
  unfold isN FloatKind.decode Format.read
  have e1 : (FloatKind.f64.format).signWeight = 9223372036854775808 := by decide +kernel
  have e2 : (FloatKind.f64.format).binade = 4503599627370496 := by decide +kernel
  have e3 : (FloatKind.f64.format).infRung = 9218868437227405312 := by decide +kernel
  simp only [e1, e2, e3]
  have hm : b % 9223372036854775808 = 9218868437227405313 + r := by omega
  rw [hm, if_neg (by omega), if_neg (by omega), if_neg (by omega)]
  rfl

theorem cut32 (t : Nat) : isN .f32 ((t % 2) * 2 ^ 31 + 0x7f800000 + 1 + (t / 2) % (2 ^ 23 - 1)) = true :=
  isN32_of (s := t % 2) (r := (t / 2) % 8388607) (by omega) (Nat.mod_lt _ (by omega)) (by simp)
theorem cut64 (t : Nat) : isN .f64 ((t % 2) * 2 ^ 63 + 0x7ff0000000000000 + 1 + (t / 2) % (2 ^ 52 - 1)) = true :=
  isN64_of (s := t % 2) (r := (t / 2) % 4503599627370495) (by omega) (Nat.mod_lt _ (by omega)) (by simp)
theorem cut32_lt (t : Nat) : (t % 2) * 2 ^ 31 + 0x7f800000 + 1 + (t / 2) % (2 ^ 23 - 1) < 4294967296 := by
  have := Nat.mod_lt (t / 2) (show 0 < 8388607 by omega); simp; omega
theorem cut64_lt (t : Nat) : (t % 2) * 2 ^ 63 + 0x7ff0000000000000 + 1 + (t / 2) % (2 ^ 52 - 1) < 18446744073709551616 := by
  have := Nat.mod_lt (t / 2) (show 0 < 4503599627370495 by omega); simp; omega

theorem nanBits_isN (k : FloatKind) (x y t : Nat) : isN k ((Question.nanBits k x y).cut t) = true := by
  cases k
  · exact cut32 t
  · exact cut64 t
theorem nanConv_isN (k : FloatKind) (x t : Nat) : isN k ((Question.nanConv k x).cut t) = true := by
  cases k
  · exact cut32 t
  · exact cut64 t

/-- the bits fit the kind -/
def lim : FloatKind → Nat
  | .f32 => 4294967296
  | .f64 => 18446744073709551616
theorem wf_iff (k : FloatKind) (b : Nat) : (Lit.float k b).wf = true ↔ b < lim k := by
  cases k <;> simp [Lit.wf, lim]
theorem nanBits_lt (k : FloatKind) (x y t : Nat) : (Question.nanBits k x y).cut t < lim k := by
  cases k
  · exact cut32_lt t
  · exact cut64_lt t
theorem nanConv_lt (k : FloatKind) (x t : Nat) : (Question.nanConv k x).cut t < lim k := by
  cases k
  · exact cut32_lt t
  · exact cut64_lt t
theorem fres_lt (op : BinOp) (k : FloatKind) (x y : Nat) (w : World) : fres op k x y w < lim k := by
  unfold fres
  split
  · rename_i r h; exact (wf_iff k _).1 (floatBits_wf h)
  · exact nanBits_lt k x y _
theorem qn_lt (k : FloatKind) : qn k < lim k := by cases k <;> decide
theorem fop_lt (op : BinOp) (k : FloatKind) (x y : Nat) : fop op k x y < lim k := by
  unfold fop
  cases h : floatBits op k x y with
  | none => exact qn_lt k
  | some r => exact (wf_iff k _).1 (floatBits_wf h)

theorem fres_sim (op : BinOp) (k : FloatKind) (x y : Nat) (w : World) : Sim k (fres op k x y w) (fop op k x y) := by
  unfold fres fop
  cases h : floatBits op k x y with
  | some r => exact .inl rfl
  | none => exact .inr ⟨nanBits_isN k x y _, isN_qn k⟩
/-- the operation at operands that are known but for which NaN -/
theorem fres_of {op : BinOp} {k : FloatKind} {x y x' y' : Nat} (w : World) (hx : Sim k x x') (hy : Sim k y y') : Sim k (fres op k x y w) (fop op k x' y') := by
  rw [← fop_congr hx hy]; exact fres_sim ..
theorem fres_some {op : BinOp} {k : FloatKind} {x y r : Nat} (w : World) (h : floatBits op k x y = some r) : fres op k x y w = r := by simp [fres, h]
theorem fcnt_some {op : BinOp} {k : FloatKind} {x y r : Nat} (h : floatBits op k x y = some r) : fcnt op k x y = 0 := by simp [fcnt, h]


/-! ### conversions -/
/-- a conversion to another kind, one NaN standing for all (an overflow, too, yields it here: see 'cres') -/
def cop (src : FloatKind) (b : Nat) (dst : FloatKind) : Nat := (floatToFloatBits src b dst).getD (qn dst)
def cres (src : FloatKind) (b : Nat) (dst : FloatKind) (w : World) : Nat :=
  match floatToFloatBits src b dst with
  | some r => r
  | none => if isN src b then (Question.nanConv dst b).cut (w.tape w.drawn (.nanConv dst b)) else (Question.floatToFloat b).cut (w.tape w.drawn (.floatToFloat b))
def ccnt (src : FloatKind) (b : Nat) (dst : FloatKind) : Nat := if (floatToFloatBits src b dst).isSome then 0 else 1

theorem run_c {P : Program} (ts td : TypeId) (s k : FloatKind) (b : Nat) (w : World) (hs : (P.underlying ts).isSome = true) (hd : P.underlying td = some (.float k)) :
    (convert ts td (.float s b)).run P w = .ok (.float k (cres s b k w)) (w.drewN (ccnt s b k)) := by
  cases h : floatToFloatBits s b k with
  | some r => rw [run_convert_float_float w ts td s k b r hs hd h]; simp [cres, ccnt, h, World.drewN_zero]
  | none =>
    obtain ⟨u, hs'⟩ := Option.isSome_iff_exists.1 hs
    have h0 := h
    unfold floatToFloatBits at h
    split at h
    · cases h
    · rename_i ne
      split at h
      · rename_i sg tt he
        have hn : isN s b = true := (isN_iff s b).2 ⟨_, _, he⟩
        cases u <;> simp [convert, run_underlying hs', run_underlying hd, Conv.floatToFloat, ne, he, cres, ccnt, h0, hn, Question.forced, World.drew_is_drewN]
      · cases h
      · rename_i sg m e he
        split at h
        · rename_i ho
          have hn : isN s b = false := by unfold isN; rw [he]; rfl
          cases u <;> simp [convert, run_underlying hs', run_underlying hd, Conv.floatToFloat, ne, he, ho, cres, ccnt, h0, hn, Question.forced, World.drew_is_drewN]
        · cases h

theorem cres_some {s k : FloatKind} {b r : Nat} (w : World) (h : floatToFloatBits s b k = some r) : cres s b k w = r := by simp [cres, h]
theorem cres_nan {s k : FloatKind} {b : Nat} (w : World) (hk : s ≠ k) (h : isN s b = true) : isN k (cres s b k w) = true := by
  obtain ⟨sg, t, he⟩ := (isN_iff s b).1 h
  have : floatToFloatBits s b k = none := by unfold floatToFloatBits; rw [if_neg hk, he]
  simp only [cres, this, h, if_true]
  exact nanConv_isN k b _
theorem cres_same {k : FloatKind} {b : Nat} (w : World) : cres k b k w = b := by
  have : floatToFloatBits k b k = some b := by unfold floatToFloatBits; rw [if_pos rfl]
  simp [cres, this]
theorem ccnt_same {k : FloatKind} {b : Nat} : ccnt k b k = 0 := by
  have : floatToFloatBits k b k = some b := by unfold floatToFloatBits; rw [if_pos rfl]
  simp [ccnt, this]
attribute [go_sem] run_c
attribute [go_sem] World.drewN_zero
attribute [simp, go_sem] cres_same ccnt_same

@[simp, go_sem] theorem order_fres_l (op : BinOp) (k : FloatKind) (x y z : Nat) (w : World) : k.format.order (fres op k x y w) z = k.format.order (fop op k x y) z := order_congr (fres_sim ..) (Sim.refl ..)
@[simp, go_sem] theorem order_fres_r (op : BinOp) (k : FloatKind) (x y z : Nat) (w : World) : k.format.order z (fres op k x y w) = k.format.order z (fop op k x y) := order_congr (Sim.refl ..) (fres_sim ..)
@[simp] theorem fop_fres_l (o op : BinOp) (k : FloatKind) (x y z : Nat) (w : World) : fop o k (fres op k x y w) z = fop o k (fop op k x y) z := fop_congr (fres_sim ..) (Sim.refl ..)
@[simp] theorem fop_fres_r (o op : BinOp) (k : FloatKind) (x y z : Nat) (w : World) : fop o k z (fres op k x y w) = fop o k z (fop op k x y) := fop_congr (Sim.refl ..) (fres_sim ..)
@[simp] theorem isN_fres (op : BinOp) (k : FloatKind) (x y : Nat) (w : World) : isN k (fres op k x y w) = isN k (fop op k x y) := (fres_sim ..).isN_eq
@[go_sem] theorem run_store_float {P : Program} {w : World} {a : Addr} {m : Mode} (k : FloatKind) (b : Nat) : (store a (.float k b) m).run P w = stored P w a (.float k b) m := run_store P w a _ m rfl
@[go_sem] theorem run_store_complex {P : Program} {w : World} {a : Addr} {m : Mode} (k : FloatKind) (x y : Nat) : (store a (.complex k x y) m).run P w = stored P w a (.complex k x y) m := run_store P w a _ m rfl
theorem ret_bool {a b : Bool} (h : a = b) : Ending.returned (.bool a) = .returned (.bool b) := by rw [h]
theorem ret_int {k : IntKind} {a b : Int} (h : a = b) : Ending.returned (.int k a) = .returned (.int k b) := by rw [h]
theorem grown_drewN {W w : World} (n : Nat) (h : RowKit.Grown W w) : RowKit.Grown W (w.drewN n) := h

end Fl
end Go.Proofs.Ytdbcjldengemeaa

namespace Go.Proofs.Ytdbcjldengemeaa
namespace Fl
open Ieee

/-- the magnitude of a rung, in units of the least number -/
def mval (f : Format) (r : Nat) : Nat := if r < f.binade then r else (f.binade + r % f.binade) * 2 ^ (r / f.binade - 1)

theorem binade_pos (f : Format) : 0 < f.binade := Nat.two_pow_pos _

theorem mval_zero {f : Format} {r : Nat} (h : mval f r = 0) : r = 0 := by
  unfold mval at h
  split at h
  · exact h
  · have := binade_pos f
    rcases Nat.mul_eq_zero.1 h with h | h
    · omega
    · have := Nat.two_pow_pos (r / f.binade - 1); omega

/-- what is left of a number that is cut where nothing is lost -/
theorem cut_exact (neg : Bool) (c drop : Nat) : Toward.even.cut neg (c * 2 ^ drop) drop = c := by
  by_cases hc : c = 0
  · subst hc
    simp [Toward.cut]
  · have hl : drop ≤ (c * 2 ^ drop).log2 := by
      rw [Nat.le_log2 (by have := Nat.two_pow_pos drop; exact Nat.ne_of_gt (Nat.mul_pos (by omega) this))]
      exact Nat.le_mul_of_pos_left _ (by omega)
    have hm : min drop ((c * 2 ^ drop).log2 + 2) = drop := by omega
    have hp := Nat.two_pow_pos drop
    unfold Toward.cut
    simp only [hm, Nat.one_shiftLeft]
    rw [Nat.mul_mod_left, Nat.mul_div_cancel _ hp]
    simp

theorem cut_le (neg : Bool) {n drop u : Nat} (h : n ≤ u * 2 ^ drop) : Toward.even.cut neg n drop ≤ u := by
  unfold Toward.cut
  by_cases hd : drop ≤ n.log2 + 2
  · have hm : min drop (n.log2 + 2) = drop := by omega
    simp only [hm, Nat.one_shiftLeft]
    have hp := Nat.two_pow_pos drop
    have h1 : n / 2 ^ drop ≤ u := by
      rw [Nat.div_le_iff_le_mul hp]; omega
    by_cases he : n / 2 ^ drop = u
    · have hr : n % 2 ^ drop = 0 := by
        have h3 := Nat.div_add_mod n (2 ^ drop)
        rw [he, Nat.mul_comm] at h3
        omega
      simp only [hr, he]
      have : (2 ^ drop == 0) = false := by rw [beq_eq_false_iff_ne]; omega
      simp [this]
    · have h2 : ∀ b : Bool, b.toNat ≤ 1 := by intro b; cases b <;> simp
      have := h2 (decide (2 ^ drop < 2 * (n % 2 ^ drop)) || 2 ^ drop == 2 * (n % 2 ^ drop) && n / 2 ^ drop % 2 == 1)
      omega
  · have hm : min drop (n.log2 + 2) = n.log2 + 2 := by omega
    simp only [hm, Nat.one_shiftLeft]
    have hlt : n < 2 ^ (n.log2 + 1) := Nat.lt_log2_self
    have hg : 2 ^ (n.log2 + 2) = 2 * 2 ^ (n.log2 + 1) := by rw [Nat.pow_succ, Nat.mul_comm]
    have h0 : n / 2 ^ (n.log2 + 2) = 0 := Nat.div_eq_of_lt (by omega)
    have h1 : n % 2 ^ (n.log2 + 2) = n := Nat.mod_eq_of_lt (by omega)
    rw [h0, h1, hg]
    have a1 : ¬ 2 * 2 ^ (n.log2 + 1) < 2 * n := by omega
    have a2 : (2 * 2 ^ (n.log2 + 1) == 2 * n) = false := by rw [beq_eq_false_iff_ne]; omega
    simp only [a2, decide_eq_false a1]
    simp

theorem log2_bounds {m : Nat} (h : m ≠ 0) : 2 ^ m.log2 ≤ m ∧ m < 2 ^ (m.log2 + 1) := ⟨Nat.log2_self_le h, Nat.lt_log2_self⟩

/-- 2^a ≤ x and x < 2^b: a < b -/
theorem exp_lt {a b x : Nat} (h1 : 2 ^ a ≤ x) (h2 : x < 2 ^ b) : a < b := (Nat.pow_lt_pow_iff_right (by omega)).1 (Nat.lt_of_le_of_lt h1 h2)

/-- A NUMBER THAT A WORD HAS IS WRITTEN AS THAT WORD. 'm * 2^d' units, cut by 2^b. -/
theorem nearest_exact (f : Format) (neg : Bool) {m d b r : Nat} (h : m * 2 ^ d = mval f r * 2 ^ b) (hr : r < f.infRung) :
    f.nearest neg m (f.leastPlace + d - b) = f.word neg r := by
  unfold Format.nearest
  by_cases hm : m = 0
  · subst hm
    have : mval f r = 0 := by
      have hp := Nat.two_pow_pos b
      rw [Nat.zero_mul] at h
      rcases Nat.mul_eq_zero.1 h.symm with h | h <;> omega
    rw [if_pos rfl, mval_zero this]
  · rw [if_neg hm]
    obtain ⟨hL1, hL2⟩ := log2_bounds hm
    generalize m.log2 = L at *
    have hpd := Nat.two_pow_pos d
    have hpb := Nat.two_pow_pos b
    -- the kept number and the place of its last digit
    have key : ∃ t c : Nat, (max (f.leastPlace + d - b + L - f.fractionBits) f.leastPlace : Int) = f.leastPlace + t ∧ m * 2 ^ d = c * 2 ^ (t + b) ∧ t * f.binade + c = r := by
      unfold mval at h
      have hB : f.binade = 2 ^ f.fractionBits := rfl
      by_cases hrB : r < f.binade
      · rw [if_pos hrB] at h
        refine ⟨0, r, ?_, by simpa using h, by omega⟩
        have : L + d < f.fractionBits + b := by
          refine exp_lt (x := m * 2 ^ d) ?_ ?_
          · rw [Nat.pow_add]; exact Nat.mul_le_mul_right _ hL1
          · rw [h, Nat.pow_add, ← hB]; exact (Nat.mul_lt_mul_right hpb).2 hrB
        omega
      · rw [if_neg hrB] at h
        have hq : 1 ≤ r / f.binade := (Nat.le_div_iff_mul_le (binade_pos f)).2 (by omega)
        have hmod := Nat.mod_lt r (binade_pos f)
        have hdm := Nat.div_add_mod r f.binade
        generalize r / f.binade = q at *
        generalize r % f.binade = ρ at *
        refine ⟨q - 1, f.binade + ρ, ?_, by rw [h, Nat.mul_assoc, ← Nat.pow_add], ?_⟩
        · have e : m * 2 ^ d = (f.binade + ρ) * 2 ^ (q - 1 + b) := by rw [h, Nat.mul_assoc, ← Nat.pow_add]
          have lo : f.fractionBits + (q - 1 + b) < L + 1 + d := by
            refine exp_lt (x := m * 2 ^ d) ?_ ?_
            · rw [e, Nat.pow_add, ← hB]; exact Nat.mul_le_mul_right _ (by omega)
            · rw [Nat.pow_add]; exact (Nat.mul_lt_mul_right hpd).2 hL2
          have hi : L + d < f.fractionBits + 1 + (q - 1 + b) := by
            refine exp_lt (x := m * 2 ^ d) ?_ ?_
            · rw [Nat.pow_add]; exact Nat.mul_le_mul_right _ hL1
            · rw [e, Nat.pow_add 2 (f.fractionBits + 1), Nat.pow_succ, ← hB]; exact (Nat.mul_lt_mul_right (Nat.two_pow_pos _)).2 (by omega)
          omega
        · have : (q - 1) * f.binade + f.binade = q * f.binade := by rw [← Nat.succ_mul]; congr 1; omega
          rw [Nat.mul_comm] at hdm
          omega
    obtain ⟨t, c, hlast, hc, hsum⟩ := key
    simp only [hlast]
    have e1 : (f.leastPlace + (t : Int) - f.leastPlace).toNat = t := by omega
    rw [e1]
    have hcut : Toward.even.cut neg (m <<< (f.leastPlace + d - b - (f.leastPlace + t)).toNat) (f.leastPlace + t - (f.leastPlace + d - b)).toNat = c := by
      by_cases hdt : t + b ≤ d
      · have e2 : (f.leastPlace + d - b - (f.leastPlace + t) : Int).toNat = d - (t + b) := by omega
        have e3 : (f.leastPlace + t - (f.leastPlace + d - b) : Int).toNat = 0 := by omega
        rw [e2, e3, Nat.shiftLeft_eq]
        have : m * 2 ^ (d - (t + b)) = c := by
          have h2 : m * 2 ^ (d - (t + b)) * 2 ^ (t + b) = c * 2 ^ (t + b) := by rw [Nat.mul_assoc, ← Nat.pow_add, Nat.sub_add_cancel hdt, hc]
          exact Nat.eq_of_mul_eq_mul_right (Nat.two_pow_pos _) h2
        rw [this]
        have := cut_exact neg c 0
        simpa using this
      · have e2 : (f.leastPlace + d - b - (f.leastPlace + t) : Int).toNat = 0 := by omega
        have e3 : (f.leastPlace + t - (f.leastPlace + d - b) : Int).toNat = t + b - d := by omega
        rw [e2, e3, Nat.shiftLeft_eq]
        have : m = c * 2 ^ (t + b - d) := by
          have h2 : m * 2 ^ d = c * 2 ^ (t + b - d) * 2 ^ d := by rw [Nat.mul_assoc, ← Nat.pow_add, Nat.sub_add_cancel (by omega), hc]
          exact Nat.eq_of_mul_eq_mul_right hpd h2
        rw [this, Nat.pow_zero, Nat.mul_one]
        exact cut_exact neg c _
    rw [hcut, hsum, Nat.min_eq_left (by omega)]

/-- ROUNDING KEEPS AN UPPER BOUND that is a number of the format. -/
theorem nearest_le (f : Format) (neg : Bool) {m d b r : Nat} (h : m * 2 ^ d ≤ mval f r * 2 ^ b) :
    ∃ r', r' ≤ r ∧ f.nearest neg m (f.leastPlace + d - b) = f.word neg r' := by
  unfold Format.nearest
  by_cases hm : m = 0
  · exact ⟨0, Nat.zero_le _, by rw [if_pos hm]⟩
  · rw [if_neg hm]
    obtain ⟨hL1, hL2⟩ := log2_bounds hm
    generalize m.log2 = L at *
    have hpd := Nat.two_pow_pos d
    have hpb := Nat.two_pow_pos b
    have hB : f.binade = 2 ^ f.fractionBits := rfl
    have hlo : 2 ^ (L + d) ≤ m * 2 ^ d := by rw [Nat.pow_add]; exact Nat.mul_le_mul_right _ hL1
    have hhi : m * 2 ^ d < 2 ^ (L + 1 + d) := by rw [Nat.pow_add]; exact (Nat.mul_lt_mul_right hpd).2 hL2
    -- the cut number is at most every u that bounds it
    have hcut : ∀ t u : Nat, m * 2 ^ d ≤ u * 2 ^ (t + b) → Toward.even.cut neg (m <<< (f.leastPlace + d - b - (f.leastPlace + t)).toNat) (f.leastPlace + t - (f.leastPlace + d - b)).toNat ≤ u := by
      intro t u hu
      by_cases hdt : t + b ≤ d
      · have e2 : (f.leastPlace + d - b - (f.leastPlace + t) : Int).toNat = d - (t + b) := by omega
        have e3 : (f.leastPlace + t - (f.leastPlace + d - b) : Int).toNat = 0 := by omega
        rw [e2, e3, Nat.shiftLeft_eq]
        refine cut_le neg ?_
        rw [Nat.pow_zero, Nat.mul_one]
        have h2 : m * 2 ^ (d - (t + b)) * 2 ^ (t + b) ≤ u * 2 ^ (t + b) := by rw [Nat.mul_assoc, ← Nat.pow_add, Nat.sub_add_cancel hdt]; exact hu
        exact Nat.le_of_mul_le_mul_right h2 (Nat.two_pow_pos _)
      · have e2 : (f.leastPlace + d - b - (f.leastPlace + t) : Int).toNat = 0 := by omega
        have e3 : (f.leastPlace + t - (f.leastPlace + d - b) : Int).toNat = t + b - d := by omega
        rw [e2, e3, Nat.shiftLeft_eq]
        refine cut_le neg ?_
        rw [Nat.pow_zero, Nat.mul_one]
        have h2 : m * 2 ^ d ≤ u * 2 ^ (t + b - d) * 2 ^ d := by rw [Nat.mul_assoc, ← Nat.pow_add, Nat.sub_add_cancel (by omega)]; exact hu
        exact Nat.le_of_mul_le_mul_right h2 hpd
    have key : ∃ t : Nat, (max (f.leastPlace + d - b + L - f.fractionBits) f.leastPlace : Int) = f.leastPlace + t ∧
        ∀ c, c = Toward.even.cut neg (m <<< (f.leastPlace + d - b - (f.leastPlace + t)).toNat) (f.leastPlace + t - (f.leastPlace + d - b)).toNat → t * f.binade + c ≤ r := by
      unfold mval at h
      by_cases ht : L + d ≤ f.fractionBits + b
      · refine ⟨0, by omega, ?_⟩
        intro c hc
        have h2B : c ≤ 2 * f.binade := by
          rw [hc]
          refine hcut 0 _ ?_
          have : m * 2 ^ d < 2 ^ (f.fractionBits + 1 + b) := Nat.lt_of_lt_of_le hhi (Nat.pow_le_pow_right (by omega) (by omega))
          rw [Nat.pow_add, Nat.pow_succ, ← hB] at this
          rw [Nat.zero_add, Nat.mul_comm 2]
          omega
        by_cases hrB : r < f.binade
        · rw [if_pos hrB] at h
          have : c ≤ r := by rw [hc]; exact hcut 0 _ (by simpa using h)
          omega
        · rw [if_neg hrB] at h
          have hq : 1 ≤ r / f.binade := (Nat.le_div_iff_mul_le (binade_pos f)).2 (by omega)
          have hdm := Nat.div_add_mod r f.binade
          by_cases hq1 : r / f.binade = 1
          · have : c ≤ f.binade + r % f.binade := by rw [hc]; refine hcut 0 _ ?_; rw [hq1] at h; simpa using h
            rw [hq1] at hdm
            omega
          · have : f.binade * 2 ≤ f.binade * (r / f.binade) := Nat.mul_le_mul_left _ (by omega)
            omega
      · obtain ⟨t, ht'⟩ : ∃ t, L + d = f.fractionBits + b + t := ⟨L + d - (f.fractionBits + b), by omega⟩
        refine ⟨t, by omega, ?_⟩
        intro c hc
        have h2B : c ≤ 2 * f.binade := by
          rw [hc]
          refine hcut t _ ?_
          have : m * 2 ^ d < 2 ^ (f.fractionBits + 1 + (t + b)) := Nat.lt_of_lt_of_le hhi (Nat.pow_le_pow_right (by omega) (by omega))
          rw [Nat.pow_add, Nat.pow_succ, ← hB] at this
          rw [Nat.mul_comm 2]
          omega
        by_cases hrB : r < f.binade
        · rw [if_pos hrB] at h
          have : L + d < f.fractionBits + b := by
            refine exp_lt hlo (Nat.lt_of_le_of_lt h ?_)
            rw [Nat.pow_add, ← hB]; exact (Nat.mul_lt_mul_right hpb).2 hrB
          omega
        · rw [if_neg hrB] at h
          have hq : 1 ≤ r / f.binade := (Nat.le_div_iff_mul_le (binade_pos f)).2 (by omega)
          have hdm := Nat.div_add_mod r f.binade
          have hmod := Nat.mod_lt r (binade_pos f)
          generalize r / f.binade = q at *
          generalize r % f.binade = ρ at *
          have h' : m * 2 ^ d ≤ (f.binade + ρ) * 2 ^ (q - 1 + b) := by rw [Nat.pow_add, ← Nat.mul_assoc]; exact h
          have : L + d < f.fractionBits + 1 + (q - 1 + b) := by
            refine exp_lt hlo (Nat.lt_of_le_of_lt h' ?_)
            rw [Nat.pow_add 2 (f.fractionBits + 1), Nat.pow_succ, ← hB]; exact (Nat.mul_lt_mul_right (Nat.two_pow_pos _)).2 (by omega)
          by_cases hqt : q - 1 = t
          · have : c ≤ f.binade + ρ := by rw [hc]; exact hcut t _ (by rw [← hqt]; exact h')
            have e : (q - 1) * f.binade + f.binade = q * f.binade := by rw [← Nat.succ_mul]; congr 1; omega
            rw [Nat.mul_comm] at hdm
            rw [← hqt]
            omega
          · have : (t + 2) * f.binade ≤ q * f.binade := Nat.mul_le_mul_right _ (by omega)
            rw [Nat.add_mul] at this
            rw [Nat.mul_comm] at hdm
            omega
    obtain ⟨t, hlast, hle⟩ := key
    simp only [hlast]
    have e1 : (f.leastPlace + (t : Int) - f.leastPlace).toNat = t := by omega
    rw [e1]
    have := hle _ rfl
    exact ⟨_, Nat.le_trans (Nat.min_le_left ..) this, rfl⟩

/-! ### words and what they stand for -/
theorem mval_lt {f : Format} {r s : Nat} (h : r < s) : mval f r < mval f s := by
  have hB := binade_pos f
  unfold mval
  by_cases h2 : s < f.binade
  · rw [if_pos h2, if_pos (by omega)]; exact h
  · rw [if_neg h2]
    have hp := Nat.two_pow_pos (s / f.binade - 1)
    have hge : f.binade + s % f.binade ≤ (f.binade + s % f.binade) * 2 ^ (s / f.binade - 1) := Nat.le_mul_of_pos_right _ hp
    by_cases h1 : r < f.binade
    · rw [if_pos h1]; omega
    · rw [if_neg h1]
      have d1 := Nat.div_add_mod r f.binade
      have d2 := Nat.div_add_mod s f.binade
      have m1 := Nat.mod_lt r hB
      have m2 := Nat.mod_lt s hB
      have q1 : 1 ≤ r / f.binade := (Nat.le_div_iff_mul_le hB).2 (by omega)
      have q12 : r / f.binade ≤ s / f.binade := Nat.div_le_div_right (by omega)
      generalize r / f.binade = q at *
      generalize s / f.binade = p at *
      generalize r % f.binade = ρ at *
      generalize s % f.binade = σ at *
      by_cases e : q = p
      · subst e
        exact (Nat.mul_lt_mul_right hp).2 (by omega)
      · have l1 : (f.binade + ρ) * 2 ^ (q - 1) < f.binade * 2 * 2 ^ (q - 1) := (Nat.mul_lt_mul_right (Nat.two_pow_pos _)).2 (by omega)
        have l2 : f.binade * 2 * 2 ^ (q - 1) = f.binade * 2 ^ q := by
          rw [Nat.mul_assoc, ← Nat.pow_succ']; congr 2; omega
        have l3 : f.binade * 2 ^ q ≤ f.binade * 2 ^ (p - 1) := Nat.mul_le_mul_left _ (Nat.pow_le_pow_right (by omega) (by omega))
        have l4 : f.binade * 2 ^ (p - 1) ≤ (f.binade + σ) * 2 ^ (p - 1) := Nat.mul_le_mul_right _ (by omega)
        omega
theorem mval_inj {f : Format} {r s : Nat} (h : mval f r = mval f s) : r = s := by
  rcases Nat.lt_trichotomy r s with g | g | g
  · have := mval_lt (f := f) g; omega
  · exact g
  · have := mval_lt (f := f) g; omega
theorem mval_le {f : Format} {r s : Nat} (h : r ≤ s) : mval f r ≤ mval f s := by
  rcases Nat.lt_or_eq_of_le h with g | g
  · exact Nat.le_of_lt (mval_lt g)
  · rw [g]; exact Nat.le_refl _
theorem le_of_mval {f : Format} {r s : Nat} (h : mval f r ≤ mval f s) : r ≤ s := by
  rcases Nat.lt_or_ge s r with g | g
  · have := mval_lt (f := f) g; omega
  · exact g
theorem mval_small {f : Format} {r : Nat} (h : r < f.binade) : mval f r = r := by unfold mval; rw [if_pos h]

/-- a number of few digits stands in the format -/
theorem repr (f : Format) (c e : Nat) (hc : c < 2 * f.binade) : ∃ r, mval f r = c * 2 ^ e ∧ r < (e + 2) * f.binade := by
  have hB : f.binade = 2 ^ f.fractionBits := rfl
  have hBp := binade_pos f
  by_cases h0 : c = 0
  · exact ⟨0, by rw [mval_small hBp, h0, Nat.zero_mul], by rw [Nat.add_mul]; omega⟩
  · obtain ⟨l1, l2⟩ := log2_bounds h0
    generalize c.log2 = l at *
    have hl : l ≤ f.fractionBits := by
      have : l < f.fractionBits + 1 := exp_lt l1 (by rw [Nat.pow_succ, ← hB]; omega)
      omega
    by_cases hs : e + l < f.fractionBits
    · have hlt : c * 2 ^ e < f.binade := by
        have a : c * 2 ^ e < 2 ^ (l + 1) * 2 ^ e := (Nat.mul_lt_mul_right (Nat.two_pow_pos _)).2 l2
        rw [← Nat.pow_add] at a
        have b : 2 ^ (l + 1 + e) ≤ f.binade := by rw [hB]; exact Nat.pow_le_pow_right (by omega) (by omega)
        omega
      exact ⟨c * 2 ^ e, mval_small hlt, by rw [Nat.add_mul]; omega⟩
    · obtain ⟨t, ht⟩ : ∃ t, e + l = f.fractionBits + t := ⟨e + l - f.fractionBits, by omega⟩
      obtain ⟨u, hu⟩ : ∃ u, f.fractionBits = l + u := ⟨f.fractionBits - l, by omega⟩
      have lo : f.binade ≤ c * 2 ^ u := by rw [hB, hu, Nat.pow_add]; exact Nat.mul_le_mul_right _ l1
      have hi : c * 2 ^ u < 2 * f.binade := by
        have : c * 2 ^ u < 2 ^ (l + 1) * 2 ^ u := (Nat.mul_lt_mul_right (Nat.two_pow_pos _)).2 l2
        rw [hB, hu, Nat.mul_comm 2, ← Nat.pow_succ]
        rw [← Nat.pow_add] at this
        have e1 : l + 1 + u = (l + u).succ := by omega
        rw [← e1]; exact this
      refine ⟨t * f.binade + c * 2 ^ u, ?_, ?_⟩
      · have hq : (t * f.binade + c * 2 ^ u) / f.binade = t + 1 := by
          have : t * f.binade + c * 2 ^ u = (c * 2 ^ u - f.binade) + f.binade * (t + 1) := by rw [Nat.mul_add, Nat.mul_comm f.binade t]; omega
          rw [this, Nat.add_mul_div_left _ _ hBp, Nat.div_eq_of_lt (by omega)]; omega
        have hρ : (t * f.binade + c * 2 ^ u) % f.binade = c * 2 ^ u - f.binade := by
          have : t * f.binade + c * 2 ^ u = (c * 2 ^ u - f.binade) + f.binade * (t + 1) := by rw [Nat.mul_add, Nat.mul_comm f.binade t]; omega
          rw [this, Nat.add_mul_mod_self_left, Nat.mod_eq_of_lt (by omega)]
        unfold mval
        rw [if_neg (by omega), hq, hρ]
        have : f.binade + (c * 2 ^ u - f.binade) = c * 2 ^ u := by omega
        rw [this, Nat.mul_assoc, ← Nat.pow_add]
        congr 2; omega
      · have : t ≤ e := by omega
        have : t * f.binade ≤ e * f.binade := Nat.mul_le_mul_right _ this
        rw [Nat.add_mul]; omega

theorem word_sign {f : Format} {s : Bool} {r : Nat} (h : r < f.signWeight) : (f.word s r / f.signWeight % 2 == 1) = s := by
  unfold Format.word
  cases s
  · simp [Nat.div_eq_of_lt h]
  · simp only [if_true]
    have : (f.signWeight + r) / f.signWeight = 1 := by
      rw [Nat.add_div_left _ (by omega), Nat.div_eq_of_lt h]
    rw [this]; rfl
theorem word_rung {f : Format} {s : Bool} {r : Nat} (h : r < f.signWeight) : f.word s r % f.signWeight = r := by
  unfold Format.word
  cases s
  · simp [Nat.mod_eq_of_lt h]
  · simp [Nat.mod_eq_of_lt h]
theorem word_split (f : Format) {w : Nat} (h : w < 2 * f.signWeight) : w = f.word (w / f.signWeight % 2 == 1) (w % f.signWeight) := by
  have hd := Nat.div_add_mod w f.signWeight
  have h2 : w / f.signWeight < 2 := Nat.div_lt_of_lt_mul (by omega)
  unfold Format.word
  generalize w / f.signWeight = q at *
  have : q = 0 ∨ q = 1 := by omega
  rcases this with e | e
  · rw [e] at hd ⊢; simp; simp at hd; exact hd.symm
  · rw [e] at hd ⊢; simp; simp at hd; exact hd.symm

/-- reading a finite word -/
theorem read_num (f : Format) (s : Bool) {r : Nat} (h : r < f.infRung) : ∃ m d : Nat, f.read (f.word s r) = .number s m (f.leastPlace + d) ∧ m * 2 ^ d = mval f r ∧ m < 2 * f.binade ∧ (d = 0 ∨ f.binade ≤ m) := by
  have hsw := Nat.lt_trans h f.infRung_lt
  have hBp := binade_pos f
  unfold Format.read
  simp only [word_rung hsw, word_sign hsw]
  by_cases hb : r < f.binade
  · exact ⟨r, 0, by rw [if_pos hb]; simp, by rw [mval_small hb]; simp, by omega, .inl rfl⟩
  · refine ⟨f.binade + r % f.binade, r / f.binade - 1, by rw [if_neg hb, if_pos h], ?_, ?_, .inr (by omega)⟩
    · unfold mval; rw [if_neg hb]
    · have := Nat.mod_lt r hBp; omega
theorem read_inf (f : Format) (s : Bool) (hb : f.binade ≤ f.infRung) : f.read (f.word s f.infRung) = .infinity s := by
  have hsw := f.infRung_lt
  unfold Format.read
  simp only [word_rung hsw, word_sign hsw]
  rw [if_neg (by omega), if_neg (by omega), if_pos trivial]

end Fl
end Go.Proofs.Ytdbcjldengemeaa

namespace Go.Proofs.Ytdbcjldengemeaa
namespace Fl
open Ieee

/-- a magnitude with a sign -/
def sv (s : Bool) (v : Nat) : Int := if s then -(v : Int) else v

theorem signed_sv (s : Bool) (m d : Nat) : signed s m d = sv s (m * 2 ^ d) := by
  unfold signed sv; rw [Nat.shiftLeft_eq]
theorem sv_mul (s : Bool) (v c : Nat) : sv s (v * c) = sv s v * c := by
  unfold sv; cases s
  · simp
  · simp [Int.neg_mul]

theorem compare_mul {a b : Int} (c : Nat) (hc : 0 < c) : compare (a * c) (b * c) = compare a b := by
  have hc' : (0 : Int) < c := by omega
  simp only [compare, compareOfLessAndEq]
  by_cases h : a < b
  · rw [if_pos h, if_pos (Int.mul_lt_mul_of_pos_right h hc')]
  · rw [if_neg h, if_neg (fun g => h (Int.lt_of_mul_lt_mul_right g (by omega)))]
    by_cases e : a = b
    · rw [if_pos e, if_pos (by rw [e])]
    · rw [if_neg e, if_neg (fun g => e (Int.eq_of_mul_eq_mul_right (by omega) g))]

theorem sv_scaled (f : Format) (s t : Bool) (m d n e : Nat) :
    sv s (m * 2 ^ d) = signed s m (f.leastPlace + (d : Int) - min (f.leastPlace + (d : Int)) (f.leastPlace + (e : Int))).toNat * ((2 ^ min d e : Nat) : Int) ∧
    sv t (n * 2 ^ e) = signed t n (f.leastPlace + (e : Int) - min (f.leastPlace + (d : Int)) (f.leastPlace + (e : Int))).toNat * ((2 ^ min d e : Nat) : Int) := by
  refine ⟨?_, ?_⟩
  · have e1 : (f.leastPlace + (d : Int) - min (f.leastPlace + (d : Int)) (f.leastPlace + (e : Int))).toNat = d - min d e := by omega
    rw [e1, signed_sv, ← sv_mul, Nat.mul_assoc, ← Nat.pow_add]; congr 3; omega
  · have e1 : (f.leastPlace + (e : Int) - min (f.leastPlace + (d : Int)) (f.leastPlace + (e : Int))).toNat = e - min d e := by omega
    rw [e1, signed_sv, ← sv_mul, Nat.mul_assoc, ← Nat.pow_add]; congr 3; omega

theorem order_words (f : Format) (s t : Bool) {r q : Nat} (hr : r < f.infRung) (hq : q < f.infRung) :
    f.order (f.word s r) (f.word t q) = some (compare (sv s (mval f r)) (sv t (mval f q))) := by
  obtain ⟨m, d, e1, e2, _, _⟩ := read_num f s hr
  obtain ⟨n, e, g1, g2, _, _⟩ := read_num f t hq
  obtain ⟨c1, c2⟩ := sv_scaled f s t m d n e
  unfold Format.order
  rw [e1, g1]
  simp only [Datum.order]
  rw [← e2, ← g2, c1, c2, compare_mul _ (Nat.two_pow_pos _)]

theorem cmp_lt {a b : Int} : compare a b = .lt ↔ a < b := by
  simp only [compare, compareOfLessAndEq]; split
  · simp [*]
  · split <;> simp [*]
theorem cmp_eq {a b : Int} : compare a b = .eq ↔ a = b := by
  simp only [compare, compareOfLessAndEq]; split
  · simp; omega
  · split <;> simp [*]
theorem cmp_gt {a b : Int} : compare a b = .gt ↔ b < a := by
  simp only [compare, compareOfLessAndEq]; split
  · simp; omega
  · split
    · simp; omega
    · simp; omega

/-- the sum of two finite words, ahead of rounding -/
theorem sum_words (f : Format) (s t : Bool) {m d n e : Nat} (x y : Datum) (hx : x = .number s m (f.leastPlace + d)) (hy : y = .number t n (f.leastPlace + e)) :
    ∃ (T D : Nat), x.sum y = some (.number (if sv s (m * 2 ^ d) + sv t (n * 2 ^ e) = 0 then s && t else decide (sv s (m * 2 ^ d) + sv t (n * 2 ^ e) < 0)) T (f.leastPlace + D)) ∧ T * 2 ^ D = (sv s (m * 2 ^ d) + sv t (n * 2 ^ e)).natAbs := by
  obtain ⟨c1, c2⟩ := sv_scaled f s t m d n e
  subst hx hy
  simp only [Datum.sum]
  generalize signed s m (f.leastPlace + (d : Int) - min (f.leastPlace + (d : Int)) (f.leastPlace + (e : Int))).toNat = X at *
  generalize signed t n (f.leastPlace + (e : Int) - min (f.leastPlace + (d : Int)) (f.leastPlace + (e : Int))).toNat = Y at *
  have hp : min (f.leastPlace + (d : Int)) (f.leastPlace + (e : Int)) = f.leastPlace + ((min d e : Nat) : Int) := by omega
  have hc : (0 : Int) < ((2 ^ min d e : Nat) : Int) := by have := Nat.two_pow_pos (min d e); omega
  have hz : (sv s (m * 2 ^ d) + sv t (n * 2 ^ e) = 0) ↔ (X + Y = 0) := by
    rw [c1, c2, ← Int.add_mul]
    constructor
    · intro h; rcases Int.mul_eq_zero.1 h with h | h
      · exact h
      · omega
    · intro h; rw [h, Int.zero_mul]
  have hn : (sv s (m * 2 ^ d) + sv t (n * 2 ^ e) < 0) ↔ (X + Y < 0) := by
    rw [c1, c2, ← Int.add_mul]
    constructor
    · intro h; exact Int.lt_of_mul_lt_mul_right (by rw [Int.zero_mul]; exact h) (Int.le_of_lt hc)
    · intro h
      have := Int.mul_lt_mul_of_pos_right h hc
      rw [Int.zero_mul] at this; exact this
  refine ⟨(X + Y).natAbs, min d e, ?_, ?_⟩
  · simp only [hz, hn, hp]
  · rw [c1, c2, ← Int.add_mul, Int.natAbs_mul]; simp

theorem add_words (f : Format) (s t : Bool) {r q : Nat} (hr : r < f.infRung) (hq : q < f.infRung) :
    ∃ (T D : Nat), f.add (f.word s r) (f.word t q) = some (f.nearest (if sv s (mval f r) + sv t (mval f q) = 0 then s && t else decide (sv s (mval f r) + sv t (mval f q) < 0)) T (f.leastPlace + D)) ∧ T * 2 ^ D = (sv s (mval f r) + sv t (mval f q)).natAbs := by
  obtain ⟨m, d, e1, e2, _, _⟩ := read_num f s hr
  obtain ⟨n, e, g1, g2, _, _⟩ := read_num f t hq
  obtain ⟨T, D, h1, h2⟩ := sum_words f s t _ _ e1 g1
  rw [e2, g2] at h1 h2
  exact ⟨T, D, by unfold Format.add; rw [h1]; rfl, h2⟩
theorem sub_words (f : Format) (s t : Bool) {r q : Nat} (hr : r < f.infRung) (hq : q < f.infRung) :
    ∃ (T D : Nat), f.sub (f.word s r) (f.word t q) = some (f.nearest (if sv s (mval f r) - sv t (mval f q) = 0 then s && !t else decide (sv s (mval f r) - sv t (mval f q) < 0)) T (f.leastPlace + D)) ∧ T * 2 ^ D = (sv s (mval f r) - sv t (mval f q)).natAbs := by
  obtain ⟨m, d, e1, e2, _, _⟩ := read_num f s hr
  obtain ⟨n, e, g1, g2, _, _⟩ := read_num f t hq
  have g1' : (f.read (f.word t q)).opposite = .number (!t) n (f.leastPlace + e) := by rw [g1]; rfl
  obtain ⟨T, D, h1, h2⟩ := sum_words f s (!t) _ _ e1 g1'
  rw [e2, g2] at h1 h2
  have hneg : sv (!t) (mval f q) = - sv t (mval f q) := by unfold sv; cases t <;> simp
  rw [hneg, ← Int.sub_eq_add_neg] at h1 h2
  exact ⟨T, D, by unfold Format.sub; rw [h1]; rfl, h2⟩
theorem mul_words (f : Format) (s t : Bool) {r q b : Nat} (hb : (b : Int) = - f.leastPlace) (hr : r < f.infRung) (hq : q < f.infRung) :
    ∃ (T D : Nat), f.mul (f.word s r) (f.word t q) = some (f.nearest (s ^^ t) T (f.leastPlace + D - b)) ∧ T * 2 ^ D = mval f r * mval f q := by
  obtain ⟨m, d, e1, e2, _, _⟩ := read_num f s hr
  obtain ⟨n, e, g1, g2, _, _⟩ := read_num f t hq
  refine ⟨m * n, d + e, ?_, ?_⟩
  · unfold Format.mul
    rw [e1, g1]
    simp only [Datum.product, Option.map_some, Format.write]
    congr 2
    omega
  · rw [← e2, ← g2, Nat.pow_add]
    simp only [Nat.mul_assoc, Nat.mul_left_comm]

/-! ### the two kinds -/
theorem fmt32 : FloatKind.f32.format = single := rfl
theorem fmt64 : FloatKind.f64.format = double := rfl
theorem B32 : single.binade = 8388608 := by decide +kernel
theorem B64 : double.binade = 4503599627370496 := by decide +kernel
theorem I32 : single.infRung = 2139095040 := by decide +kernel
theorem I64 : double.infRung = 9218868437227405312 := by decide +kernel
theorem S32 : single.signWeight = 2147483648 := by decide +kernel
theorem S64 : double.signWeight = 9223372036854775808 := by decide +kernel
theorem P32 : single.leastPlace = -149 := by decide +kernel
theorem P64 : double.leastPlace = -1074 := by decide +kernel

theorem word32_lt {s : Bool} {r : Nat} (h : r ≤ 2139095040) : single.word s r < 4294967296 := by
  unfold Format.word; rw [S32]; split <;> omega

/-- every word is finite, an infinity or a NaN -/
theorem kinds (k : FloatKind) {w : Nat} (h : w < lim k) : (∃ s r, r < k.format.infRung ∧ w = k.format.word s r) ∨ (∃ s, w = k.format.word s k.format.infRung) ∨ isN k w = true := by
  have h2 : w < 2 * k.format.signWeight := by cases k <;> simp only [lim, fmt32, fmt64, S32, S64] at h ⊢ <;> omega
  have hw := word_split _ h2
  have hlt : w % k.format.signWeight < k.format.signWeight := Nat.mod_lt _ (by have := k.format.infRung_lt; omega)
  rcases Nat.lt_trichotomy (w % k.format.signWeight) k.format.infRung with g | g | g
  · exact .inl ⟨_, _, g, hw⟩
  · right; left; rw [g] at hw; exact ⟨_, hw⟩
  · right; right
    have hB : k.format.binade ≤ k.format.infRung := by cases k <;> simp only [fmt32, fmt64, B32, B64, I32, I64] <;> omega
    unfold isN FloatKind.decode Format.read
    simp only
    rw [if_neg (by omega), if_neg (by omega), if_neg (by omega)]
    rfl
theorem isN_word (k : FloatKind) (s : Bool) {r : Nat} (h : r ≤ k.format.infRung) : isN k (k.format.word s r) = false := by
  have hB : k.format.binade ≤ k.format.infRung := by cases k <;> simp only [fmt32, fmt64, B32, B64, I32, I64] <;> omega
  unfold isN FloatKind.decode
  rcases Nat.lt_or_eq_of_le h with g | g
  · obtain ⟨m, d, e, _⟩ := read_num k.format s g
    rw [e]; rfl
  · rw [g, read_inf _ _ hB]; rfl

theorem place_of {m d r : Nat} (h : m * 2 ^ d = mval single r) (hr : r < 2139095040) (hd : d = 0 ∨ 8388608 ≤ m) : d ≤ 253 := by
  have h1 : mval single r < mval single 2139095040 := mval_lt hr
  have h2 : mval single 2139095040 = 8388608 * 2 ^ 254 := by decide +kernel
  rcases Nat.lt_or_ge 253 d with g | g
  · rcases hd with e | e
    · omega
    · have : 8388608 * 2 ^ 254 ≤ m * 2 ^ d := Nat.mul_le_mul e (Nat.pow_le_pow_right (by omega) g)
      rw [h, ← h2] at this
      exact absurd h1 (Nat.not_lt.2 this)
  · exact g

/-- a float32 widened: the same number (K: 925) -/
theorem widen_word (s : Bool) {r K : Nat} (hK : K = 925) (h : r < 2139095040) : ∃ q, q < 9218868437227405312 ∧ mval double q = mval single r * 2 ^ K ∧ floatToFloatBits .f32 (single.word s r) .f64 = some (double.word s q) := by
  have h' : r < single.infRung := by rw [I32]; exact h
  obtain ⟨m, d, e1, e2, hm, hdm⟩ := read_num single s h'
  rw [B32] at hm hdm
  have hd := place_of e2 h hdm
  obtain ⟨q, q1, q2⟩ := repr double m (d + K) (by rw [B64]; omega)
  have hq : q < double.infRung := by
    rw [I64]; rw [B64] at q2
    have : (d + K + 2) * 4503599627370496 ≤ (253 + 925 + 2) * 4503599627370496 := Nat.mul_le_mul_right _ (by omega)
    clear q1 e2 e1
    omega
  refine ⟨q, by rw [I64] at hq; exact hq, by rw [q1, ← e2, Nat.pow_add, Nat.mul_assoc], ?_⟩
  have hn : double.nearest s m (single.leastPlace + d) = double.word s q := by
    have := nearest_exact double s (m := m) (d := d + K) (b := 0) (r := q) (by rw [q1, Nat.pow_zero, Nat.mul_one]) hq
    rw [← this, P64, P32]; clear q1 e2 e1 this; congr 1; omega
  unfold floatToFloatBits
  rw [if_neg (by decide)]
  have hd2 : FloatKind.f32.decode (single.word s r) = .number s m (single.leastPlace + d) := e1
  rw [hd2]
  simp only [FloatKind.encode, fmt64, Format.write, hn]
  rw [if_neg]
  obtain ⟨m', d', e', _⟩ := read_num double s hq
  simp only [FloatKind.decode, fmt64, e', Datum.isInfinity]
  simp

theorem widen_inf (s : Bool) : floatToFloatBits .f32 (single.word s single.infRung) .f64 = some (double.word s double.infRung) := by
  cases s <;> decide +kernel

theorem read_mod (f : Format) (w : Nat) : f.read w = f.read (f.word (w / f.signWeight % 2 == 1) (w % f.signWeight)) := by
  have h : w % f.signWeight < f.signWeight := Nat.mod_lt _ (by have := f.infRung_lt; omega)
  unfold Format.read
  simp only [word_sign h, word_rung h]
theorem isN_mod (k : FloatKind) (w : Nat) : isN k w = isN k (k.format.word (w / k.format.signWeight % 2 == 1) (w % k.format.signWeight)) := by
  unfold isN FloatKind.decode; rw [read_mod]
theorem widen_none {x : Nat} (h : floatToFloatBits .f32 x .f64 = none) : isN .f32 x = true := by
  rw [isN_mod]
  have hr := read_mod single x
  have h1 : floatToFloatBits .f32 (single.word (x / single.signWeight % 2 == 1) (x % single.signWeight)) .f64 = none := by
    rw [← h]; unfold floatToFloatBits FloatKind.decode; rw [if_neg (by decide), if_neg (by decide)]; simp only [fmt32, hr]
  have hlt : x % single.signWeight < 2147483648 := by rw [S32]; exact Nat.mod_lt _ (by omega)
  have hl : single.word (x / single.signWeight % 2 == 1) (x % single.signWeight) < lim .f32 := by
    show _ < 4294967296
    unfold Format.word; rw [S32] at *; split <;> omega
  show isN .f32 (single.word _ _) = true
  rcases kinds .f32 hl with ⟨s, r, hr', e⟩ | ⟨s, e⟩ | e
  · obtain ⟨q, _, _, e'⟩ := widen_word s rfl (r := r) (by rw [fmt32, I32] at hr'; exact hr')
    rw [e, fmt32, e'] at h1; cases h1
  · rw [e, fmt32, widen_inf] at h1; cases h1
  · exact e

theorem cop_nan {s k : FloatKind} {b : Nat} (hk : s ≠ k) (h : isN s b = true) : cop s b k = qn k := by
  obtain ⟨sg, t, he⟩ := (isN_iff s b).1 h
  unfold cop floatToFloatBits; rw [if_neg hk, he]; rfl
theorem cop_congr {s k : FloatKind} {a b : Nat} (hk : s ≠ k) (h : Sim s a b) : cop s a k = cop s b k := by
  rcases h with rfl | ⟨x, y⟩
  · rfl
  · rw [cop_nan hk x, cop_nan hk y]
/-- a float32 widened, in whatever world -/
theorem wide_sim (x : Nat) (w : World) : Sim .f64 (cres .f32 x .f64 w) (cop .f32 x .f64) := by
  cases h : floatToFloatBits .f32 x .f64 with
  | some r => rw [cres_some w h]; unfold cop; rw [h]; exact .inl rfl
  | none =>
    have hn := widen_none h
    refine .inr ⟨cres_nan w (by decide) hn, ?_⟩
    rw [cop_nan (by decide) hn]; exact isN_qn _
theorem wide_of {x y : Nat} (w : World) (h : Sim .f32 x y) : Sim .f64 (cres .f32 x .f64 w) (cop .f32 y .f64) := by
  rw [← cop_congr (by decide) h]; exact wide_sim x w
@[simp, go_sem] theorem order_wide_l (x z : Nat) (w : World) : FloatKind.f64.format.order (cres .f32 x .f64 w) z = FloatKind.f64.format.order (cop .f32 x .f64) z := order_congr (wide_sim ..) (Sim.refl ..)
@[simp, go_sem] theorem order_wide_r (x z : Nat) (w : World) : FloatKind.f64.format.order z (cres .f32 x .f64 w) = FloatKind.f64.format.order z (cop .f32 x .f64) := order_congr (Sim.refl ..) (wide_sim ..)
@[simp] theorem fop_wide_l (o : BinOp) (x z : Nat) (w : World) : fop o .f64 (cres .f32 x .f64 w) z = fop o .f64 (cop .f32 x .f64) z := fop_congr (wide_sim ..) (Sim.refl ..)
@[simp] theorem fop_wide_r (o : BinOp) (x z : Nat) (w : World) : fop o .f64 z (cres .f32 x .f64 w) = fop o .f64 z (cop .f32 x .f64) := fop_congr (Sim.refl ..) (wide_sim ..)
theorem cres_lt {s k : FloatKind} {b : Nat} (hb : b < lim s) (w : World) : cres s b k w < lim k := by
  unfold cres
  split
  · rename_i r h; exact (wf_iff k _).1 (floatToFloatBits_wf ((wf_iff s b).2 hb) h)
  · rename_i h
    split
    · exact nanConv_lt k b _
    · rename_i hn
      cases k with
      | f32 => exact Nat.mod_lt _ (by decide)
      | f64 =>
        cases s with
        | f32 => exact absurd (widen_none h) hn
        | f64 => unfold floatToFloatBits at h; rw [if_pos rfl] at h; cases h

/-- two float32 that are the same, widened, in whatever worlds -/
theorem wide_both {x y : Nat} (w w' : World) (h : Sim .f32 x y) : Sim .f64 (cres .f32 x .f64 w) (cres .f32 y .f64 w') := (wide_of w h).trans (wide_sim y w').symm

end Fl
end Go.Proofs.Ytdbcjldengemeaa

namespace Go.Proofs.Ytdbcjldengemeaa
open Go.RowKit Fl
@[go_sem] theorem ext_f32bits (b : Nat) (w : World) : (callFunc 37 #[.float .f32 b]).run Try.prog w = .ok (.value (.int .u32 b)) w := (run_callFunc_extern Try.func37 (by kernel_rfl) (by kernel_rfl) (by kernel_rfl) (e := Extern.MathFloatBits.float32bits) (by kernel_rfl) _ _).trans rfl
@[go_sem] theorem ext_f64bits (b : Nat) (w : World) : (callFunc 28 #[.float .f64 b]).run Try.prog w = .ok (.value (.int .u64 b)) w := (run_callFunc_extern Try.func28 (by kernel_rfl) (by kernel_rfl) (by kernel_rfl) (e := Extern.MathFloatBits.float64bits) (by kernel_rfl) _ _).trans rfl
@[go_sem] theorem ext_f64frombits (b : Int) (w : World) : (callFunc 27 #[.int .u64 b]).run Try.prog w = .ok (.value (.float .f64 b.toNat)) w := (run_callFunc_extern Try.func27 (by kernel_rfl) (by kernel_rfl) (by kernel_rfl) (e := Extern.MathFloatBits.float64frombits) (by kernel_rfl) _ _).trans rfl
end Go.Proofs.Ytdbcjldengemeaa

namespace Go.Proofs.Ytdbcjldengemeaa
open Go.RowKit Fl
/-- the bits of a float32, one NaN standing for all -/
def bitsN (x : Nat) : Int := if isN .f32 x then 2143289344 else x
theorem bitsN_range {x : Nat} (hx : x < 4294967296) : 0 ≤ bitsN x ∧ bitsN x < 4294967296 := by
  unfold bitsN; split <;> omega

theorem l01Bits_any (x : Nat) (hx : x < 4294967296) (w : World) : Calls Try.prog 32 #[.float .f32 x] w fun e w' => e = .returned (.int .i64 (bitsN x)) ∧ w = w' := by
  unfold bitsN
  by_cases hn : isN .f32 x = true
  · have ho := order_nan_l (y := x) hn
    rw [if_pos hn]; clear hn
    go_enter Try.func32, Try.ntmps32
    go_wp2
    go_ret
    exact ⟨rfl, rfl⟩
  · have ho := order_self (by simpa using hn)
    rw [if_neg hn]; clear hn
    go_enter Try.func32, Try.ntmps32
    go_wp2
    go_ret
    exact ⟨rfl, rfl⟩

end Go.Proofs.Ytdbcjldengemeaa

namespace Go.Proofs.Ytdbcjldengemeaa
namespace Fl

theorem and_field (x a n : Nat) : x &&& ((2 ^ n - 1) <<< a) = (x / 2 ^ a % 2 ^ n) * 2 ^ a := by
  rw [← Nat.shiftLeft_eq, ← Nat.shiftRight_eq_div_pow]
  apply Nat.eq_of_testBit_eq
  intro i
  simp only [Nat.testBit_and, Nat.testBit_shiftLeft, Nat.testBit_mod_two_pow, Nat.testBit_shiftRight, Nat.testBit_two_pow_sub_one]
  by_cases h : a ≤ i
  · have : a + (i - a) = i := by omega
    simp only [h, this, decide_true, Bool.true_and]
    rw [Bool.and_comm]
  · simp [h]

theorem i64_and_nat (a b : Nat) (ha : a < 9223372036854775808) (hb : b < 9223372036854775808) : bits .and .i64 (a : Int) (b : Int) = ((a &&& b : Nat) : Int) :=
  (bits_nat .i64 63 (by decide) (fun n h0 h1 => by rw [IntKind.wrap_i64]; omega) a b ha hb).1

/-- the exponent field of a float32's bits -/
theorem and_exp (a : Nat) (ha : a < 4294967296) : bits .and .i64 (a : Int) 2139095040 = ((a / 8388608 % 256 * 8388608 : Nat) : Int) := by
  rw [show (2139095040 : Int) = ((2139095040 : Nat) : Int) from rfl, i64_and_nat a _ (by omega) (by omega)]
  congr 1
  exact and_field a 23 8
/-- its sign bit -/
theorem and_sign (a : Nat) (ha : a < 4294967296) : bits .and .i64 (a : Int) 2147483648 = ((a / 2147483648 * 2147483648 : Nat) : Int) := by
  rw [show (2147483648 : Int) = ((2147483648 : Nat) : Int) from rfl, i64_and_nat a _ (by omega) (by omega)]
  congr 1
  have := and_field a 31 1
  rw [show (2 ^ 1 - 1) <<< 31 = 2147483648 from rfl, show 2 ^ 31 = 2147483648 from rfl, show 2 ^ 1 = 2 from rfl] at this
  rw [this]
  have : a / 2147483648 % 2 = a / 2147483648 := Nat.mod_eq_of_lt (by omega)
  rw [this]

/-- a float64's bits without the sign bit -/
theorem andNot_sign (a : Nat) (ha : a < 18446744073709551616) : bits .andNot .u64 (a : Int) 9223372036854775808 = ((a % 9223372036854775808 : Nat) : Int) := by
  rw [show (9223372036854775808 : Int) = ((9223372036854775808 : Nat) : Int) from rfl, u64_andNot_nat a _ ha (by omega)]
  congr 1
  exact Nat.and_two_pow_sub_one_eq_mod a 63
theorem u64_sign (a : Nat) (ha : a < 18446744073709551616) : bits .and .u64 (a : Int) 9223372036854775808 = ((a / 9223372036854775808 * 9223372036854775808 : Nat) : Int) := by
  rw [show (9223372036854775808 : Int) = ((9223372036854775808 : Nat) : Int) from rfl, u64_and_nat a _ ha (by omega)]
  congr 1
  have := and_field a 63 1
  rw [show (2 ^ 1 - 1) <<< 63 = 9223372036854775808 from rfl, show 2 ^ 63 = 9223372036854775808 from rfl, show 2 ^ 1 = 2 from rfl] at this
  rw [this]
  have : a / 9223372036854775808 % 2 = a / 9223372036854775808 := Nat.mod_eq_of_lt (by omega)
  rw [this]
theorem or_zero_u64 (a : Nat) (ha : a < 18446744073709551616) : bits .or .u64 0 (a : Int) = (a : Int) := by
  rw [show (0 : Int) = ((0 : Nat) : Int) from rfl, u64_or_nat 0 a (by omega) ha]
  simp

end Fl
end Go.Proofs.Ytdbcjldengemeaa

namespace Go.Proofs.Ytdbcjldengemeaa
open Go.RowKit Fl
theorem Abs_any (x : Nat) (hx : x < 18446744073709551616) (w : World) : Calls Try.prog 16 #[.float .f64 x] w fun e w' => e = .returned (.float .f64 (x % 9223372036854775808)) ∧ w = w' := by
  have hb := andNot_sign x hx
  go_enter Try.func16, Try.ntmps16
  go_wp2
  go_ret
  exact ⟨rfl, rfl⟩
end Go.Proofs.Ytdbcjldengemeaa

namespace Go.Proofs.Ytdbcjldengemeaa
namespace Fl
open Ieee

/-- finite, and at most 2^(e - 1023) in magnitude -/
def Bd (e x : Nat) : Prop := ∃ s r, x = double.word s r ∧ r < double.infRung ∧ mval double r ≤ 2 ^ (51 + e)
/-- finite, positive, at least 2^(e - 1023) -/
def Lb (e x : Nat) : Prop := ∃ r, x = double.word false r ∧ r < double.infRung ∧ 2 ^ (51 + e) ≤ mval double r

theorem mval_pow {c : Nat} (h : 1 ≤ c) : mval double (c * double.binade) = 2 ^ (51 + c) := by
  have hB := binade_pos double
  unfold mval
  have h1 : ¬ c * double.binade < double.binade := by
    have := Nat.mul_le_mul_right double.binade h; omega
  rw [if_neg h1, Nat.mul_mod_left, Nat.mul_div_cancel _ hB, Nat.add_zero]
  have : double.binade = 2 ^ 52 := rfl
  rw [this, ← Nat.pow_add]
  congr 1; omega
theorem inf64 : double.infRung = 2047 * double.binade := rfl
theorem pow_rung_lt {c : Nat} (h : c ≤ 2046) : c * double.binade < double.infRung := by
  rw [inf64]; exact Nat.mul_lt_mul_of_pos_right (by omega) (binade_pos _)

theorem Bd.mono {a b x : Nat} (h : Bd a x) (hab : a ≤ b) : Bd b x := by
  obtain ⟨s, r, h1, h2, h3⟩ := h
  exact ⟨s, r, h1, h2, Nat.le_trans h3 (Nat.pow_le_pow_right (by omega) (by omega))⟩

theorem bd_nearest (neg : Bool) {m d b c : Nat} (hc : 1 ≤ c) (hc2 : c ≤ 2046) (h : m * 2 ^ d ≤ 2 ^ (51 + c) * 2 ^ b) : Bd c (double.nearest neg m (double.leastPlace + d - b)) := by
  rw [← mval_pow hc] at h
  obtain ⟨r, hr, e⟩ := nearest_le double neg h
  refine ⟨neg, r, e, Nat.lt_of_le_of_lt hr (pow_rung_lt hc2), ?_⟩
  rw [← mval_pow hc]
  exact mval_le hr
theorem bd_nearest0 (neg : Bool) {m d c : Nat} (hc : 1 ≤ c) (hc2 : c ≤ 2046) (h : m * 2 ^ d ≤ 2 ^ (51 + c)) : Bd c (double.nearest neg m (double.leastPlace + d)) := by
  have := bd_nearest neg (m := m) (d := d) (b := 0) hc hc2 (by rw [Nat.pow_zero, Nat.mul_one]; exact h)
  simpa using this

theorem fop_of {op : BinOp} {k : FloatKind} {x y r : Nat} (h : floatBits op k x y = some r) : fop op k x y = r := by unfold fop; rw [h]; rfl

theorem sv_abs (s : Bool) (v : Nat) : (sv s v).natAbs = v := by unfold sv; cases s <;> simp

theorem add_bd {a b c x y : Nat} (hx : Bd a x) (hy : Bd b y) (ha : a < c) (hb : b < c) (hc : c ≤ 2046) : Bd c (fop .add .f64 x y) := by
  obtain ⟨s, r, rfl, hr, hv⟩ := hx
  obtain ⟨t, q, rfl, hq, hu⟩ := hy
  obtain ⟨T, D, e, he⟩ := add_words double s t hr hq
  rw [fop_of (op := .add) (k := .f64) e]
  refine bd_nearest0 _ (by omega) hc ?_
  rw [he]
  have h1 : (sv s (mval double r) + sv t (mval double q)).natAbs ≤ mval double r + mval double q := by
    have := Int.natAbs_add_le (sv s (mval double r)) (sv t (mval double q)); rw [sv_abs, sv_abs] at this; exact this
  have h2 : 2 ^ (51 + a) ≤ 2 ^ (51 + (c - 1)) := Nat.pow_le_pow_right (by omega) (by omega)
  have h3 : 2 ^ (51 + b) ≤ 2 ^ (51 + (c - 1)) := Nat.pow_le_pow_right (by omega) (by omega)
  have h4 : 2 ^ (51 + c) = 2 * 2 ^ (51 + (c - 1)) := by rw [← Nat.pow_succ']; congr 1; omega
  generalize mval double r = A at *
  generalize mval double q = B at *
  generalize 2 ^ (51 + (c - 1)) = P at *
  omega
theorem sub_bd {a b c x y : Nat} (hx : Bd a x) (hy : Bd b y) (ha : a < c) (hb : b < c) (hc : c ≤ 2046) : Bd c (fop .sub .f64 x y) := by
  obtain ⟨s, r, rfl, hr, hv⟩ := hx
  obtain ⟨t, q, rfl, hq, hu⟩ := hy
  obtain ⟨T, D, e, he⟩ := sub_words double s t hr hq
  rw [fop_of (op := .sub) (k := .f64) e]
  refine bd_nearest0 _ (by omega) hc ?_
  rw [he]
  have h1 : (sv s (mval double r) - sv t (mval double q)).natAbs ≤ mval double r + mval double q := by
    have := Int.natAbs_sub_le (sv s (mval double r)) (sv t (mval double q)); rw [sv_abs, sv_abs] at this; exact this
  have h2 : 2 ^ (51 + a) ≤ 2 ^ (51 + (c - 1)) := Nat.pow_le_pow_right (by omega) (by omega)
  have h3 : 2 ^ (51 + b) ≤ 2 ^ (51 + (c - 1)) := Nat.pow_le_pow_right (by omega) (by omega)
  have h4 : 2 ^ (51 + c) = 2 * 2 ^ (51 + (c - 1)) := by rw [← Nat.pow_succ']; congr 1; omega
  generalize mval double r = A at *
  generalize mval double q = B at *
  generalize 2 ^ (51 + (c - 1)) = P at *
  omega

theorem least64 : ((1074 : Nat) : Int) = - double.leastPlace := by rw [P64]; rfl
theorem mul_bd {a b c x y : Nat} (hx : Bd a x) (hy : Bd b y) (h : a + b ≤ c + 1023) (h1 : 1 ≤ c) (hc : c ≤ 2046) : Bd c (fop .mul .f64 x y) := by
  obtain ⟨s, r, rfl, hr, hv⟩ := hx
  obtain ⟨t, q, rfl, hq, hu⟩ := hy
  obtain ⟨K, hK⟩ : ∃ K : Nat, K = 1074 := ⟨_, rfl⟩
  obtain ⟨T, D, e, he⟩ := mul_words double s t (b := K) (by rw [hK]; exact least64) hr hq
  rw [fop_of (op := .mul) (k := .f64) e]
  refine bd_nearest _ h1 hc ?_
  rw [he]
  refine Nat.le_trans (Nat.mul_le_mul hv hu) ?_
  rw [← Nat.pow_add, ← Nat.pow_add]
  exact Nat.pow_le_pow_right (by omega) (by omega)

/-- the quotient of two finite words -/
theorem div_words (f : Format) (s t : Bool) {r q : Nat} (hr : r < f.infRung) (hq : q < f.infRung) (hq0 : mval f q ≠ 0) :
    ∃ (m d n e more : Nat), m * 2 ^ d = mval f r ∧ n * 2 ^ e = mval f q ∧ n ≠ 0 ∧ (m ≠ 0 → n ≤ m * 2 ^ more) ∧
      f.div (f.word s r) (f.word t q) = some (f.nearest (s ^^ t) (2 * (m * 2 ^ more / n) + (m * 2 ^ more % n != 0).toNat) ((d : Int) - e - more - 1)) := by
  obtain ⟨m, d, e1, e2, _, _⟩ := read_num f s hr
  obtain ⟨n, e, g1, g2, _, _⟩ := read_num f t hq
  have hn : n ≠ 0 := by
    intro h; rw [h, Nat.zero_mul] at g2; exact hq0 g2.symm
  refine ⟨m, d, n, e, f.fractionBits + 2 + n.log2 - m.log2, e2, g2, hn, fun hm => ?_, ?_⟩
  · have h1 := (log2_bounds hm).1
    have h2 := (log2_bounds hn).2
    have h3 : 2 ^ (n.log2 + 1) ≤ 2 ^ (m.log2 + (f.fractionBits + 2 + n.log2 - m.log2)) := Nat.pow_le_pow_right (by omega) (by omega)
    rw [Nat.pow_add 2 m.log2] at h3
    have h4 := Nat.mul_le_mul_right (2 ^ (f.fractionBits + 2 + n.log2 - m.log2)) h1
    omega
  unfold Format.div
  rw [e1, g1]
  simp only [Datum.quotient, if_neg hn, Option.map_some, Format.write, Nat.shiftLeft_eq]
  congr 2
  omega

theorem quot_le {D n t : Nat} (hn : n ≠ 0) (h : D ≤ n * 2 ^ t) : 2 * (D / n) + (D % n != 0).toNat ≤ 2 ^ (t + 1) := by
  have hd := Nat.div_add_mod D n
  have h1 : D / n ≤ 2 ^ t := by
    have : D / n ≤ n * 2 ^ t / n := Nat.div_le_div_right h
    rwa [Nat.mul_div_cancel_left _ (by omega)] at this
  rw [Nat.pow_succ]
  have hb : (D % n != 0).toNat ≤ 1 := by cases (D % n != 0) <;> simp
  rcases Nat.lt_or_eq_of_le h1 with g | g
  · omega
  · have : D % n = 0 := by rw [g] at hd; omega
    rw [this, g]; simp; omega

theorem quo_bd {a b c x y : Nat} (hx : Bd a x) (hy : Lb b y) (h : a + 1023 ≤ c + b) (h1 : 1 ≤ c) (hc : c ≤ 2046) : Bd c (fop .quo .f64 x y) := by
  obtain ⟨s, r, rfl, hr, hv⟩ := hx
  obtain ⟨q, hy, hq, hu⟩ := hy
  rw [hy]
  have hp := Nat.two_pow_pos (51 + b)
  obtain ⟨m, d, n, e, more, h2, h3, h4, hbig, h5⟩ := div_words double s false hr hq (by omega)
  rw [fop_of (op := .quo) (k := .f64) h5]
  -- in units: the place is least + (d + 1074) - (e + more + 1)
  obtain ⟨K, hK⟩ : ∃ K : Nat, K = 1074 := ⟨_, rfl⟩
  have hpl : ((d : Int) - e - more - 1) = double.leastPlace + ((d + K : Nat) : Int) - ((e + more + 1 : Nat) : Int) := by rw [P64]; omega
  rw [hpl]
  refine bd_nearest _ h1 hc ?_
  -- m * 2^d ≤ 2^(51+a), n * 2^e ≥ 2^(51+b)
  rw [← h2] at hv
  rw [← h3] at hu
  -- the dividend over n is at most 2^t, where t is what makes both sides meet
  have key : m * 2 ^ more * 2 ^ (d + K) ≤ n * (2 ^ (51 + c) * 2 ^ (e + more)) := by
    have e1 : m * 2 ^ more * 2 ^ (d + K) = m * 2 ^ d * 2 ^ (more + K) := by rw [Nat.mul_assoc, Nat.mul_assoc, ← Nat.pow_add, ← Nat.pow_add]; congr 2; omega
    have e2 : n * (2 ^ (51 + c) * 2 ^ (e + more)) = n * 2 ^ e * 2 ^ (51 + c + more) := by rw [Nat.mul_assoc, ← Nat.pow_add, ← Nat.pow_add]; congr 2; omega
    rw [e1, e2]
    refine Nat.le_trans (Nat.mul_le_mul_right _ hv) (Nat.le_trans ?_ (Nat.mul_le_mul_right _ hu))
    rw [← Nat.pow_add, ← Nat.pow_add]
    exact Nat.pow_le_pow_right (by omega) (by omega)
  by_cases ht : d + K ≤ 51 + c + (e + more)
  · obtain ⟨t, ht'⟩ : ∃ t, 51 + c + (e + more) = d + K + t := ⟨51 + c + (e + more) - (d + K), by omega⟩
    have h6 : m * 2 ^ more ≤ n * 2 ^ t := by
      have e3 : 2 ^ (51 + c) * 2 ^ (e + more) = 2 ^ t * 2 ^ (d + K) := by rw [← Nat.pow_add, ht', ← Nat.pow_add]; congr 1; omega
      rw [e3, ← Nat.mul_assoc] at key
      exact Nat.le_of_mul_le_mul_right key (Nat.two_pow_pos _)
    refine Nat.le_trans (Nat.mul_le_mul_right _ (quot_le h4 h6)) ?_
    rw [← Nat.pow_add, ← Nat.pow_add]
    exact Nat.pow_le_pow_right (by omega) (by omega)
  · -- the quotient is below one: nothing is left of it but what is told of the rest
    obtain ⟨t, ht'⟩ : ∃ t, d + K = 51 + c + (e + more) + (t + 1) := ⟨d + K - (51 + c + (e + more)) - 1, by omega⟩
    have h6 : m * 2 ^ more * 2 ^ (t + 1) ≤ n := by
      have e3 : 2 ^ (51 + c) * 2 ^ (e + more) = 2 ^ (51 + c + (e + more)) := by rw [← Nat.pow_add]
      have e4 : 2 ^ (d + K) = 2 ^ (t + 1) * 2 ^ (51 + c + (e + more)) := by rw [ht', ← Nat.pow_add]; congr 1; omega
      rw [e3, e4, ← Nat.mul_assoc] at key
      exact Nat.le_of_mul_le_mul_right key (Nat.two_pow_pos _)
    by_cases hm0 : m = 0
    · subst hm0; simp
    · exfalso
      have h7 := hbig hm0
      have h8 : m * 2 ^ more * 2 ≤ m * 2 ^ more * 2 ^ (t + 1) := Nat.mul_le_mul_left _ (by rw [Nat.pow_succ]; have := Nat.two_pow_pos t; omega)
      have h9 : 0 < m * 2 ^ more := Nat.mul_pos (by omega) (Nat.two_pow_pos _)
      omega


/-! ### lower bounds -/
theorem cut_ge (neg : Bool) {n drop u : Nat} (h : u * 2 ^ drop ≤ n) : u ≤ Toward.even.cut neg n drop := by
  by_cases hu : u = 0
  · omega
  · have hn : n ≠ 0 := by
      intro e; rw [e] at h
      have := Nat.mul_pos (show 0 < u by omega) (Nat.two_pow_pos drop); omega
    have hd : drop ≤ n.log2 := by
      rw [Nat.le_log2 hn]
      refine Nat.le_trans ?_ h
      exact Nat.le_mul_of_pos_left _ (by omega)
    have hm : min drop (n.log2 + 2) = drop := by omega
    unfold Toward.cut
    simp only [hm, Nat.one_shiftLeft]
    have : u ≤ n / 2 ^ drop := (Nat.le_div_iff_mul_le (Nat.two_pow_pos _)).2 h
    omega

/-- ROUNDING KEEPS A LOWER BOUND that is a power of two. -/
theorem nearest_ge_pow (f : Format) (neg : Bool) {m d b c : Nat} (hc : 1 ≤ c) (hci : c * f.binade ≤ f.infRung) (h : 2 ^ (f.fractionBits + (c - 1)) * 2 ^ b ≤ m * 2 ^ d) :
    ∃ r', c * f.binade ≤ r' ∧ r' ≤ f.infRung ∧ f.nearest neg m (f.leastPlace + d - b) = f.word neg r' := by
  unfold Format.nearest
  have hpb := Nat.two_pow_pos b
  have hpd := Nat.two_pow_pos d
  have hm : m ≠ 0 := by
    intro e; subst e
    have := Nat.mul_pos (Nat.two_pow_pos (f.fractionBits + (c - 1))) hpb
    omega
  rw [if_neg hm]
  obtain ⟨hL1, hL2⟩ := log2_bounds hm
  generalize m.log2 = L at *
  have hlo : 2 ^ (L + d) ≤ m * 2 ^ d := by rw [Nat.pow_add]; exact Nat.mul_le_mul_right _ hL1
  have hhi : m * 2 ^ d < 2 ^ (L + 1 + d) := by rw [Nat.pow_add]; exact (Nat.mul_lt_mul_right hpd).2 hL2
  have hB : f.binade = 2 ^ f.fractionBits := rfl
  have hexp : f.fractionBits + (c - 1) + b < L + 1 + d := by
    refine exp_lt (x := m * 2 ^ d) ?_ hhi
    rw [Nat.pow_add]; exact h
  obtain ⟨t, ht⟩ : ∃ t, L + d = f.fractionBits + b + t := ⟨L + d - (f.fractionBits + b), by omega⟩
  have hlast : (max (f.leastPlace + d - b + L - f.fractionBits) f.leastPlace : Int) = f.leastPlace + t := by omega
  simp only [hlast]
  have e1 : (f.leastPlace + (t : Int) - f.leastPlace).toNat = t := by omega
  rw [e1]
  have hcut : f.binade ≤ Toward.even.cut neg (m <<< (f.leastPlace + d - b - (f.leastPlace + t)).toNat) (f.leastPlace + t - (f.leastPlace + d - b)).toNat := by
    have hu : f.binade * 2 ^ (t + b) ≤ m * 2 ^ d := by
      rw [hB, ← Nat.pow_add]
      refine Nat.le_trans ?_ hlo
      exact Nat.pow_le_pow_right (by omega) (by omega)
    by_cases hdt : t + b ≤ d
    · have e2 : (f.leastPlace + d - b - (f.leastPlace + t) : Int).toNat = d - (t + b) := by omega
      have e3 : (f.leastPlace + t - (f.leastPlace + d - b) : Int).toNat = 0 := by omega
      rw [e2, e3, Nat.shiftLeft_eq]
      refine cut_ge neg ?_
      rw [Nat.pow_zero, Nat.mul_one]
      have h2 : f.binade * 2 ^ (t + b) ≤ m * 2 ^ (d - (t + b)) * 2 ^ (t + b) := by rw [Nat.mul_assoc, ← Nat.pow_add, Nat.sub_add_cancel hdt]; exact hu
      exact Nat.le_of_mul_le_mul_right h2 (Nat.two_pow_pos _)
    · have e2 : (f.leastPlace + d - b - (f.leastPlace + t) : Int).toNat = 0 := by omega
      have e3 : (f.leastPlace + t - (f.leastPlace + d - b) : Int).toNat = t + b - d := by omega
      rw [e2, e3, Nat.shiftLeft_eq]
      refine cut_ge neg ?_
      rw [Nat.pow_zero, Nat.mul_one]
      have h2 : f.binade * 2 ^ (t + b - d) * 2 ^ d ≤ m * 2 ^ d := by rw [Nat.mul_assoc, ← Nat.pow_add, Nat.sub_add_cancel (by omega)]; exact hu
      exact Nat.le_of_mul_le_mul_right h2 hpd
  refine ⟨_, ?_, Nat.min_le_right .., rfl⟩
  rw [Nat.le_min]
  refine ⟨?_, hci⟩
  have : (c - 1) * f.binade ≤ t * f.binade := Nat.mul_le_mul_right _ (by omega)
  have h3 : (c - 1) * f.binade + f.binade = c * f.binade := by rw [← Nat.succ_mul]; congr 1; omega
  omega

/-- finite, not negative, at most 2^(e - 1023) -/
def Nb (e x : Nat) : Prop := ∃ r, x = double.word false r ∧ r < double.infRung ∧ mval double r ≤ 2 ^ (51 + e)
theorem Nb.bd {e x : Nat} (h : Nb e x) : Bd e x := by obtain ⟨r, h1, h2, h3⟩ := h; exact ⟨false, r, h1, h2, h3⟩
theorem Lb.bd {e x : Nat} (h : Lb e x) : ∃ r, x = double.word false r ∧ r < double.infRung := by obtain ⟨r, h1, h2, _⟩ := h; exact ⟨r, h1, h2⟩
theorem Lb.mono {a b x : Nat} (h : Lb a x) (hab : b ≤ a) : Lb b x := by
  obtain ⟨r, h1, h2, h3⟩ := h
  exact ⟨r, h1, h2, Nat.le_trans (Nat.pow_le_pow_right (by omega) (by omega)) h3⟩

/-- a sum with one that is at least 2^(b - 1023), the other not negative -/
theorem add_lb {a b c x y : Nat} (hx : Lb b x) (hxa : Bd a x) (hy : Nb a y) (hb : 1 ≤ b) (ha : a < c) (hc : c ≤ 2046) : Lb b (fop .add .f64 x y) ∧ Bd c (fop .add .f64 x y) := by
  have hbd := add_bd hxa hy.bd ha ha hc
  refine ⟨?_, hbd⟩
  obtain ⟨r, hx', hr, hv⟩ := hx
  obtain ⟨q, hy', hq, hu⟩ := hy
  rw [hx', hy'] at hbd ⊢
  obtain ⟨T, D, e, he⟩ := add_words double false false hr hq
  rw [fop_of (op := .add) (k := .f64) e] at hbd ⊢
  have hsum : (sv false (mval double r) + sv false (mval double q)).natAbs = mval double r + mval double q := by unfold sv; simp; omega
  rw [hsum] at he
  have hp := Nat.two_pow_pos (51 + b)
  have hneg : (if sv false (mval double r) + sv false (mval double q) = 0 then false && false else decide (sv false (mval double r) + sv false (mval double q) < 0)) = false := by
    unfold sv; simp only [Bool.false_eq_true, ↓reduceIte, Bool.and_false]
    split
    · rfl
    · exact decide_eq_false (by omega)
  rw [hneg] at hbd ⊢
  have hb2 : b ≤ 2046 := by
    have h1 : mval double r < mval double (2047 * double.binade) := mval_lt hr
    rw [mval_pow (by omega)] at h1
    have := exp_lt (a := 51 + b) (b := 51 + 2047) hv h1
    omega
  obtain ⟨r', hr', hri, e'⟩ := nearest_ge_pow double false (m := T) (d := D) (b := 0) (c := b) hb (by rw [inf64]; exact Nat.mul_le_mul_right _ (by omega)) (by
    rw [he, Nat.pow_zero, Nat.mul_one]
    have : double.fractionBits + (b - 1) = 51 + b := by show 52 + (b - 1) = _; omega
    rw [this]; omega)
  have e'' : double.nearest false T (double.leastPlace + (D : Int)) = double.word false r' := by rw [← e']; congr 1; omega
  rw [e''] at hbd ⊢
  obtain ⟨s2, r2, e2, hr2, _⟩ := hbd
  have hsw : ∀ {z : Nat}, z ≤ double.infRung → z < double.signWeight := fun h => Nat.lt_of_le_of_lt h double.infRung_lt
  have : r' = r2 := by
    have h1 := word_rung (f := double) (s := false) (hsw hri)
    have h2 := word_rung (f := double) (s := s2) (hsw (Nat.le_of_lt hr2))
    rw [e2, h2] at h1; exact h1.symm
  exact ⟨r', rfl, by rw [this]; exact hr2, by rw [← mval_pow hb]; exact mval_le hr'⟩

/-! ### narrowing -/
theorem mval_pow32 {c : Nat} (h : 1 ≤ c) : mval single (c * single.binade) = 2 ^ (22 + c) := by
  have hB := binade_pos single
  unfold mval
  have h1 : ¬ c * single.binade < single.binade := by
    have := Nat.mul_le_mul_right single.binade h; omega
  rw [if_neg h1, Nat.mul_mod_left, Nat.mul_div_cancel _ hB, Nat.add_zero]
  have : single.binade = 2 ^ 23 := rfl
  rw [this, ← Nat.pow_add]
  congr 1; omega
theorem narrow_bd {e x : Nat} (h : Bd e x) (he : e ≤ 1149) : ∃ s r, r < single.infRung ∧ floatToFloatBits .f64 x .f32 = some (single.word s r) := by
  obtain ⟨s, q, rfl, hq, hv⟩ := h
  obtain ⟨m, d, e1, e2, _, _⟩ := read_num double s hq
  obtain ⟨K, hK⟩ : ∃ K : Nat, K = 925 := ⟨_, rfl⟩
  obtain ⟨C, hC⟩ : ∃ C : Nat, C = 253 := ⟨_, rfl⟩
  have hpl : double.leastPlace + (d : Int) = single.leastPlace + (d : Int) - (K : Int) := by rw [P64, P32, hK]; omega
  have hle : m * 2 ^ d ≤ mval single (C * single.binade) * 2 ^ K := by
    rw [e2, mval_pow32 (by omega), ← Nat.pow_add]
    refine Nat.le_trans hv (Nat.pow_le_pow_right (by omega) (by omega))
  obtain ⟨r, hr, e3⟩ := nearest_le single s hle
  have hri : r < single.infRung := by
    have : single.infRung = 255 * single.binade := rfl
    rw [this]
    exact Nat.lt_of_le_of_lt hr (Nat.mul_lt_mul_of_pos_right (by omega) (binade_pos _))
  refine ⟨s, r, hri, ?_⟩
  unfold floatToFloatBits
  rw [if_neg (by decide)]
  have hd2 : FloatKind.f64.decode (double.word s q) = .number s m (double.leastPlace + d) := e1
  rw [hd2, hpl]
  simp only [FloatKind.encode, fmt32, Format.write, e3]
  rw [if_neg]
  obtain ⟨m', d', e', _⟩ := read_num single s hri
  simp only [FloatKind.decode, fmt32, e', Datum.isInfinity]
  simp

end Fl
end Go.Proofs.Ytdbcjldengemeaa

namespace Go.Proofs.Ytdbcjldengemeaa
open Go.RowKit Fl Ieee
namespace Fl
/-- the root, one NaN standing for all -/
def sop (x : Nat) : Nat := (double.sqrt x).getD (qn .f64)
def sres (x : Nat) (w : World) : Nat :=
  match double.sqrt x with
  | some r => r
  | none => (Question.nanBits .f64 x x).cut (w.tape w.drawn (.nanBits .f64 x x))
def scnt (x : Nat) : Nat := if (double.sqrt x).isSome then 0 else 1
theorem sres_sim (x : Nat) (w : World) : Sim .f64 (sres x w) (sop x) := by
  unfold sres sop
  cases h : double.sqrt x with
  | some r => exact .inl rfl
  | none => exact .inr ⟨nanBits_isN .f64 x x _, isN_qn _⟩
theorem sqrt_nan {x : Nat} (h : isN .f64 x = true) : double.sqrt x = none := by
  obtain ⟨s, t, e⟩ := (isN_iff _ _).1 h
  have h' : double.read x = .nan s t := e
  unfold Format.sqrt; rw [h']; rfl
theorem sop_congr {x y : Nat} (h : Sim .f64 x y) : sop x = sop y := by
  rcases h with rfl | ⟨a, b⟩
  · rfl
  · unfold sop; rw [sqrt_nan a, sqrt_nan b]
theorem sres_of {x y : Nat} (w : World) (h : Sim .f64 x y) : Sim .f64 (sres x w) (sop y) := by
  rw [← sop_congr h]; exact sres_sim x w
end Fl

@[go_sem] theorem ext_sqrt (x : Nat) (w : World) : (callFunc 33 #[.float .f64 x]).run Try.prog w = .ok (.value (.float .f64 (sres x w))) (w.drewN (scnt x)) := by
  refine (run_callFunc_extern Try.func33 (by kernel_rfl) (by kernel_rfl) (by kernel_rfl) (e := Extern.MathSqrt.sqrt) (by kernel_rfl) _ _).trans ?_
  have hf : Extern.MathSqrt.sqrt #[.float .f64 x] = (match double.sqrt x with | some r => pure (.float .f64 r) | none => do pure (.float .f64 (← choose (.nanBits .f64 x x)))) := rfl
  rw [hf]
  cases h : double.sqrt x with
  | some r => simp [h, sres, scnt, World.drewN_zero]
  | none => simp [h, sres, scnt, Question.forced, World.drew_is_drewN]
theorem Sqrt_any (x : Nat) (w : World) : Calls Try.prog 29 #[.float .f64 x] w fun e w' => e = .returned (.float .f64 (sres x w)) ∧ w' = w.drewN (scnt x) := by
  go_enter Try.func29, Try.ntmps29
  go_wp2
  go_ret
  exact ⟨rfl, rfl⟩

namespace Fl
/-! ### narrowing that cannot overflow -/
/-- a NaN, or a number (or an infinity) that a float32 holds -/
def Nar (x : Nat) : Prop := isN .f64 x = true ∨ ∃ r, floatToFloatBits .f64 x .f32 = some r
theorem Nar.congr {x y : Nat} (h : Sim .f64 x y) (hn : Nar y) : Nar x := by
  rcases h with rfl | ⟨a, _⟩
  · exact hn
  · exact .inl a
theorem nar_sim {x y : Nat} (w : World) (h : Sim .f64 x y) (hn : Nar y) : Sim .f32 (cres .f64 x .f32 w) (cop .f64 y .f32) := by
  by_cases hx : isN .f64 y = true
  · refine .inr ⟨cres_nan w (by decide) (by rw [h.isN_eq]; exact hx), ?_⟩
    rw [cop_nan (by decide) hx]; exact isN_qn _
  · obtain ⟨r, hr⟩ := hn.resolve_left hx
    rcases h with rfl | ⟨_, b⟩
    · rw [cres_some w hr]; unfold cop; rw [hr]; exact .inl rfl
    · exact absurd b hx
theorem nar_of_bd {e x : Nat} (h : Bd e x) (he : e ≤ 1149) : Nar x := by
  obtain ⟨s, r, _, e⟩ := narrow_bd h he
  exact .inr ⟨_, e⟩
theorem nar_inf (s : Bool) : Nar (double.word s double.infRung) := by
  refine .inr ⟨single.word s single.infRung, ?_⟩
  cases s <;> decide +kernel

/-! ### a widened number -/
theorem wide_kinds {x : Nat} (hx : x < 4294967296) : (isN .f32 x = false ∧ Bd 1151 (cop .f32 x .f64)) ∨ (∃ s, cop .f32 x .f64 = double.word s double.infRung) ∨ (isN .f32 x = true ∧ cop .f32 x .f64 = qn .f64) := by
  rcases kinds .f32 (w := x) hx with ⟨s, r, hr, rfl⟩ | ⟨s, rfl⟩ | h
  · left
    rw [fmt32] at *
    refine ⟨isN_word .f32 s (Nat.le_of_lt hr), ?_⟩
    obtain ⟨K, hK⟩ : ∃ K : Nat, K = 925 := ⟨_, rfl⟩
    obtain ⟨q, hq, hv, e⟩ := widen_word s hK (by rw [I32] at hr; exact hr)
    unfold cop; rw [e]
    obtain ⟨E, hE⟩ : ∃ E : Nat, E = 1151 := ⟨_, rfl⟩
    rw [← hE]
    refine ⟨s, q, rfl, by rw [I64]; exact hq, ?_⟩
    rw [hv]
    obtain ⟨C, hC⟩ : ∃ C : Nat, C = 255 := ⟨_, rfl⟩
    have hi : single.infRung = C * single.binade := by rw [hC]; rfl
    have h1 : mval single r ≤ mval single (C * single.binade) := by rw [← hi]; exact mval_le (Nat.le_of_lt hr)
    rw [mval_pow32 (by omega)] at h1
    refine Nat.le_trans (Nat.mul_le_mul_right _ h1) ?_
    rw [← Nat.pow_add]
    clear h1 hv e
    exact Nat.pow_le_pow_right (by omega) (by omega)
  · right; left
    refine ⟨s, ?_⟩
    unfold cop; rw [fmt32, widen_inf]; rfl
  · right; right
    exact ⟨h, cop_nan (by decide) h⟩

/-! ### the bound of a root -/
theorem rootFrom_le (n : Nat) : ∀ todo root, root * root ≤ n → Datum.rootFrom n todo root * Datum.rootFrom n todo root ≤ n
  | 0, root, h => h
  | todo + 1, root, h => by
    rw [Datum.rootFrom]
    split
    · exact rootFrom_le n todo _ (by assumption)
    · exact rootFrom_le n todo _ h

theorem sqrt_neg {x : Nat} {r : Nat} (hx : x = double.word true r) (hr : r < double.infRung) (h0 : mval double r ≠ 0) : double.sqrt x = none := by
  obtain ⟨m, d, e1, e2, _, _⟩ := read_num double true hr
  have hm : m ≠ 0 := by intro e; rw [e, Nat.zero_mul] at e2; exact h0 e2.symm
  unfold Format.sqrt; rw [hx, e1]
  simp only [Datum.root, if_neg hm]; rfl

theorem sqrt_bd {e c x : Nat} (h : Bd e x) (ho : e % 2 = 1) (hc : e + 1023 ≤ 2 * c) (hc1 : 1 ≤ c) (hc2 : c ≤ 2046) : isN .f64 (sop x) = true ∨ Bd c (sop x) := by
  obtain ⟨s, r, rfl, hr, hv⟩ := h
  obtain ⟨m, d, e1, e2, _, _⟩ := read_num double s hr
  by_cases hm : m = 0
  · right
    have : double.sqrt (double.word s r) = some (double.nearest s 0 (double.leastPlace + d)) := by
      unfold Format.sqrt; rw [e1]; subst hm; rfl
    unfold sop; rw [this]
    exact bd_nearest0 s hc1 hc2 (by simp)
  · cases s with
    | true =>
      left
      have := sqrt_neg (x := double.word true r) rfl hr (by rw [← e2]; exact Nat.ne_of_gt (Nat.mul_pos (by omega) (Nat.two_pow_pos _)))
      unfold sop; rw [this]; exact isN_qn _
    | false =>
      right
      obtain ⟨K, hK⟩ : ∃ K : Nat, K = 537 := ⟨_, rfl⟩
      have hP : double.leastPlace = -2 * (K : Int) := by rw [P64]; omega
      obtain ⟨more, hpar, hs⟩ : ∃ more : Nat, ((d : Int) - more) % 2 = 0 ∧ double.sqrt (double.word false r) = some (double.nearest false (2 * Datum.rootFrom (m * 2 ^ more) ((m * 2 ^ more).log2 / 2 + 1) 0 + (Datum.rootFrom (m * 2 ^ more) ((m * 2 ^ more).log2 / 2 + 1) 0 * Datum.rootFrom (m * 2 ^ more) ((m * 2 ^ more).log2 / 2 + 1) 0 != m * 2 ^ more).toNat) ((double.leastPlace + d - more) / 2 - 1)) := by
        refine ⟨2 * (double.fractionBits + 2) - m.log2 + ((double.leastPlace + d - (2 * (double.fractionBits + 2) - m.log2 : Nat)) % 2).toNat, ?_, ?_⟩
        · rw [hP]; generalize (2 * (double.fractionBits + 2) - m.log2 : Nat) = M; omega
        · unfold Format.sqrt; rw [e1]
          simp only [Datum.root, if_neg hm, Nat.shiftLeft_eq]
          rfl
      rw [show sop (double.word false r) = _ from by unfold sop; rw [hs, Option.getD_some]]
      generalize hn : m * 2 ^ more = n at *
      have hw := rootFrom_le n (n.log2 / 2 + 1) 0 (by omega)
      generalize Datum.rootFrom n (n.log2 / 2 + 1) 0 = whole at *
      have hde : d ≤ 51 + e := by
        rcases Nat.lt_or_ge (51 + e) d with g | g
        · have h1 : 2 ^ d ≤ m * 2 ^ d := Nat.le_mul_of_pos_left _ (by omega)
          have h2 : 2 ^ (51 + e) < 2 ^ d := Nat.pow_lt_pow_right (by omega) g
          omega
        · exact g
      obtain ⟨t, ht⟩ : ∃ t, 51 + e - d + more = 2 * t := ⟨(51 + e - d + more) / 2, by omega⟩
      have hnt : n ≤ 2 ^ t * 2 ^ t := by
        rw [← Nat.pow_add, ← hn]
        have h1 : m ≤ 2 ^ (51 + e - d) := by
          refine Nat.le_of_mul_le_mul_right ?_ (Nat.two_pow_pos d)
          rw [← Nat.pow_add]
          have : 51 + e - d + d = 51 + e := by omega
          rw [this, e2]; exact hv
        refine Nat.le_trans (Nat.mul_le_mul_right _ h1) ?_
        rw [← Nat.pow_add]
        exact Nat.pow_le_pow_right (by omega) (by omega)
      have hwt : whole ≤ 2 ^ t := by
        rcases Nat.lt_or_ge (2 ^ t) whole with g | g
        · have := Nat.mul_lt_mul'' g g; omega
        · exact g
      have hT : 2 * whole + (whole * whole != n).toNat ≤ 2 ^ (t + 1) := by
        rw [Nat.pow_succ]
        rcases Nat.lt_or_eq_of_le hwt with g | g
        · have hb : (whole * whole != n).toNat ≤ 1 := by cases (whole * whole != n) <;> simp
          omega
        · have : whole * whole = n := by rw [g] at hw ⊢; omega
          have hb : (whole * whole != n) = false := by rw [this]; simp
          rw [hb]; simp; omega
      have hpl : (double.leastPlace + (d : Int) - more) / 2 - 1 = double.leastPlace + ((d + 2 * K : Nat) : Int) - (((d + 2 * K + more) / 2 + 1 : Nat) : Int) := by rw [hP]; omega
      rw [hpl]
      refine bd_nearest false hc1 hc2 ?_
      refine Nat.le_trans (Nat.mul_le_mul_right _ hT) ?_
      rw [← Nat.pow_add, ← Nat.pow_add]
      exact Nat.pow_le_pow_right (by omega) (by omega)
end Fl
end Go.Proofs.Ytdbcjldengemeaa

namespace Go.Proofs.Ytdbcjldengemeaa
open Go.RowKit Fl Ieee
namespace Fl
/-! ### to an integer -/
def ires (s : FloatKind) (b : Nat) (k : IntKind) (w : World) : Int :=
  match floatToIntVal s b k with
  | some n => n
  | none => k.wrap ((Question.floatToInt s b k).cut (w.tape w.drawn (.floatToInt s b k)))
def icnt (s : FloatKind) (b : Nat) (k : IntKind) : Nat := if (floatToIntVal s b k).isSome then 0 else 1
theorem run_i {P : Program} (ts td : TypeId) (s : FloatKind) (k : IntKind) (b : Nat) (w : World) (hs : (P.underlying ts).isSome = true) (hd : P.underlying td = some (.int k)) :
    (convert ts td (.float s b)).run P w = .ok (.int k (ires s b k w)) (w.drewN (icnt s b k)) := by
  cases h : floatToIntVal s b k with
  | some r => rw [run_convert_float_int w ts td s k b r hs hd h]; simp [ires, icnt, h, World.drewN_zero]
  | none =>
    obtain ⟨u, hs'⟩ := Option.isSome_iff_exists.1 hs
    have h0 := h
    unfold floatToIntVal at h
    split at h
    · rename_i n he
      split at h
      · cases h
      · rename_i hn
        cases u <;> simp [convert, run_underlying hs', run_underlying hd, Conv.floatToInt, he, if_neg hn, ires, icnt, h0, Question.forced, World.drew_is_drewN]
    · rename_i he
      cases u <;> simp [convert, run_underlying hs', run_underlying hd, Conv.floatToInt, he, ires, icnt, h0, Question.forced, World.drew_is_drewN]
attribute [go_sem] run_i
theorem ires_some {s : FloatKind} {b : Nat} {k : IntKind} {n : Int} (w : World) (h : floatToIntVal s b k = some n) : ires s b k w = n := by simp [ires, h]

theorem cut_zero (neg : Bool) (n drop : Nat) : Toward.zero.cut neg n drop = n / 2 ^ drop := by
  unfold Toward.cut
  simp only [Nat.one_shiftLeft, Bool.toNat_false, Nat.add_zero]
  by_cases h : drop ≤ n.log2 + 2
  · rw [Nat.min_eq_left h]
  · have hlt : n < 2 ^ (n.log2 + 1) := Nat.lt_log2_self
    rw [Nat.min_eq_right (by omega), Nat.div_eq_of_lt (Nat.lt_of_lt_of_le hlt (Nat.pow_le_pow_right (by omega) (by omega))),
      Nat.div_eq_of_lt (Nat.lt_of_lt_of_le hlt (Nat.pow_le_pow_right (by omega) (by omega)))]

theorem toInt_word {K : Nat} (hK : K = 1074) (s : Bool) {r : Nat} (hr : r < double.infRung) : (double.read (double.word s r)).toInt .zero = some (sv s (mval double r / 2 ^ K)) := by
  obtain ⟨m, d, e1, e2, _, _⟩ := read_num double s hr
  have hP : double.leastPlace = -(K : Int) := by rw [P64, hK]; rfl
  rw [e1]
  simp only [Datum.toInt, Datum.integral, cut_zero, Nat.shiftLeft_eq, signed_sv, Nat.pow_zero, Nat.mul_one]
  congr 2
  rw [← e2, hP]
  by_cases h : K ≤ d
  · have h1 : (-(K : Int) + d).toNat = d - K := by omega
    have h2 : (-(-(K : Int) + d)).toNat = 0 := by omega
    rw [h1, h2, Nat.pow_zero, Nat.div_one]
    have : m * 2 ^ d = m * 2 ^ (d - K) * 2 ^ K := by rw [Nat.mul_assoc, ← Nat.pow_add]; congr 2; omega
    rw [this, Nat.mul_div_cancel _ (Nat.two_pow_pos _)]
  · have h1 : (-(K : Int) + d).toNat = 0 := by omega
    have h2 : (-(-(K : Int) + d)).toNat = K - d := by omega
    rw [h1, h2, Nat.pow_zero, Nat.mul_one]
    have : 2 ^ K = 2 ^ (K - d) * 2 ^ d := by rw [← Nat.pow_add]; congr 1; omega
    rw [this, Nat.mul_div_mul_right _ _ (Nat.two_pow_pos _)]

theorem toIntVal_word {K : Nat} (hK : K = 1074) (s : Bool) {r : Nat} (hr : r < double.infRung) (h : mval double r / 2 ^ K < 9223372036854775808) :
    floatToIntVal .f64 (double.word s r) .i64 = some (sv s (mval double r / 2 ^ K)) := by
  unfold floatToIntVal
  have e : (FloatKind.f64.decode (double.word s r)).toInt .zero = _ := toInt_word hK s hr
  rw [e]
  simp only
  have h1 : IntKind.i64.min = -9223372036854775808 := rfl
  have h2 : IntKind.i64.max = 9223372036854775807 := rfl
  rw [if_pos]
  rw [h1, h2]
  generalize mval double r / 2 ^ K = v at *
  unfold sv
  cases s <;> simp <;> omega

/-! ### from an integer -/
theorem ofInt_word {K : Nat} (hK : K = 1074) (n : Int) (hn : n.natAbs < 9007199254740992) : ∃ q, q < double.infRung ∧ mval double q = n.natAbs * 2 ^ K ∧ floatOfInt .f64 n = double.word (decide (n < 0)) q := by
  obtain ⟨q, q1, q2⟩ := repr double n.natAbs K (by rw [B64]; omega)
  have hq : q < double.infRung := by
    refine Nat.lt_of_lt_of_le q2 ?_
    rw [inf64]; exact Nat.mul_le_mul_right _ (by omega)
  refine ⟨q, hq, q1, ?_⟩
  have hP : double.leastPlace = -(K : Int) := by rw [P64, hK]; rfl
  have := nearest_exact double (decide (n < 0)) (m := n.natAbs) (d := K) (b := 0) (r := q) (by rw [q1, Nat.pow_zero, Nat.mul_one]) hq
  rw [← this]
  unfold floatOfInt FloatKind.nearest FloatKind.encode
  rw [fmt64]
  simp only [Format.write]
  congr 1
  rw [hP]; omega

/-! ### what is left behind the point -/
/-- the whole part, as a float64 -/
def wholeF (y : Nat) : Nat := floatOfInt .f64 ((floatToIntVal .f64 y .i64).getD 0)
theorem rest_bd (s : Bool) {r : Nat} {K : Nat} (hK : K = 1074) (hr : r < double.infRung) (h : mval double r < 4503599627370496 * 2 ^ K) :
    Bd 1023 (fop .sub .f64 (double.word s r) (wholeF (double.word s r))) := by
  have hp := Nat.two_pow_pos K
  have hdiv : mval double r / 2 ^ K < 4503599627370496 := (Nat.div_lt_iff_lt_mul hp).2 h
  have e1 := toIntVal_word hK s hr (by omega)
  unfold wholeF
  rw [e1, Option.getD_some]
  obtain ⟨q, hq, hv, e2⟩ := ofInt_word hK (sv s (mval double r / 2 ^ K)) (by rw [sv_abs]; omega)
  rw [sv_abs] at hv
  rw [e2]
  obtain ⟨T, D, e3, e4⟩ := sub_words double s (decide (sv s (mval double r / 2 ^ K) < 0)) hr hq
  rw [fop_of (op := .sub) (k := .f64) e3]
  obtain ⟨E, hE⟩ : ∃ E : Nat, E = 1023 := ⟨_, rfl⟩
  rw [← hE]
  refine bd_nearest0 _ (by omega) (by omega) ?_
  rw [e4]
  have hKE : 2 ^ (51 + E) = 2 ^ K := by congr 1; omega
  rw [hKE, hv]
  have hm := Nat.div_add_mod (mval double r) (2 ^ K)
  have hl := Nat.mod_lt (mval double r) hp
  generalize mval double r / 2 ^ K = a at *
  generalize mval double r = V at *
  generalize 2 ^ K = P at *
  generalize V % P = c at *
  have hPa : a * P = P * a := Nat.mul_comm _ _
  by_cases ha : a = 0
  · subst ha
    have : sv s V - sv (decide (sv s 0 < 0)) (0 * P) = sv s V := by unfold sv; cases s <;> simp
    rw [this, sv_abs]; omega
  · have hd : decide (sv s a < 0) = s := by unfold sv; cases s <;> simp <;> omega
    rw [hd, hPa]
    generalize P * a = Z at *
    unfold sv; cases s <;> simp <;> omega

/-! ### signs -/
theorem xor_top {r : Nat} (h : r < 2 ^ 63) : r ^^^ 2 ^ 63 = 2 ^ 63 + r := by
  apply Nat.eq_of_testBit_eq
  intro i
  rw [Nat.testBit_xor, Nat.testBit_two_pow]
  rcases Nat.lt_trichotomy i 63 with g | g | g
  · rw [Nat.testBit_two_pow_add_gt g]
    have : decide (63 = i) = false := decide_eq_false (by omega)
    rw [this]; simp
  · subst g
    rw [Nat.testBit_two_pow_add_eq, Nat.testBit_lt_two_pow h]; simp
  · have h1 : 2 ^ 64 ≤ 2 ^ i := Nat.pow_le_pow_right (by omega) g
    rw [Nat.testBit_lt_two_pow (x := r) (by omega), Nat.testBit_lt_two_pow (x := 2 ^ 63 + r) (by omega)]
    have : decide (63 = i) = false := decide_eq_false (by omega)
    rw [this]; simp
theorem word_true (r : Nat) : double.word true r = 2 ^ 63 + r := by unfold Format.word; rw [S64]; simp
theorem word_false (r : Nat) : double.word false r = r := by unfold Format.word; simp
theorem neg_word (s : Bool) {r : Nat} (h : r < 2 ^ 63) : Op.negFloat .f64 (double.word s r) = double.word (!s) r := by
  have e : Op.negFloat .f64 (double.word s r) = double.word s r ^^^ 2 ^ 63 := rfl
  rw [e]
  cases s
  · rw [word_false, xor_top h, ← word_true]; rfl
  · rw [word_true, ← xor_top h, Nat.xor_assoc, Nat.xor_self, Nat.xor_zero]; exact (word_false r).symm
theorem neg_bd {e x : Nat} (h : Bd e x) : Bd e (Op.negFloat .f64 x) := by
  obtain ⟨s, r, rfl, hr, hv⟩ := h
  rw [neg_word s (by rw [I64] at hr; omega)]
  exact ⟨!s, r, rfl, hr, hv⟩
theorem isN_neg {x : Nat} (hx : x < 18446744073709551616) (h : isN .f64 x = true) : isN .f64 (Op.negFloat .f64 x) = true := by
  have hw := word_split double (w := x) (by rw [S64]; omega)
  have hl : x % double.signWeight < 2 ^ 63 := by rw [S64]; exact Nat.mod_lt _ (by omega)
  generalize x % double.signWeight = r at *
  generalize (x / double.signWeight % 2 == 1) = s at *
  subst hw
  rw [neg_word s hl]
  unfold isN FloatKind.decode at *
  rw [fmt64] at *
  unfold Format.read at *
  have hsw : r < double.signWeight := by rw [S64]; omega
  simp only [word_rung hsw] at *
  by_cases h1 : r < double.binade
  · simp only [if_pos h1, Datum.isNaN] at h; cases h
  · by_cases h2 : r < double.infRung
    · simp only [if_neg h1, if_pos h2, Datum.isNaN] at h; cases h
    · by_cases h3 : r = double.infRung
      · simp only [if_neg h1, if_neg h2, if_pos h3, Datum.isNaN] at h; cases h
      · simp only [if_neg h1, if_neg h2, if_neg h3, Datum.isNaN]
theorem neg_sim {x y : Nat} (hx : x < 18446744073709551616) (hy : y < 18446744073709551616) (h : Sim .f64 x y) : Sim .f64 (Op.negFloat .f64 x) (Op.negFloat .f64 y) := by
  rcases h with rfl | ⟨a, b⟩
  · exact .inl rfl
  · exact .inr ⟨isN_neg hx a, isN_neg hy b⟩

/-! ### what is taken from itself -/
theorem self_zero (k : FloatKind) (s : Bool) {r : Nat} (hr : r < k.format.infRung) : fop .sub k (k.format.word s r) (k.format.word s r) = 0 := by
  obtain ⟨T, D, e, he⟩ := sub_words k.format s s hr hr
  rw [fop_of (op := .sub) (k := k) e]
  have hz : sv s (mval k.format r) - sv s (mval k.format r) = 0 := by omega
  rw [hz] at he ⊢
  have hT : T = 0 := by
    have h1 : T * 2 ^ D = 0 := by rw [he]; rfl
    rcases Nat.mul_eq_zero.1 h1 with h | h
    · exact h
    · have := Nat.two_pow_pos D; omega
  rw [hT, if_pos rfl]
  unfold Format.nearest
  cases s <;> simp [Format.word]
theorem self_inf (k : FloatKind) (s : Bool) : isN k (fop .sub k (k.format.word s k.format.infRung) (k.format.word s k.format.infRung)) = true := by
  cases k <;> cases s <;> decide +kernel
theorem self_nan {k : FloatKind} {x : Nat} (h : isN k x = true) : isN k (fop .sub k x x) = true := by
  unfold fop; rw [floatBits_nan_l h]; exact isN_qn k
end Fl
end Go.Proofs.Ytdbcjldengemeaa

namespace Go.Proofs.Ytdbcjldengemeaa
open Go.RowKit Fl Ieee
namespace Fl
@[go_sem] theorem unary_neg_float (k : FloatKind) (b : Nat) : Op.unary .neg (.float k b) = pure (.float k (Op.negFloat k b)) := rfl
attribute [go_sem] fop_fres_l fop_fres_r
abbrev one64 : Nat := 4607182418800017408
abbrev half64 : Nat := 4602678819172646912
abbrev quart64 : Nat := 4598175219545276416
abbrev turn64 : Nat := 4618760256179416344
/-- a finite number of turns without whole ones -/
def fracF (y : Nat) : Nat := if FloatKind.f64.format.order (fop .sub .f64 y (wholeF y)) 0 == some .lt then fop .add .f64 (fop .sub .f64 y (wholeF y)) one64 else fop .sub .f64 y (wholeF y)
def den (j : Nat) : Nat := floatOfInt .f64 (2 * (8 - j) * (2 * (8 - j) + 1))
def kF (j : Nat) : Nat := floatOfInt .f64 (8 - j)
def pS (u : Nat) : Nat → Nat
  | 0 => one64
  | j + 1 => fop .sub .f64 one64 (fop .quo .f64 (fop .mul .f64 u (pS u j)) (den j))
def turned (f : Nat) : Bool := FloatKind.f64.format.order f half64 == some .gt || FloatKind.f64.format.order f half64 == some .eq
def fold1 (f : Nat) : Nat := if turned f then fop .sub .f64 f half64 else f
def fold2 (f : Nat) : Nat := if FloatKind.f64.format.order f quart64 == some .gt then fop .sub .f64 half64 f else f
def foldF (f : Nat) : Nat := fold2 (fold1 f)
def zF (f : Nat) : Nat := fop .mul .f64 (foldF f) turn64
def wF (f : Nat) : Nat := fop .mul .f64 (zF f) (pS (fop .mul .f64 (zF f) (zF f)) 8)
def sinF (f : Nat) : Nat := if turned f then Op.negFloat .f64 (wF f) else wF f
def sineF (y : Nat) : Nat := sinF (fracF y)

theorem lb_of {e c : Nat} (h : e * double.binade ≤ c) (h1 : 1 ≤ e) (h2 : c < double.infRung) : Lb e c := by
  refine ⟨c, (word_false _).symm, h2, ?_⟩
  rw [← mval_pow h1]; exact mval_le h
theorem den_lb : ∀ j, j < 8 → Lb 1025 (den j) := by
  have h : ∀ j : Fin 8, den j.val < double.infRung ∧ 1025 * double.binade ≤ den j.val := by decide +kernel
  intro j hj
  obtain ⟨h1, h2⟩ := h ⟨j, hj⟩
  exact lb_of h2 (by omega) h1
theorem const_bd {e c : Nat} (h : c ≤ e * double.binade) (h1 : 1 ≤ e) (h2 : e ≤ 2046) : Bd e c := by
  refine ⟨false, c, (word_false _).symm, Nat.lt_of_le_of_lt h (pow_rung_lt h2), ?_⟩
  rw [← mval_pow h1]; exact mval_le h
theorem one_bd : Bd 1023 one64 := const_bd (by rw [B64]; decide) (by omega) (by omega)
theorem half_bd : Bd 1023 half64 := const_bd (by rw [B64]; decide) (by omega) (by omega)
theorem turn_bd : Bd 1026 turn64 := const_bd (by rw [B64]; decide) (by omega) (by omega)
theorem pS_bd {u : Nat} (hu : Bd 1035 u) : ∀ j, j ≤ 8 → Bd (1023 + 11 * j) (pS u j)
  | 0, _ => one_bd
  | j + 1, h => by
    have ih := pS_bd hu j (by omega)
    unfold pS
    have h1 := mul_bd (c := 1035 + 11 * j) hu ih (by omega) (by omega) (by omega)
    have h2 := quo_bd (c := 1033 + 11 * j) h1 (den_lb j (by omega)) (by omega) (by omega) (by omega)
    exact sub_bd (c := 1023 + 11 * (j + 1)) one_bd h2 (by omega) (by omega) (by omega)
theorem frac_bd {s : Bool} {r K : Nat} (hK : K = 1074) (hr : r < double.infRung) (h : mval double r < 4503599627370496 * 2 ^ K) : Bd 1024 (fracF (double.word s r)) := by
  have h1 := rest_bd s hK hr h
  unfold fracF
  split
  · exact add_bd h1 one_bd (by omega) (by omega) (by omega)
  · exact h1.mono (by omega)
theorem fold_bd {f : Nat} (h : Bd 1024 f) : Bd 1026 (foldF f) := by
  have h1 : Bd 1025 (fold1 f) := by
    unfold fold1; split
    · exact sub_bd h half_bd (by omega) (by omega) (by omega)
    · exact h.mono (by omega)
  unfold foldF fold2; split
  · exact sub_bd half_bd h1 (by omega) (by omega) (by omega)
  · exact h1.mono (by omega)
theorem w_bd {f : Nat} (h : Bd 1024 f) : Bd 1149 (wF f) := by
  have hz : Bd 1029 (zF f) := mul_bd (fold_bd h) turn_bd (by omega) (by omega) (by omega)
  have hu := mul_bd (c := 1035) hz hz (by omega) (by omega) (by omega)
  have hp := pS_bd hu 8 (by omega)
  unfold wF
  exact mul_bd hz hp (by omega) (by omega) (by omega)
theorem sin_bd {f : Nat} (h : Bd 1024 f) : Bd 1149 (sinF f) := by
  unfold sinF; split
  · exact neg_bd (w_bd h)
  · exact w_bd h
theorem bd_lt {e x : Nat} (h : Bd e x) : x < 18446744073709551616 := by
  obtain ⟨s, r, rfl, hr, _⟩ := h
  rw [I64] at hr
  cases s
  · rw [word_false]; omega
  · rw [word_true]; omega
theorem bd_isN {e x : Nat} (h : Bd e x) : isN .f64 x = false := by
  obtain ⟨s, r, rfl, hr, _⟩ := h
  exact isN_word .f64 s (Nat.le_of_lt hr)
/-- what is the same as a number is it -/
theorem Sim.eq_bd {e x y : Nat} (h : Sim .f64 x y) (hy : Bd e y) : x = y := by
  rcases h with rfl | ⟨_, b⟩
  · rfl
  · rw [bd_isN hy] at b; cases b
theorem fres_bd {op : BinOp} {x y e : Nat} (w : World) (h : Bd e (fop op .f64 x y)) : fres op .f64 x y w = fop op .f64 x y := (fres_sim op .f64 x y w).eq_bd h

theorem kd_dec : ∀ j, j < 8 → floatBits .sub .f64 (kF j) one64 = some (kF (j + 1)) := by
  have h : ∀ j : Fin 8, floatBits .sub .f64 (kF j.val) one64 = some (kF (j.val + 1)) := by decide +kernel
  intro j hj; exact h ⟨j, hj⟩
theorem kd_den : ∀ j, j < 8 → fop .mul .f64 (fop .mul .f64 4611686018427387904 (kF j)) (fop .add .f64 (fop .mul .f64 4611686018427387904 (kF j)) one64) = den j := by
  have h : ∀ j : Fin 8, fop .mul .f64 (fop .mul .f64 4611686018427387904 (kF j.val)) (fop .add .f64 (fop .mul .f64 4611686018427387904 (kF j.val)) one64) = den j.val := by decide +kernel
  intro j hj; exact h ⟨j, hj⟩
theorem kd_on : ∀ j, j < 8 → (FloatKind.f64.format.order (kF j) one64 == some .gt || FloatKind.f64.format.order (kF j) one64 == some .eq) = true := by
  have h : ∀ j : Fin 8, (FloatKind.f64.format.order (kF j.val) one64 == some .gt || FloatKind.f64.format.order (kF j.val) one64 == some .eq) = true := by decide +kernel
  intro j hj; exact h ⟨j, hj⟩
theorem kd_off : (FloatKind.f64.format.order (kF 8) one64 == some .gt || FloatKind.f64.format.order (kF 8) one64 == some .eq) = false := by decide +kernel
theorem kd_lt : ∀ j, j < 8 → kF (j + 1) < kF j := by
  have h : ∀ j : Fin 8, kF (j.val + 1) < kF j.val := by decide +kernel
  intro j hj; exact h ⟨j, hj⟩
theorem kd_zero : 4620693217682128896 = kF 0 := by decide +kernel
def bitsOf : Value → Nat
  | .float _ b => b
  | _ => 0
end Fl

theorem fraction_any (y : Nat) (n : Int) (hn : floatToIntVal .f64 y .i64 = some n) (w : World) : Calls Try.prog 17 #[.float .f64 y] w fun e w' => ∃ r, e = .returned (.float .f64 r) ∧ Sim .f64 r (fracF y) ∧ ∃ n, w' = w.drewN n := by
  have hw : wholeF y = floatOfInt .f64 n := by unfold wholeF; rw [hn]; rfl
  have hi : ∀ w, ires .f64 y .i64 w = n := fun w => ires_some w hn
  cases hg : (FloatKind.f64.format.order (fop .sub .f64 y (floatOfInt .f64 n)) 0 == some .lt) with
  | true =>
    have h2 : fracF y = fop .add .f64 (fop .sub .f64 y (floatOfInt .f64 n)) one64 := by unfold fracF; rw [hw, hg, if_pos rfl]
    have H2 := Lib.hid h2
    clear hn hw h2
    go_enter Try.func17, Try.ntmps17
    go_wp2
    go_ret
    exact ⟨_, rfl, by rw [H2.out]; exact fres_of _ (fres_sim ..) (Sim.refl ..), _, rfl⟩
  | false =>
    have h2 : fracF y = fop .sub .f64 y (floatOfInt .f64 n) := by unfold fracF; rw [hw, hg, if_neg (by decide)]
    have H2 := Lib.hid h2
    clear hn hw h2
    go_enter Try.func17, Try.ntmps17
    go_wp2
    go_ret
    exact ⟨_, rfl, by rw [H2.out]; exact fres_sim .., _, rfl⟩
set_option maxHeartbeats 1000000 in
set_option maxRecDepth 100000 in
theorem sine_any (y : Nat) (n : Int) (hn : floatToIntVal .f64 y .i64 = some n) (w : World) : Calls Try.prog 18 #[.float .f64 y] w fun e w' => ∃ r, e = .returned (.float .f64 r) ∧ Sim .f64 r (sineF y) ∧ ∃ n, w' = w.drewN n := by
  have HN := Lib.hid hn
  have HP := Lib.hid (show sineF y = sinF (fracF y) from rfl)
  generalize sineF y = P at *
  obtain ⟨F, hF⟩ : ∃ F, F = fracF y := ⟨_, rfl⟩
  have HF := Lib.hid hF
  clear hF hn
  cases hg1 : turned F <;> cases hg2 : (FloatKind.f64.format.order (fold1 F) quart64 == some .gt)
  case false.false =>
    have HZ := Lib.hid (show zF F = fop .mul .f64 F turn64 by unfold zF foldF fold2; rw [hg2]; unfold fold1; rw [hg1]; rfl)
    have HE := Lib.hid (show sinF F = wF F by unfold sinF; rw [hg1]; rfl)
    have HG1 := Lib.hid hg1
    have HG2 := Lib.hid (show (FloatKind.f64.format.order F quart64 == some .gt) = false by unfold fold1 at hg2; rw [hg1] at hg2; exact hg2)
    clear hg1 hg2
    go_enter Try.func18, Try.ntmps18
    go_wp2_with (fail)
    refine (fraction_any y n HN.out _).mono ?_
    rintro e w' ⟨f, rfl, hs, m, rfl⟩
    rw [← HF.out] at hs
    have g1 : (FloatKind.f64.format.order f 4602678819172646912 == some .gt || FloatKind.f64.format.order f 4602678819172646912 == some .eq) = false := by rw [order_congr hs (Sim.refl .f64 4602678819172646912)]; exact HG1.out
    have g2 : (FloatKind.f64.format.order f 4598175219545276416 == some .gt) = false := by rw [order_congr hs (Sim.refl .f64 4598175219545276416)]; exact HG2.out
    have HS := Lib.hid hs
    clear hs
    go_wp2
    generalize hz : fres .mul .f64 _ 4618760256179416344 _ = z
    have HZS : RowKit.Hid (Sim .f64 z (zF F)) := by rw [HZ.out, ← hz]; exact fres_of _ HS.out (Sim.refl ..)
    clear hz
    generalize hu : fres .mul .f64 z z _ = u
    have HU : RowKit.Hid (Sim .f64 u (fop .mul .f64 (zF F) (zF F))) := by rw [← hu]; exact fres_of _ HZS.out HZS.out
    clear hu
    go_loopw [7, 8] (fun v7 v8 w' => ∃ (p k j : Nat), v7 = .float .f64 p ∧ v8 = .float .f64 k ∧ RowKit.Hid (j ≤ 8) ∧ RowKit.Hid (k = kF j) ∧ RowKit.Hid (Sim .f64 p (pS (fop .mul .f64 (zF F) (zF F)) j)) ∧ RowKit.Hid (∃ c, w' = w.drewN c)) (fun _ v8 _ => bitsOf v8)
    case atStart => exact ⟨4607182418800017408, 4620693217682128896, 0, rfl, rfl, Nat.zero_le 8, kd_zero, Sim.refl .f64 _, (show ∃ c, _ = w.drewN c from ⟨_, rfl⟩)⟩
    case round =>
      obtain ⟨p, k, j, rfl, rfl, HJ, HK, HPS, HW⟩ := hrel
      by_cases hlt : j < 8
      · have gk : (FloatKind.f64.format.order k 4607182418800017408 == some .gt || FloatKind.f64.format.order k 4607182418800017408 == some .eq) = true := by rw [HK.out]; exact kd_on j hlt
        have HLT := Lib.hid hlt
        clear hlt
        go_wp2
        go_roundw
        case rel =>
          refine ⟨_, _, j + 1, rfl, rfl, HLT.out, ?_, ?_, ?_⟩
          · exact fres_some _ (by rw [HK.out]; exact kd_dec j HLT.out)
          · show Sim .f64 _ (fop .sub .f64 one64 (fop .quo .f64 (fop .mul .f64 (fop .mul .f64 (zF F) (zF F)) (pS (fop .mul .f64 (zF F) (zF F)) j)) (den j)))
            rw [← kd_den j HLT.out, ← HK.out]
            exact fres_of _ (Sim.refl ..) (fres_of _ (fres_of _ HU.out HPS.out) (fres_of _ (fres_sim ..) (fres_of _ (fres_sim ..) (Sim.refl ..))))
          · obtain ⟨c, e⟩ := HW.out; exact ⟨_, by rw [e]; simp only [World.drewN_drewN]; rfl⟩
        case measure =>
          show fres .sub .f64 k one64 _ < k
          rw [fres_some _ (by rw [HK.out]; exact kd_dec j HLT.out), HK.out]
          exact kd_lt j HLT.out
      · obtain rfl : j = 8 := by have := HJ.out; omega
        have gk : (FloatKind.f64.format.order k 4607182418800017408 == some .gt || FloatKind.f64.format.order k 4607182418800017408 == some .eq) = false := by rw [HK.out]; exact kd_off
        clear hlt
        go_wp2
        go_ret
        refine ⟨_, rfl, ?_, by obtain ⟨c, e⟩ := HW.out; exact ⟨_, by rw [e]; simp only [World.drewN_drewN]; rfl⟩⟩
        rw [HP.out, ← HF.out, HE.out]
        exact fres_of _ HZS.out HPS.out
  case false.true =>
    have HZ := Lib.hid (show zF F = fop .mul .f64 (fop .sub .f64 half64 F) turn64 by unfold zF foldF fold2; rw [hg2]; unfold fold1; rw [hg1]; rfl)
    have HE := Lib.hid (show sinF F = wF F by unfold sinF; rw [hg1]; rfl)
    have HG1 := Lib.hid hg1
    have HG2 := Lib.hid (show (FloatKind.f64.format.order F quart64 == some .gt) = true by unfold fold1 at hg2; rw [hg1] at hg2; exact hg2)
    clear hg1 hg2
    go_enter Try.func18, Try.ntmps18
    go_wp2_with (fail)
    refine (fraction_any y n HN.out _).mono ?_
    rintro e w' ⟨f, rfl, hs, m, rfl⟩
    rw [← HF.out] at hs
    have g1 : (FloatKind.f64.format.order f 4602678819172646912 == some .gt || FloatKind.f64.format.order f 4602678819172646912 == some .eq) = false := by rw [order_congr hs (Sim.refl .f64 4602678819172646912)]; exact HG1.out
    have g2 : (FloatKind.f64.format.order f 4598175219545276416 == some .gt) = true := by rw [order_congr hs (Sim.refl .f64 4598175219545276416)]; exact HG2.out
    have HS := Lib.hid hs
    clear hs
    go_wp2
    generalize hz : fres .mul .f64 _ 4618760256179416344 _ = z
    have HZS : RowKit.Hid (Sim .f64 z (zF F)) := by rw [HZ.out, ← hz]; exact fres_of _ (fres_of _ (Sim.refl ..) HS.out) (Sim.refl ..)
    clear hz
    generalize hu : fres .mul .f64 z z _ = u
    have HU : RowKit.Hid (Sim .f64 u (fop .mul .f64 (zF F) (zF F))) := by rw [← hu]; exact fres_of _ HZS.out HZS.out
    clear hu
    go_loopw [7, 8] (fun v7 v8 w' => ∃ (p k j : Nat), v7 = .float .f64 p ∧ v8 = .float .f64 k ∧ RowKit.Hid (j ≤ 8) ∧ RowKit.Hid (k = kF j) ∧ RowKit.Hid (Sim .f64 p (pS (fop .mul .f64 (zF F) (zF F)) j)) ∧ RowKit.Hid (∃ c, w' = w.drewN c)) (fun _ v8 _ => bitsOf v8)
    case atStart => exact ⟨4607182418800017408, 4620693217682128896, 0, rfl, rfl, Nat.zero_le 8, kd_zero, Sim.refl .f64 _, (show ∃ c, _ = w.drewN c from ⟨_, rfl⟩)⟩
    case round =>
      obtain ⟨p, k, j, rfl, rfl, HJ, HK, HPS, HW⟩ := hrel
      by_cases hlt : j < 8
      · have gk : (FloatKind.f64.format.order k 4607182418800017408 == some .gt || FloatKind.f64.format.order k 4607182418800017408 == some .eq) = true := by rw [HK.out]; exact kd_on j hlt
        have HLT := Lib.hid hlt
        clear hlt
        go_wp2
        go_roundw
        case rel =>
          refine ⟨_, _, j + 1, rfl, rfl, HLT.out, ?_, ?_, ?_⟩
          · exact fres_some _ (by rw [HK.out]; exact kd_dec j HLT.out)
          · show Sim .f64 _ (fop .sub .f64 one64 (fop .quo .f64 (fop .mul .f64 (fop .mul .f64 (zF F) (zF F)) (pS (fop .mul .f64 (zF F) (zF F)) j)) (den j)))
            rw [← kd_den j HLT.out, ← HK.out]
            exact fres_of _ (Sim.refl ..) (fres_of _ (fres_of _ HU.out HPS.out) (fres_of _ (fres_sim ..) (fres_of _ (fres_sim ..) (Sim.refl ..))))
          · obtain ⟨c, e⟩ := HW.out; exact ⟨_, by rw [e]; simp only [World.drewN_drewN]; rfl⟩
        case measure =>
          show fres .sub .f64 k one64 _ < k
          rw [fres_some _ (by rw [HK.out]; exact kd_dec j HLT.out), HK.out]
          exact kd_lt j HLT.out
      · obtain rfl : j = 8 := by have := HJ.out; omega
        have gk : (FloatKind.f64.format.order k 4607182418800017408 == some .gt || FloatKind.f64.format.order k 4607182418800017408 == some .eq) = false := by rw [HK.out]; exact kd_off
        clear hlt
        go_wp2
        go_ret
        refine ⟨_, rfl, ?_, by obtain ⟨c, e⟩ := HW.out; exact ⟨_, by rw [e]; simp only [World.drewN_drewN]; rfl⟩⟩
        rw [HP.out, ← HF.out, HE.out]
        exact fres_of _ HZS.out HPS.out
  case true.false =>
    have HZ := Lib.hid (show zF F = fop .mul .f64 (fop .sub .f64 F half64) turn64 by unfold zF foldF fold2; rw [hg2]; unfold fold1; rw [hg1]; rfl)
    have HE := Lib.hid (show sinF F = Op.negFloat .f64 (wF F) by unfold sinF; rw [hg1]; rfl)
    have HG1 := Lib.hid hg1
    have HG2 := Lib.hid (show (FloatKind.f64.format.order (fop .sub .f64 F half64) quart64 == some .gt) = false by unfold fold1 at hg2; rw [hg1] at hg2; exact hg2)
    clear hg1 hg2
    go_enter Try.func18, Try.ntmps18
    go_wp2_with (fail)
    refine (fraction_any y n HN.out _).mono ?_
    rintro e w' ⟨f, rfl, hs, m, rfl⟩
    rw [← HF.out] at hs
    have g1 : (FloatKind.f64.format.order f 4602678819172646912 == some .gt || FloatKind.f64.format.order f 4602678819172646912 == some .eq) = true := by rw [order_congr hs (Sim.refl .f64 4602678819172646912)]; exact HG1.out
    have g2 : (FloatKind.f64.format.order (fop .sub .f64 f 4602678819172646912) 4598175219545276416 == some .gt) = false := by rw [fop_congr hs (Sim.refl .f64 4602678819172646912)]; exact HG2.out
    have HS := Lib.hid hs
    clear hs
    go_wp2
    generalize hz : fres .mul .f64 _ 4618760256179416344 _ = z
    have HZS : RowKit.Hid (Sim .f64 z (zF F)) := by rw [HZ.out, ← hz]; exact fres_of _ (fres_of _ HS.out (Sim.refl ..)) (Sim.refl ..)
    clear hz
    generalize hu : fres .mul .f64 z z _ = u
    have HU : RowKit.Hid (Sim .f64 u (fop .mul .f64 (zF F) (zF F))) := by rw [← hu]; exact fres_of _ HZS.out HZS.out
    clear hu
    go_loopw [7, 8] (fun v7 v8 w' => ∃ (p k j : Nat), v7 = .float .f64 p ∧ v8 = .float .f64 k ∧ RowKit.Hid (j ≤ 8) ∧ RowKit.Hid (k = kF j) ∧ RowKit.Hid (Sim .f64 p (pS (fop .mul .f64 (zF F) (zF F)) j)) ∧ RowKit.Hid (∃ c, w' = w.drewN c)) (fun _ v8 _ => bitsOf v8)
    case atStart => exact ⟨4607182418800017408, 4620693217682128896, 0, rfl, rfl, Nat.zero_le 8, kd_zero, Sim.refl .f64 _, (show ∃ c, _ = w.drewN c from ⟨_, rfl⟩)⟩
    case round =>
      obtain ⟨p, k, j, rfl, rfl, HJ, HK, HPS, HW⟩ := hrel
      by_cases hlt : j < 8
      · have gk : (FloatKind.f64.format.order k 4607182418800017408 == some .gt || FloatKind.f64.format.order k 4607182418800017408 == some .eq) = true := by rw [HK.out]; exact kd_on j hlt
        have HLT := Lib.hid hlt
        clear hlt
        go_wp2
        go_roundw
        case rel =>
          refine ⟨_, _, j + 1, rfl, rfl, HLT.out, ?_, ?_, ?_⟩
          · exact fres_some _ (by rw [HK.out]; exact kd_dec j HLT.out)
          · show Sim .f64 _ (fop .sub .f64 one64 (fop .quo .f64 (fop .mul .f64 (fop .mul .f64 (zF F) (zF F)) (pS (fop .mul .f64 (zF F) (zF F)) j)) (den j)))
            rw [← kd_den j HLT.out, ← HK.out]
            exact fres_of _ (Sim.refl ..) (fres_of _ (fres_of _ HU.out HPS.out) (fres_of _ (fres_sim ..) (fres_of _ (fres_sim ..) (Sim.refl ..))))
          · obtain ⟨c, e⟩ := HW.out; exact ⟨_, by rw [e]; simp only [World.drewN_drewN]; rfl⟩
        case measure =>
          show fres .sub .f64 k one64 _ < k
          rw [fres_some _ (by rw [HK.out]; exact kd_dec j HLT.out), HK.out]
          exact kd_lt j HLT.out
      · obtain rfl : j = 8 := by have := HJ.out; omega
        have gk : (FloatKind.f64.format.order k 4607182418800017408 == some .gt || FloatKind.f64.format.order k 4607182418800017408 == some .eq) = false := by rw [HK.out]; exact kd_off
        clear hlt
        go_wp2
        go_ret
        refine ⟨_, rfl, ?_, by obtain ⟨c, e⟩ := HW.out; exact ⟨_, by rw [e]; simp only [World.drewN_drewN]; rfl⟩⟩
        rw [HP.out, ← HF.out, HE.out]
        exact neg_sim (fres_lt ..) (fop_lt ..) (fres_of _ HZS.out HPS.out)
  case true.true =>
    have HZ := Lib.hid (show zF F = fop .mul .f64 (fop .sub .f64 half64 (fop .sub .f64 F half64)) turn64 by unfold zF foldF fold2; rw [hg2]; unfold fold1; rw [hg1]; rfl)
    have HE := Lib.hid (show sinF F = Op.negFloat .f64 (wF F) by unfold sinF; rw [hg1]; rfl)
    have HG1 := Lib.hid hg1
    have HG2 := Lib.hid (show (FloatKind.f64.format.order (fop .sub .f64 F half64) quart64 == some .gt) = true by unfold fold1 at hg2; rw [hg1] at hg2; exact hg2)
    clear hg1 hg2
    go_enter Try.func18, Try.ntmps18
    go_wp2_with (fail)
    refine (fraction_any y n HN.out _).mono ?_
    rintro e w' ⟨f, rfl, hs, m, rfl⟩
    rw [← HF.out] at hs
    have g1 : (FloatKind.f64.format.order f 4602678819172646912 == some .gt || FloatKind.f64.format.order f 4602678819172646912 == some .eq) = true := by rw [order_congr hs (Sim.refl .f64 4602678819172646912)]; exact HG1.out
    have g2 : (FloatKind.f64.format.order (fop .sub .f64 f 4602678819172646912) 4598175219545276416 == some .gt) = true := by rw [fop_congr hs (Sim.refl .f64 4602678819172646912)]; exact HG2.out
    have HS := Lib.hid hs
    clear hs
    go_wp2
    generalize hz : fres .mul .f64 _ 4618760256179416344 _ = z
    have HZS : RowKit.Hid (Sim .f64 z (zF F)) := by rw [HZ.out, ← hz]; exact fres_of _ (fres_of _ (Sim.refl ..) (fres_of _ HS.out (Sim.refl ..))) (Sim.refl ..)
    clear hz
    generalize hu : fres .mul .f64 z z _ = u
    have HU : RowKit.Hid (Sim .f64 u (fop .mul .f64 (zF F) (zF F))) := by rw [← hu]; exact fres_of _ HZS.out HZS.out
    clear hu
    go_loopw [7, 8] (fun v7 v8 w' => ∃ (p k j : Nat), v7 = .float .f64 p ∧ v8 = .float .f64 k ∧ RowKit.Hid (j ≤ 8) ∧ RowKit.Hid (k = kF j) ∧ RowKit.Hid (Sim .f64 p (pS (fop .mul .f64 (zF F) (zF F)) j)) ∧ RowKit.Hid (∃ c, w' = w.drewN c)) (fun _ v8 _ => bitsOf v8)
    case atStart => exact ⟨4607182418800017408, 4620693217682128896, 0, rfl, rfl, Nat.zero_le 8, kd_zero, Sim.refl .f64 _, (show ∃ c, _ = w.drewN c from ⟨_, rfl⟩)⟩
    case round =>
      obtain ⟨p, k, j, rfl, rfl, HJ, HK, HPS, HW⟩ := hrel
      by_cases hlt : j < 8
      · have gk : (FloatKind.f64.format.order k 4607182418800017408 == some .gt || FloatKind.f64.format.order k 4607182418800017408 == some .eq) = true := by rw [HK.out]; exact kd_on j hlt
        have HLT := Lib.hid hlt
        clear hlt
        go_wp2
        go_roundw
        case rel =>
          refine ⟨_, _, j + 1, rfl, rfl, HLT.out, ?_, ?_, ?_⟩
          · exact fres_some _ (by rw [HK.out]; exact kd_dec j HLT.out)
          · show Sim .f64 _ (fop .sub .f64 one64 (fop .quo .f64 (fop .mul .f64 (fop .mul .f64 (zF F) (zF F)) (pS (fop .mul .f64 (zF F) (zF F)) j)) (den j)))
            rw [← kd_den j HLT.out, ← HK.out]
            exact fres_of _ (Sim.refl ..) (fres_of _ (fres_of _ HU.out HPS.out) (fres_of _ (fres_sim ..) (fres_of _ (fres_sim ..) (Sim.refl ..))))
          · obtain ⟨c, e⟩ := HW.out; exact ⟨_, by rw [e]; simp only [World.drewN_drewN]; rfl⟩
        case measure =>
          show fres .sub .f64 k one64 _ < k
          rw [fres_some _ (by rw [HK.out]; exact kd_dec j HLT.out), HK.out]
          exact kd_lt j HLT.out
      · obtain rfl : j = 8 := by have := HJ.out; omega
        have gk : (FloatKind.f64.format.order k 4607182418800017408 == some .gt || FloatKind.f64.format.order k 4607182418800017408 == some .eq) = false := by rw [HK.out]; exact kd_off
        clear hlt
        go_wp2
        go_ret
        refine ⟨_, rfl, ?_, by obtain ⟨c, e⟩ := HW.out; exact ⟨_, by rw [e]; simp only [World.drewN_drewN]; rfl⟩⟩
        rw [HP.out, ← HF.out, HE.out]
        exact neg_sim (fres_lt ..) (fop_lt ..) (fres_of _ HZS.out HPS.out)
end Go.Proofs.Ytdbcjldengemeaa

namespace Go.Proofs.Ytdbcjldengemeaa
open Go.RowKit Fl
/-- what is taken from itself is zero -/
def finB (x : Nat) : Bool := FloatKind.f32.format.order (fop .sub .f32 x x) 0 == some .eq
theorem IsFinite_any (x : Nat) (w : World) : Calls Try.prog 23 #[.float .f32 x] w fun e w' => e = .returned (.bool (finB x)) ∧ ∃ n, w' = w.drewN n := by
  go_enter Try.func23, Try.ntmps23
  go_wp2
  go_ret
  exact ⟨rfl, _, rfl⟩
end Go.Proofs.Ytdbcjldengemeaa

namespace Go.Proofs.Ytdbcjldengemeaa
open Go.RowKit Fl Ieee
namespace Fl
theorem geq_words (s t : Bool) {r q : Nat} (hr : r < double.infRung) (hq : q < double.infRung) :
    (FloatKind.f64.format.order (double.word s r) (double.word t q) == some .gt || FloatKind.f64.format.order (double.word s r) (double.word t q) == some .eq) = decide (sv t (mval double q) ≤ sv s (mval double r)) := by
  rw [fmt64, order_words double s t hr hq, Bool.eq_iff_iff]
  simp only [Bool.or_eq_true, beq_iff_eq, Option.some.injEq, cmp_gt, cmp_eq, decide_eq_true_eq]
  omega
theorem leq_words (s t : Bool) {r q : Nat} (hr : r < double.infRung) (hq : q < double.infRung) :
    (FloatKind.f64.format.order (double.word s r) (double.word t q) == some .lt || FloatKind.f64.format.order (double.word s r) (double.word t q) == some .eq) = decide (sv s (mval double r) ≤ sv t (mval double q)) := by
  rw [fmt64, order_words double s t hr hq, Bool.eq_iff_iff]
  simp only [Bool.or_eq_true, beq_iff_eq, Option.some.injEq, cmp_lt, cmp_eq, decide_eq_true_eq]
  omega
abbrev R52 : Nat := 4841369599423283200
theorem R52_inf : R52 < double.infRung := by rw [I64]; decide
theorem R52_val {K : Nat} (hK : K = 1074) : mval double R52 = 4503599627370496 * 2 ^ K := by subst hK; decide +kernel
theorem R52_neg : double.word true R52 = 14064741636278059008 := by decide +kernel

/-- a word not less than 2^52: what the tests say -/
theorem big_pos {q : Nat} (hq : q < double.infRung) : (FloatKind.f64.format.order (double.word false q) 4841369599423283200 == some .gt || FloatKind.f64.format.order (double.word false q) 4841369599423283200 == some .eq) = decide (R52 ≤ q) := by
  have h := geq_words false false hq R52_inf
  rw [word_false R52] at h
  rw [h]
  unfold sv
  simp only [Bool.false_eq_true, ↓reduceIte, decide_eq_decide]
  constructor
  · intro h; exact le_of_mval (f := double) (Int.ofNat_le.1 h)
  · intro h; exact Int.ofNat_le.2 (mval_le h)
theorem big_pos' {q : Nat} (hq : q < double.infRung) : (FloatKind.f64.format.order (double.word true q) 4841369599423283200 == some .gt || FloatKind.f64.format.order (double.word true q) 4841369599423283200 == some .eq) = false := by
  have h := geq_words true false hq R52_inf
  rw [word_false R52] at h
  rw [h]
  have : 0 < mval double R52 := by rcases Nat.eq_zero_or_pos (mval double R52) with h | h
                                   · exact absurd (mval_zero h) (by decide)
                                   · exact h
  unfold sv
  simp; omega
theorem big_neg {q : Nat} (hq : q < double.infRung) : (FloatKind.f64.format.order (double.word true q) 14064741636278059008 == some .lt || FloatKind.f64.format.order (double.word true q) 14064741636278059008 == some .eq) = decide (R52 ≤ q) := by
  have h := leq_words true true hq R52_inf
  rw [R52_neg] at h
  rw [h]
  unfold sv
  simp only [↓reduceIte, decide_eq_decide]
  constructor
  · intro h; exact le_of_mval (f := double) (by omega)
  · intro h; have := mval_le (f := double) h; omega
theorem big_neg' {q : Nat} (hq : q < double.infRung) : (FloatKind.f64.format.order (double.word false q) 14064741636278059008 == some .lt || FloatKind.f64.format.order (double.word false q) 14064741636278059008 == some .eq) = false := by
  have h := leq_words false true hq R52_inf
  rw [R52_neg] at h
  rw [h]
  have : 0 < mval double R52 := by rcases Nat.eq_zero_or_pos (mval double R52) with h | h
                                   · exact absurd (mval_zero h) (by decide)
                                   · exact h
  unfold sv
  simp; omega
theorem small_val {q K : Nat} (hK : K = 1074) (h : ¬ R52 ≤ q) : mval double q < 4503599627370496 * 2 ^ K := by
  rw [← R52_val hK]; exact mval_lt (by omega)
theorem small_int {q K : Nat} (hK : K = 1074) (s : Bool) (hq : q < double.infRung) (h : ¬ R52 ≤ q) : floatToIntVal .f64 (double.word s q) .i64 = some (sv s (mval double q / 2 ^ K)) := by
  refine toIntVal_word hK s hq ?_
  have := (Nat.div_lt_iff_lt_mul (Nat.two_pow_pos K)).2 (small_val hK h)
  omega
theorem abs_word (s : Bool) {q : Nat} (hq : q < double.infRung) : double.word s q % 9223372036854775808 = double.word false q := by
  have := word_rung (f := double) (s := s) (r := q) (by rw [S64]; rw [I64] at hq; omega)
  rw [S64] at this; rw [this, word_false]

/-- a float32, widened -/
theorem wide_cases {x : Nat} (hx : x < 4294967296) : (∃ s q, q < double.infRung ∧ (∀ w, cres .f32 x .f64 w = double.word s q) ∧ cop .f32 x .f64 = double.word s q ∧ finB x = true ∧ Bd 1151 (double.word s q)) ∨
    (finB x = false ∧ ∀ w, isN .f64 (fop .sub .f64 (cres .f32 x .f64 w) (cres .f32 x .f64 w)) = true) := by
  rcases kinds .f32 (w := x) hx with ⟨s, r, hr, rfl⟩ | ⟨s, rfl⟩ | h
  · left
    have hb := wide_kinds hx
    rw [fmt32] at *
    obtain ⟨K, hK⟩ : ∃ K : Nat, K = 925 := ⟨_, rfl⟩
    obtain ⟨q, hq, hv, e⟩ := widen_word s hK (by rw [I32] at hr; exact hr)
    have hc : cop .f32 (single.word s r) .f64 = double.word s q := by unfold cop; rw [e]; rfl
    refine ⟨s, q, by rw [I64]; exact hq, fun w => cres_some w e, hc, ?_, ?_⟩
    · unfold finB
      have := self_zero .f32 s (r := r) (by rw [fmt32]; exact hr)
      rw [fmt32] at this
      rw [this]; decide +kernel
    · rcases hb with ⟨_, h⟩ | ⟨t, h⟩ | ⟨h, _⟩
      · rw [hc] at h; exact h
      · exfalso
        rw [hc] at h
        have h1 := word_rung (f := double) (s := s) (r := q) (by rw [S64]; omega)
        have h2 := word_rung (f := double) (s := t) (r := double.infRung) (by rw [S64, I64]; omega)
        rw [h, h2, I64] at h1; omega
      · have := isN_word .f32 s (r := r) (by rw [fmt32]; omega)
        rw [fmt32] at this; rw [this] at h; cases h
  · right
    refine ⟨?_, fun w => ?_⟩
    · unfold finB
      rw [order_nan_l (self_inf .f32 s)]; rfl
    · rw [fmt32, cres_some w (widen_inf s)]
      exact self_inf .f64 s
  · right
    refine ⟨?_, fun w => ?_⟩
    · unfold finB
      rw [order_nan_l (self_nan h)]; rfl
    · exact self_nan (cres_nan w (by decide) h)
theorem self_ok (s : Bool) {q : Nat} (hq : q < double.infRung) : (FloatKind.f64.format.order (fop .sub .f64 (double.word s q) (double.word s q)) 0 != some .eq) = false := by
  have := self_zero .f64 s (r := q) hq
  rw [fmt64] at this ⊢
  rw [this]; decide +kernel
theorem self_no {y : Nat} (h : isN .f64 (fop .sub .f64 y y) = true) : (FloatKind.f64.format.order (fop .sub .f64 y y) 0 != some .eq) = true := by
  rw [order_nan_l h]; rfl
end Fl
theorem NaN_any (w : World) : Calls Try.prog 15 #[] w fun e w' => e = .returned (.float .f64 9221120237041090561) ∧ w = w' := by
  go_enter Try.func15, Try.ntmps15
  go_wp2
  go_ret
  exact ⟨rfl, rfl⟩
end Go.Proofs.Ytdbcjldengemeaa

namespace Go.Proofs.Ytdbcjldengemeaa
open Go.RowKit Fl Ieee
namespace Fl
abbrev two64 : Nat := 4611686018427387904
abbrev ln2 : Nat := 4604418534313441775
theorem geq_nat {x c : Nat} (hx : x < 9218868437227405312) (hc : c < 9218868437227405312) : (FloatKind.f64.format.order x c == some .gt || FloatKind.f64.format.order x c == some .eq) = decide (c ≤ x) := by
  have h := geq_words false false (r := x) (q := c) (by rw [I64]; exact hx) (by rw [I64]; exact hc)
  rw [word_false, word_false] at h
  rw [h]
  unfold sv
  simp only [Bool.false_eq_true, ↓reduceIte, decide_eq_decide]
  exact ⟨fun h => le_of_mval (f := double) (Int.ofNat_le.1 h), fun h => Int.ofNat_le.2 (mval_le h)⟩
theorem lt_nat {x c : Nat} (hx : x < 9218868437227405312) (hc : c < 9218868437227405312) : (FloatKind.f64.format.order x c == some .lt) = decide (x < c) := by
  have h := order_words double false false (r := x) (q := c) (by rw [I64]; exact hx) (by rw [I64]; exact hc)
  rw [word_false, word_false] at h
  rw [fmt64, h, Bool.eq_iff_iff]
  unfold sv
  simp only [Bool.false_eq_true, ↓reduceIte, beq_iff_eq, Option.some.injEq, cmp_lt, decide_eq_true_eq]
  constructor
  · intro h
    rcases Nat.lt_or_ge x c with g | g
    · exact g
    · have := mval_le (f := double) g; omega
  · intro h; exact Int.ofNat_lt.2 (mval_lt h)

theorem mval_up {q : Nat} (h : 4503599627370496 ≤ q) : mval double (q + 4503599627370496) = 2 * mval double q := by
  unfold mval
  rw [B64, if_neg (by omega), if_neg (by omega)]
  have h1 : (q + 4503599627370496) % 4503599627370496 = q % 4503599627370496 := by omega
  have h2 : (q + 4503599627370496) / 4503599627370496 - 1 = (q / 4503599627370496 - 1) + 1 := by omega
  rw [h1, h2, Nat.pow_succ]
  generalize 2 ^ (q / 4503599627370496 - 1) = P
  generalize 4503599627370496 + q % 4503599627370496 = M
  rw [← Nat.mul_assoc, Nat.mul_comm]
theorem two_val {K : Nat} (hK : K = 1074) : mval double 4611686018427387904 = 2 * 2 ^ K := by subst hK; decide +kernel
/-- doubling is exact -/
theorem twice_word {q : Nat} (h : 4503599627370496 ≤ q) (h2 : q + 4503599627370496 < 9218868437227405312) : floatBits .mul .f64 q 4611686018427387904 = some (q + 4503599627370496) := by
  obtain ⟨K, hK⟩ : ∃ K : Nat, K = 1074 := ⟨_, rfl⟩
  obtain ⟨T, D, e, he⟩ := mul_words double false false (r := q) (q := 4611686018427387904) (b := K) (by rw [hK]; exact least64) (by rw [I64]; omega) (by rw [I64]; omega)
  rw [word_false, word_false] at e
  have e' : floatBits .mul .f64 q 4611686018427387904 = double.mul q 4611686018427387904 := rfl
  rw [e', e]
  have := nearest_exact double (false ^^ false) (m := T) (d := D) (b := K) (r := q + 4503599627370496) (by rw [he, mval_up h, two_val hK]; generalize mval double q = v; generalize 2 ^ K = P; rw [Nat.mul_comm 2 v, Nat.mul_assoc]) (by rw [I64]; exact h2)
  rw [this]; exact congrArg some (word_false _)
theorem two_read : double.read 4611686018427387904 = .number false 4503599627370496 (-51) := by decide +kernel
/-- halving is exact -/
theorem half_word {q : Nat} (h : 2 * 4503599627370496 ≤ q) (h2 : q < 9218868437227405312) : floatBits .quo .f64 q 4611686018427387904 = some (q - 4503599627370496) := by
  have hq : q < double.infRung := by rw [I64]; exact h2
  obtain ⟨m, d, e1, e2, hm, hd⟩ := read_num double false hq
  rw [word_false] at e1
  rw [B64] at hm hd
  have hmB : 4503599627370496 ≤ m := by
    rcases hd with rfl | g
    · rw [Nat.pow_zero, Nat.mul_one] at e2
      have h1 : mval double 4503599627370496 ≤ mval double q := mval_le (by omega)
      have h3 : mval double 4503599627370496 = 4503599627370496 := by decide +kernel
      omega
    · exact g
  have hl : m.log2 = 52 := by
    have h0 : m ≠ 0 := by omega
    have a := (Nat.le_log2 h0 (k := 52)).2 (by omega)
    have b := (Nat.log2_lt h0 (k := 53)).2 (by omega)
    omega
  have e' : floatBits .quo .f64 q 4611686018427387904 = double.div q 4611686018427387904 := rfl
  rw [e']
  unfold Format.div
  rw [e1, two_read]
  have hfb : double.fractionBits = 52 := rfl
  have hl2 : Nat.log2 4503599627370496 = 52 := by decide +kernel
  simp only [Datum.quotient, if_neg (show ¬ (4503599627370496 : Nat) = 0 by omega), hl, hl2, hfb, Option.map_some, Format.write, Nat.shiftLeft_eq]
  have hdiv : m * 2 ^ (52 + 2 + 52 - 52) / 4503599627370496 = 4 * m := by
    have : m * 2 ^ (52 + 2 + 52 - 52) = 4 * m * 4503599627370496 := by
      have : (2 : Nat) ^ (52 + 2 + 52 - 52) = 4 * 4503599627370496 := by decide
      rw [this]; omega
    rw [this, Nat.mul_div_cancel _ (by omega)]
  have hmod : m * 2 ^ (52 + 2 + 52 - 52) % 4503599627370496 = 0 := by
    have : m * 2 ^ (52 + 2 + 52 - 52) = 4 * m * 4503599627370496 := by
      have : (2 : Nat) ^ (52 + 2 + 52 - 52) = 4 * 4503599627370496 := by decide
      rw [this]; omega
    rw [this, Nat.mul_mod_left]
  rw [hdiv, hmod]
  have hz : ((0 : Nat) != 0).toNat = 0 := rfl
  rw [hz, Nat.add_zero]
  have hval : 2 * mval double (q - 4503599627370496) = mval double q := by
    have := mval_up (q := q - 4503599627370496) (by omega)
    rw [show q - 4503599627370496 + 4503599627370496 = q by omega] at this
    omega
  have := nearest_exact double (false ^^ false) (m := 2 * (4 * m)) (d := d) (b := 4) (r := q - 4503599627370496) (by
    have : 2 * (4 * m) * 2 ^ d = 8 * (m * 2 ^ d) := by rw [← Nat.mul_assoc, Nat.mul_assoc]
    rw [this, e2, ← hval]; omega) (by rw [I64]; omega)
  have e3 : (double.leastPlace + (d : Int) - -51 - ((52 + 2 + 52 - 52 : Nat) : Int) - 1) = double.leastPlace + (d : Int) - ((4 : Nat) : Int) := by omega
  rw [e3, this]; exact congrArg some (word_false _)

/-! ### the pure form -/
/-- how often it is halved, and what comes of it; how often that is doubled -/
def halves (q : Nat) : Nat := (q + 4503599627370496 - 4609434218613702656) / 4503599627370496
def halved (q : Nat) : Nat := q - halves q * 4503599627370496
def twices (x : Nat) : Nat := (4604930618986332160 + 4503599627370495 - x) / 4503599627370496
def twiced (x : Nat) : Nat := x + twices x * 4503599627370496
def kL (j : Nat) : Nat := floatOfInt .f64 (25 - 2 * j)
def qL (u : Nat) : Nat → Nat
  | 0 => 0
  | j + 1 => fop .add .f64 (fop .quo .f64 one64 (kL j)) (fop .mul .f64 u (qL u j))
def sL (x : Nat) : Nat := fop .quo .f64 (fop .sub .f64 x one64) (fop .add .f64 x one64)
def tailL (x : Nat) (E : Int) : Nat := fop .add .f64 (fop .mul .f64 two64 (fop .mul .f64 (sL x) (qL (fop .mul .f64 (sL x) (sL x)) 13))) (fop .mul .f64 (floatOfInt .f64 E) ln2)
def logF (q : Nat) : Nat := tailL (twiced (halved q)) ((halves q : Int) - (twices (halved q) : Int))

theorem inc_int {z : Int} (h1 : -200 ≤ z) (h2 : z ≤ 200) : floatBits .add .f64 (floatOfInt .f64 z) one64 = some (floatOfInt .f64 (z + 1)) := by
  have h : ∀ i : Fin 401, floatBits .add .f64 (floatOfInt .f64 ((i.val : Int) - 200)) one64 = some (floatOfInt .f64 ((i.val : Int) - 200 + 1)) := by decide +kernel
  have := h ⟨(z + 200).toNat, by omega⟩
  have e : (((z + 200).toNat : Nat) : Int) - 200 = z := by omega
  simp only [e] at this; exact this
theorem dec_int {z : Int} (h1 : -200 ≤ z) (h2 : z ≤ 200) : floatBits .sub .f64 (floatOfInt .f64 z) one64 = some (floatOfInt .f64 (z - 1)) := by
  have h : ∀ i : Fin 401, floatBits .sub .f64 (floatOfInt .f64 ((i.val : Int) - 200)) one64 = some (floatOfInt .f64 ((i.val : Int) - 200 - 1)) := by decide +kernel
  have := h ⟨(z + 200).toNat, by omega⟩
  have e : (((z + 200).toNat : Nat) : Int) - 200 = z := by omega
  simp only [e] at this; exact this
theorem kL_dec : ∀ j, j < 13 → floatBits .sub .f64 (kL j) two64 = some (kL (j + 1)) := by
  have h : ∀ j : Fin 13, floatBits .sub .f64 (kL j.val) two64 = some (kL (j.val + 1)) := by decide +kernel
  intro j hj; exact h ⟨j, hj⟩
theorem kL_on : ∀ j, j < 13 → (FloatKind.f64.format.order (kL j) one64 == some .gt || FloatKind.f64.format.order (kL j) one64 == some .eq) = true := by
  have h : ∀ j : Fin 13, (FloatKind.f64.format.order (kL j.val) one64 == some .gt || FloatKind.f64.format.order (kL j.val) one64 == some .eq) = true := by decide +kernel
  intro j hj; exact h ⟨j, hj⟩
theorem kL_off : (FloatKind.f64.format.order (kL 13) one64 == some .gt || FloatKind.f64.format.order (kL 13) one64 == some .eq) = false := by decide +kernel
/-- falling with the rounds: the last one is below zero -/
def fall (b : Nat) : Nat := if b < 9223372036854775808 then b + 1 else 0
theorem kL_fall : ∀ j, j < 13 → fall (kL (j + 1)) < fall (kL j) := by
  have h : ∀ j : Fin 13, fall (kL (j.val + 1)) < fall (kL j.val) := by decide +kernel
  intro j hj; exact h ⟨j, hj⟩
theorem kL_zero : 4627730092099895296 = kL 0 := by decide +kernel
theorem kL_lb : ∀ j, j < 13 → Lb 1023 (kL j) := by
  have h : ∀ j : Fin 13, kL j.val < double.infRung ∧ 1023 * double.binade ≤ kL j.val := by decide +kernel
  intro j hj
  obtain ⟨h1, h2⟩ := h ⟨j, hj⟩
  exact lb_of h2 (by omega) h1

theorem qL_bd {u : Nat} (hu : Bd 1029 u) : ∀ j, j ≤ 13 → Bd (1023 + 7 * j) (qL u j)
  | 0, _ => const_bd (Nat.zero_le _) (by omega) (by omega)
  | j + 1, h => by
    have ih := qL_bd hu j (by omega)
    unfold qL
    have h1 := quo_bd (c := 1023) one_bd (kL_lb j (by omega)) (by omega) (by omega) (by omega)
    have h2 := mul_bd (c := 1029 + 7 * j) hu ih (by omega) (by omega) (by omega)
    exact add_bd (c := 1023 + 7 * (j + 1)) h1 h2 (by omega) (by omega) (by omega)
theorem const_nb {e c : Nat} (h : c ≤ e * double.binade) (h1 : 1 ≤ e) (h2 : e ≤ 2046) : Nb e c := by
  refine ⟨c, (word_false _).symm, Nat.lt_of_le_of_lt h (pow_rung_lt h2), ?_⟩
  rw [← mval_pow h1]; exact mval_le h
theorem tailL_bd {x : Nat} {E : Int} (h1 : 4602678819172646912 ≤ x) (h2 : x ≤ 4611686018427387904) (hE : E.natAbs ≤ 1000) : Bd 1149 (tailL x E) := by
  have hB := B64
  have hx : Bd 1024 x := const_bd (by rw [B64]; omega) (by omega) (by omega)
  have hl : Lb 1022 x := lb_of (by rw [B64]; omega) (by omega) (by rw [I64]; omega)
  have ho : Nb 1024 one64 := const_nb (by rw [B64]; decide) (by omega) (by omega)
  have hsub := sub_bd (c := 1025) hx one_bd (by omega) (by omega) (by omega)
  obtain ⟨hadd, _⟩ := add_lb (c := 1025) hl hx ho (by omega) (by omega) (by omega)
  have hs : Bd 1026 (sL x) := quo_bd hsub hadd (by omega) (by omega) (by omega)
  have hu := mul_bd (c := 1029) hs hs (by omega) (by omega) (by omega)
  have hq := qL_bd hu 13 (by omega)
  have hsq := mul_bd (c := 1117) hs hq (by omega) (by omega) (by omega)
  have h2s := mul_bd (c := 1118) (const_bd (e := 1024) (c := two64) (by rw [B64]; decide) (by omega) (by omega)) hsq (by omega) (by omega) (by omega)
  obtain ⟨K, hK⟩ : ∃ K : Nat, K = 1074 := ⟨_, rfl⟩
  obtain ⟨r, hr, hv, e⟩ := ofInt_word hK E (by omega)
  have hEb : Bd 1033 (floatOfInt .f64 E) := by
    refine ⟨_, r, e, hr, ?_⟩
    rw [hv]
    have h3 : E.natAbs ≤ 2 ^ 10 := by omega
    obtain ⟨C, hC⟩ : ∃ C : Nat, C = 1033 := ⟨_, rfl⟩
    rw [← hC]
    refine Nat.le_trans (Nat.mul_le_mul_right _ h3) ?_
    rw [← Nat.pow_add]
    exact Nat.pow_le_pow_right (by omega) (by omega)
  have hEl := mul_bd (c := 1033) hEb (const_bd (e := 1023) (c := ln2) (by rw [B64]; decide) (by omega) (by omega)) (by omega) (by omega) (by omega)
  unfold tailL
  exact (add_bd (c := 1119) h2s hEl (by omega) (by omega) (by omega)).mono (by omega)
theorem log_bd {q : Nat} (h1 : 3936146074321813504 ≤ q) (h2 : q ≤ 5183643171103440896) : Bd 1149 (logF q) := by
  unfold logF
  refine tailL_bd ?_ ?_ ?_ <;> simp only [twiced, twices, halved, halves] <;> omega
def rankL : Value → Nat
  | .float _ b => b
  | _ => 0
theorem rankL_float (k : FloatKind) (b : Nat) : rankL (.float k b) = b := rfl
def fallL : Value → Nat
  | .float _ b => fall b
  | _ => 0
end Fl

set_option maxHeartbeats 1000000 in
set_option maxRecDepth 100000 in
theorem naturalLog_any (y : Nat) (h1 : 3936146074321813504 ≤ y) (h2 : y ≤ 5183643171103440896) (w : World) : Calls Try.prog 25 #[.float .f64 y] w fun e w' => ∃ r, e = .returned (.float .f64 r) ∧ Sim .f64 r (logF y) ∧ ∃ n, w' = w.drewN n := by
  have HY1 := Lib.hid h1
  have HY2 := Lib.hid h2
  clear h1 h2
  have HP := Lib.hid (show logF y = tailL (twiced (halved y)) ((halves y : Int) - (twices (halved y) : Int)) from rfl)
  generalize logF y = P at *
  go_enter Try.func25, Try.ntmps25
  go_wp2
  go_loopw [0, 3] (fun v0 v3 w' => ∃ (x j : Nat) (e : Nat), v0 = .float .f64 x ∧ v3 = .float .f64 e ∧ RowKit.Hid (x + j * 4503599627370496 = y ∧ (j = 0 ∨ 4609434218613702656 ≤ x + 4503599627370496)) ∧ RowKit.Hid (e = floatOfInt .f64 (j : Int)) ∧ RowKit.Hid (∃ c, w' = w.drewN c)) (fun v0 _ _ => rankL v0)
  case atStart => exact ⟨y, 0, _, rfl, rfl, ⟨by omega, .inl rfl⟩, (by decide +kernel : _ = _), (show ∃ c, _ = w.drewN c from ⟨0, rfl⟩)⟩
  case round =>
    obtain ⟨x, j, e, rfl, rfl, HX, HE, HW⟩ := hrel
    by_cases hx : 4609434218613702656 ≤ x
    · have hlim : x < 9218868437227405312 := by have := HX.out.1; have := HY2.out; omega
      have hj : j ≤ 150 := by have := HX.out.1; have := HY2.out; omega
      have gx : (FloatKind.f64.format.order x 4609434218613702656 == some .gt || FloatKind.f64.format.order x 4609434218613702656 == some .eq) = true := by rw [geq_nat hlim (by omega)]; exact decide_eq_true hx
      obtain ⟨x', hx'⟩ : ∃ x', x' + 4503599627370496 = x := ⟨x - 4503599627370496, by omega⟩
      have hh : ∀ w, fres .quo .f64 x 4611686018427387904 w = x' := fun w => fres_some w ((half_word (by omega) hlim).trans (congrArg some (by omega)))
      have HXN := Lib.hid hx'
      clear hx'
      have he : ∀ w, fres .add .f64 e 4607182418800017408 w = floatOfInt .f64 ((j : Int) + 1) := fun w => fres_some w (by rw [HE.out]; exact inc_int (by omega) (by omega))
      have HXX := Lib.hid hx
      clear hx hlim
      go_wp2
      go_roundw
      case rel => exact ⟨_, j + 1, _, rfl, rfl, (show _ ∧ _ from ⟨by have := HX.out.1; have := HXX.out; have := HXN.out; omega, .inr (by have := HXX.out; have := HXN.out; omega)⟩), (congrArg (floatOfInt .f64) (by omega) : _ = _), (by obtain ⟨c, h⟩ := HW.out; exact ⟨_, by rw [h]; simp only [World.drewN_drewN]; rfl⟩)⟩
      case measure => have := HXX.out; have := HXN.out; simp only [rankL_float]; omega
    · have hlim : x < 9218868437227405312 := by have := HX.out.1; have := HY2.out; omega
      have gx : (FloatKind.f64.format.order x 4609434218613702656 == some .gt || FloatKind.f64.format.order x 4609434218613702656 == some .eq) = false := by rw [geq_nat hlim (by omega)]; exact decide_eq_false hx
      have HH : RowKit.Hid (halves y = j ∧ halved y = x) := by
        have := HX.out
        refine (show _ ∧ _ from ?_)
        unfold halved halves; omega
      have HR : RowKit.Hid (3936146074321813504 ≤ x ∧ j ≤ 150) := (show _ ∧ _ from by have := HX.out; have := HY1.out; have := HY2.out; omega)
      have HLIM := Lib.hid hlim
      have HXX := Lib.hid hx
      clear hx hlim HX
      go_wp2
      go_loopw [0, 3] (fun v0 v3 w' => ∃ (z i : Nat) (e : Nat), v0 = .float .f64 z ∧ v3 = .float .f64 e ∧ RowKit.Hid (z = x + i * 4503599627370496 ∧ (i = 0 ∨ z < 4604930618986332160 + 4503599627370496)) ∧ RowKit.Hid (e = floatOfInt .f64 ((j : Int) - i)) ∧ RowKit.Hid (∃ c, w' = w.drewN c)) (fun v0 _ _ => 9218868437227405312 - rankL v0)
      case atStart => exact ⟨x, 0, _, rfl, rfl, ⟨by omega, .inl rfl⟩, (by rw [HE.out]; exact congrArg _ (by omega)), HW⟩
      case round =>
        obtain ⟨z, i, d, rfl, rfl, HZ, HD, HV⟩ := hrel
        by_cases hz : z < 4604930618986332160
        · have hi : i ≤ 160 := by have := HZ.out.1; have := HR.out.1; omega
          have gz : (FloatKind.f64.format.order z 4604930618986332160 == some .lt) = true := by rw [lt_nat (by omega) (by omega)]; exact decide_eq_true hz
          obtain ⟨z', hz'⟩ : ∃ z', z' = z + 4503599627370496 := ⟨_, rfl⟩
          have hh : ∀ w, fres .mul .f64 z 4611686018427387904 w = z' := fun w => fres_some w ((twice_word (by have := HZ.out.1; have := HR.out.1; omega) (by omega)).trans (congrArg some (by omega)))
          have HZN := Lib.hid hz'
          clear hz'
          have he : ∀ w, fres .sub .f64 d 4607182418800017408 w = floatOfInt .f64 ((j : Int) - i - 1) := fun w => fres_some w (by rw [HD.out]; exact dec_int (by have := HR.out.2; omega) (by have := HR.out.2; omega))
          have HZZ := Lib.hid hz
          clear hz
          go_wp2
          go_roundw
          case rel => exact ⟨_, i + 1, _, rfl, rfl, (show _ ∧ _ from ⟨by have := HZ.out.1; have := HZN.out; omega, .inr (by have := HZZ.out; have := HZN.out; omega)⟩), (congrArg (floatOfInt .f64) (by omega) : _ = _), (by obtain ⟨c, h⟩ := HV.out; exact ⟨_, by rw [h]; simp only [World.drewN_drewN]; rfl⟩)⟩
          case measure => have := HZZ.out; have := HZN.out; simp only [rankL_float]; omega
        · have hzl : z < 9218868437227405312 := by have := HZ.out; have := HLIM.out; omega
          have gz : (FloatKind.f64.format.order z 4604930618986332160 == some .lt) = false := by rw [lt_nat hzl (by omega)]; exact decide_eq_false hz
          have HT : RowKit.Hid (twices x = i ∧ twiced x = z) := by
            have := HZ.out
            refine (show _ ∧ _ from ?_)
            unfold twiced twices; omega
          have HFIN : RowKit.Hid (P = tailL z ((j : Int) - (i : Int))) := by rw [HP.out, HH.out.1, HH.out.2, HT.out.1, HT.out.2]; rfl
          have HIB : RowKit.Hid (i ≤ 160) := (show _ ≤ _ from by have := HZ.out.1; have := HR.out.1; have := HZ.out; omega)
          clear hz hzl HZ
          go_wp2
          generalize hs : fres .quo .f64 _ _ _ = s
          have HS : RowKit.Hid (Sim .f64 s (sL z)) := by rw [← hs]; exact fres_of _ (fres_sim ..) (fres_sim ..)
          clear hs
          generalize hu : fres .mul .f64 s s _ = u
          have HU : RowKit.Hid (Sim .f64 u (fop .mul .f64 (sL z) (sL z))) := by rw [← hu]; exact fres_of _ HS.out HS.out
          clear hu
          go_loopw [6, 7] (fun v6 v7 w' => ∃ (q k m : Nat), v6 = .float .f64 q ∧ v7 = .float .f64 k ∧ RowKit.Hid (m ≤ 13) ∧ RowKit.Hid (k = kL m) ∧ RowKit.Hid (Sim .f64 q (qL (fop .mul .f64 (sL z) (sL z)) m)) ∧ RowKit.Hid (∃ c, w' = w.drewN c)) (fun _ v7 _ => fallL v7)
          case atStart => exact ⟨0, 4627730092099895296, 0, rfl, rfl, Nat.zero_le 13, kL_zero, Sim.refl .f64 _, (by obtain ⟨c, h⟩ := HV.out; exact ⟨_, by rw [h]; simp only [World.drewN_drewN]; rfl⟩)⟩
          case round =>
            obtain ⟨q, k, m, rfl, rfl, HM, HK, HQ, HW2⟩ := hrel
            by_cases hm : m < 13
            · have gk : (FloatKind.f64.format.order k 4607182418800017408 == some .gt || FloatKind.f64.format.order k 4607182418800017408 == some .eq) = true := by rw [HK.out]; exact kL_on m hm
              have HMM := Lib.hid hm
              clear hm
              go_wp2
              go_roundw
              case rel =>
                refine ⟨_, _, m + 1, rfl, rfl, HMM.out, ?_, ?_, ?_⟩
                · exact fres_some _ (by rw [HK.out]; exact kL_dec m HMM.out)
                · show Sim .f64 _ (fop .add .f64 (fop .quo .f64 one64 (kL m)) (fop .mul .f64 (fop .mul .f64 (sL z) (sL z)) (qL (fop .mul .f64 (sL z) (sL z)) m)))
                  rw [← HK.out]
                  exact fres_of _ (fres_sim ..) (fres_of _ HU.out HQ.out)
                · obtain ⟨c, h⟩ := HW2.out; exact ⟨_, by rw [h]; simp only [World.drewN_drewN]; rfl⟩
              case measure =>
                show fall (fres .sub .f64 k two64 _) < fall k
                rw [fres_some _ (by rw [HK.out]; exact kL_dec m HMM.out), HK.out]
                exact kL_fall m HMM.out
            · obtain rfl : m = 13 := by have := HM.out; omega
              have gk : (FloatKind.f64.format.order k 4607182418800017408 == some .gt || FloatKind.f64.format.order k 4607182418800017408 == some .eq) = false := by rw [HK.out]; exact kL_off
              clear hm
              go_wp2
              go_ret
              refine ⟨_, rfl, ?_, by obtain ⟨c, h⟩ := HW2.out; exact ⟨_, by rw [h]; simp only [World.drewN_drewN]; rfl⟩⟩
              rw [HFIN.out]
              unfold tailL
              rw [← HD.out]
              exact fres_of _ (fres_of _ (Sim.refl ..) (fres_of _ HS.out HQ.out)) (fres_sim ..)
theorem IsInf_any (x : Nat) (w : World) : Calls Try.prog 35 #[.float .f64 x, .int .i64 1] w fun e w' => e = .returned (.bool (FloatKind.f64.format.order x 9218868437227405311 == some .gt)) ∧ w = w' := by
  go_enter Try.func35, Try.ntmps35
  go_wp2
  go_ret
  exact ⟨rfl, rfl⟩
end Go.Proofs.Ytdbcjldengemeaa

namespace Go.Proofs.Ytdbcjldengemeaa
open Go.RowKit Fl Ieee
namespace Fl
theorem quo_rel {s : Bool} {r q c K0 : Nat} (hK0 : K0 = 1074) (hr : r < double.infRung) (hq : q < double.infRung) (hq0 : mval double q ≠ 0) (h : mval double r * 2 ^ K0 ≤ 2 ^ (51 + c) * mval double q) (h1 : 1 ≤ c) (hc : c ≤ 2046) : Bd c (fop .quo .f64 (double.word s r) (double.word false q)) := by
  obtain ⟨m, d, n, e, more, h2, h3, h4, hbig, h5⟩ := div_words double s false hr hq hq0
  rw [fop_of (op := .quo) (k := .f64) h5]
  -- in units: the place is least + (d + 1074) - (e + more + 1)
  obtain ⟨K, hK⟩ : ∃ K : Nat, K = 1074 := ⟨_, rfl⟩
  have hpl : ((d : Int) - e - more - 1) = double.leastPlace + ((d + K : Nat) : Int) - ((e + more + 1 : Nat) : Int) := by rw [P64]; omega
  rw [hpl]
  refine bd_nearest _ h1 hc ?_
  rw [← h2, ← h3, hK0, ← hK] at h
  have key : m * 2 ^ more * 2 ^ (d + K) ≤ n * (2 ^ (51 + c) * 2 ^ (e + more)) := by
    have e1 : m * 2 ^ more * 2 ^ (d + K) = m * 2 ^ d * 2 ^ K * 2 ^ more := by
      rw [Nat.mul_assoc, ← Nat.pow_add, Nat.mul_assoc, Nat.mul_assoc, ← Nat.pow_add, ← Nat.pow_add]; congr 2; omega
    have e2 : n * (2 ^ (51 + c) * 2 ^ (e + more)) = 2 ^ (51 + c) * (n * 2 ^ e) * 2 ^ more := by
      rw [Nat.pow_add 2 e more]
      generalize 2 ^ (51 + c) = A
      generalize 2 ^ e = B
      generalize 2 ^ more = C
      rw [Nat.mul_left_comm, ← Nat.mul_assoc n, ← Nat.mul_assoc A]
    rw [e1, e2]
    exact Nat.mul_le_mul_right _ h
  by_cases ht : d + K ≤ 51 + c + (e + more)
  · obtain ⟨t, ht'⟩ : ∃ t, 51 + c + (e + more) = d + K + t := ⟨51 + c + (e + more) - (d + K), by omega⟩
    have h6 : m * 2 ^ more ≤ n * 2 ^ t := by
      have e3 : 2 ^ (51 + c) * 2 ^ (e + more) = 2 ^ t * 2 ^ (d + K) := by rw [← Nat.pow_add, ht', ← Nat.pow_add]; congr 1; omega
      rw [e3, ← Nat.mul_assoc] at key
      exact Nat.le_of_mul_le_mul_right key (Nat.two_pow_pos _)
    refine Nat.le_trans (Nat.mul_le_mul_right _ (quot_le h4 h6)) ?_
    rw [← Nat.pow_add, ← Nat.pow_add]
    exact Nat.pow_le_pow_right (by omega) (by omega)
  · -- the quotient is below one: nothing is left of it but what is told of the rest
    obtain ⟨t, ht'⟩ : ∃ t, d + K = 51 + c + (e + more) + (t + 1) := ⟨d + K - (51 + c + (e + more)) - 1, by omega⟩
    have h6 : m * 2 ^ more * 2 ^ (t + 1) ≤ n := by
      have e3 : 2 ^ (51 + c) * 2 ^ (e + more) = 2 ^ (51 + c + (e + more)) := by rw [← Nat.pow_add]
      have e4 : 2 ^ (d + K) = 2 ^ (t + 1) * 2 ^ (51 + c + (e + more)) := by rw [ht', ← Nat.pow_add]; congr 1; omega
      rw [e3, e4, ← Nat.mul_assoc] at key
      exact Nat.le_of_mul_le_mul_right key (Nat.two_pow_pos _)
    by_cases hm0 : m = 0
    · subst hm0; simp
    · exfalso
      have h7 := hbig hm0
      have h8 : m * 2 ^ more * 2 ≤ m * 2 ^ more * 2 ^ (t + 1) := Nat.mul_le_mul_left _ (by rw [Nat.pow_succ]; have := Nat.two_pow_pos t; omega)
      have h9 : 0 < m * 2 ^ more := Nat.mul_pos (by omega) (Nat.two_pow_pos _)
      omega



theorem nearest_false (m : Nat) (p : Int) : ∃ r', r' ≤ double.infRung ∧ double.nearest false m p = double.word false r' := by
  unfold Format.nearest
  split
  · exact ⟨0, Nat.zero_le _, rfl⟩
  · exact ⟨_, Nat.min_le_right .., rfl⟩
theorem nb_bd {c x r : Nat} (h : Bd c x) (e : x = double.word false r) (hr : r ≤ double.infRung) : Nb c x := by
  obtain ⟨s, q, e2, hq, hv⟩ := h
  have hsw : ∀ {z : Nat}, z ≤ double.infRung → z < double.signWeight := fun h => Nat.lt_of_le_of_lt h double.infRung_lt
  have h1 := word_rung (f := double) (s := false) (hsw hr)
  have h2 := word_rung (f := double) (s := s) (hsw (Nat.le_of_lt hq))
  rw [← e, e2, h2] at h1
  subst h1
  exact ⟨q, e, hq, hv⟩
theorem nb_of_lb {b c x : Nat} (h : Lb b x) (hb : Bd c x) : Nb c x := by
  obtain ⟨r, e, hr, _⟩ := h
  exact nb_bd hb e (Nat.le_of_lt hr)
theorem mul_nb {a b c x y : Nat} (hx : Nb a x) (hy : Nb b y) (h : a + b ≤ c + 1023) (h1 : 1 ≤ c) (hc : c ≤ 2046) : Nb c (fop .mul .f64 x y) := by
  have hb := mul_bd hx.bd hy.bd h h1 hc
  obtain ⟨r, e1, hr, _⟩ := hx
  obtain ⟨q, e2, hq, _⟩ := hy
  obtain ⟨K, hK⟩ : ∃ K : Nat, K = 1074 := ⟨_, rfl⟩
  obtain ⟨T, D, e, he⟩ := mul_words double false false (b := K) (by rw [hK]; exact least64) hr hq
  rw [← e1, ← e2] at e
  obtain ⟨r', hr', en⟩ := nearest_false T (double.leastPlace + D - K)
  exact nb_bd hb ((fop_of (op := .mul) (k := .f64) e).trans en) hr'
theorem quo_nb0 {c r q : Nat} (hr : r < double.infRung) (hq : q < double.infRung) (hq0 : mval double q ≠ 0) (hb : Bd c (fop .quo .f64 (double.word false r) (double.word false q))) : Nb c (fop .quo .f64 (double.word false r) (double.word false q)) := by
  obtain ⟨m, d, n, e, more, _, _, _, _, h5⟩ := div_words double false false hr hq hq0
  obtain ⟨r', hr', en⟩ := nearest_false (2 * (m * 2 ^ more / n) + (m * 2 ^ more % n != 0).toNat) (double.leastPlace + ((d : Int) - e - more - 1) - double.leastPlace)
  have e0 : double.leastPlace + ((d : Int) - e - more - 1) - double.leastPlace = (d : Int) - e - more - 1 := by omega
  rw [e0] at en
  exact nb_bd hb ((fop_of (op := .quo) (k := .f64) h5).trans en) hr'
theorem quo_nb {a b c x y : Nat} (hx : Nb a x) (hy : Lb b y) (h : a + 1023 ≤ c + b) (h1 : 1 ≤ c) (hc : c ≤ 2046) : Nb c (fop .quo .f64 x y) := by
  have hb := quo_bd hx.bd hy h h1 hc
  obtain ⟨r, e1, hr, _⟩ := hx
  obtain ⟨q, e2, hq, hu⟩ := hy
  rw [e1, e2] at hb ⊢
  exact quo_nb0 hr hq (by have := Nat.two_pow_pos (51 + b); omega) hb
theorem sqrt_nb {e c x : Nat} (h : Nb e x) (ho : e % 2 = 1) (hc : e + 1023 ≤ 2 * c) (hc1 : 1 ≤ c) (hc2 : c ≤ 2046) : Nb c (sop x) := by
  have hb := sqrt_bd h.bd ho hc hc1 hc2
  obtain ⟨r, ex, hr, _⟩ := h
  rw [ex] at hb ⊢
  clear ex
  obtain ⟨m, d, e1, e2, _, _⟩ := read_num double false hr
  have key : ∃ M p, double.sqrt (double.word false r) = some (double.nearest false M p) := by
    unfold Format.sqrt; rw [e1]
    by_cases hm : m = 0
    · subst hm; exact ⟨0, _, rfl⟩
    · simp only [Datum.root, if_neg hm]; exact ⟨_, _, rfl⟩
  obtain ⟨M, p, hs⟩ := key
  obtain ⟨r', hr', en⟩ := nearest_false M p
  have hv : sop (double.word false r) = double.word false r' := by unfold sop; rw [hs, Option.getD_some, en]
  rcases hb with g | g
  · rw [hv] at g
    have := isN_word .f64 false (r := r') hr'
    rw [fmt64] at this; rw [this] at g; cases g
  · exact nb_bd g hv hr'

/-! ### the pure form -/
def tstep (t : Nat) : Nat := fop .quo .f64 t (fop .add .f64 one64 (sop (fop .add .f64 one64 (fop .mul .f64 t t))))
def tN (t : Nat) : Nat → Nat
  | 0 => t
  | j + 1 => tstep (tN t j)
def kA (j : Nat) : Nat := floatOfInt .f64 (15 - 2 * j)
def pA (u : Nat) : Nat → Nat
  | 0 => 0
  | j + 1 => fop .sub .f64 (fop .quo .f64 one64 (kA j)) (fop .mul .f64 u (pA u j))
def angA (t : Nat) : Nat := fop .quo .f64 (fop .mul .f64 4620693217682128896 (fop .mul .f64 t (pA (fop .mul .f64 t t) 8))) turn64
def overA (a b : Nat) : Bool := FloatKind.f64.format.order a b == some .gt
def tA (a b : Nat) : Nat := if overA a b then fop .quo .f64 b a else fop .quo .f64 a b
def ang1 (o : Bool) (t : Nat) : Nat := if o then fop .sub .f64 quart64 (angA t) else angA t
def ang2 (o bx : Bool) (t : Nat) : Nat := if bx then fop .sub .f64 half64 (ang1 o t) else ang1 o t
def ang3 (o bx by' : Bool) (t : Nat) : Nat := if by' then Op.negFloat .f64 (ang2 o bx t) else ang2 o bx t

theorem kA_dec : ∀ j, j < 8 → floatBits .sub .f64 (kA j) two64 = some (kA (j + 1)) := by
  have h : ∀ j : Fin 8, floatBits .sub .f64 (kA j.val) two64 = some (kA (j.val + 1)) := by decide +kernel
  intro j hj; exact h ⟨j, hj⟩
theorem kA_on : ∀ j, j < 8 → (FloatKind.f64.format.order (kA j) one64 == some .gt || FloatKind.f64.format.order (kA j) one64 == some .eq) = true := by
  have h : ∀ j : Fin 8, (FloatKind.f64.format.order (kA j.val) one64 == some .gt || FloatKind.f64.format.order (kA j.val) one64 == some .eq) = true := by decide +kernel
  intro j hj; exact h ⟨j, hj⟩
theorem kA_off : (FloatKind.f64.format.order (kA 8) one64 == some .gt || FloatKind.f64.format.order (kA 8) one64 == some .eq) = false := by decide +kernel
theorem kA_fall : ∀ j, j < 8 → fall (kA (j + 1)) < fall (kA j) := by
  have h : ∀ j : Fin 8, fall (kA (j.val + 1)) < fall (kA j.val) := by decide +kernel
  intro j hj; exact h ⟨j, hj⟩
theorem kA_zero : 4624633867356078080 = kA 0 := by decide +kernel
theorem kA_lb : ∀ j, j < 8 → Lb 1023 (kA j) := by
  have h : ∀ j : Fin 8, kA j.val < double.infRung ∧ 1023 * double.binade ≤ kA j.val := by decide +kernel
  intro j hj
  obtain ⟨h1, h2⟩ := h ⟨j, hj⟩
  exact lb_of h2 (by omega) h1
theorem one_lb : Lb 1023 one64 := lb_of (by rw [B64]; decide) (by omega) (by rw [I64]; decide)
theorem one_nb : Nb 1023 one64 := const_nb (by rw [B64]; decide) (by omega) (by omega)
theorem Nb.mono {a b x : Nat} (h : Nb a x) (hab : a ≤ b) : Nb b x := by
  obtain ⟨r, h1, h2, h3⟩ := h
  exact ⟨r, h1, h2, Nat.le_trans h3 (Nat.pow_le_pow_right (by omega) (by omega))⟩
theorem tstep_nb {t : Nat} (h : Nb 1023 t) : Nb 1023 (tstep t) := by
  have h1 := mul_nb (c := 1023) h h (by omega) (by omega) (by omega)
  obtain ⟨h2, h3⟩ := add_lb (c := 1025) one_lb (one_nb.mono (b := 1024) (by omega)).bd (h1.mono (b := 1024) (by omega)) (by omega) (by omega) (by omega)
  have h4 := sqrt_nb (c := 1024) (nb_of_lb h2 h3) (by omega) (by omega) (by omega) (by omega)
  obtain ⟨h5, _⟩ := add_lb (c := 1025) one_lb (one_nb.mono (b := 1024) (by omega)).bd h4 (by omega) (by omega) (by omega)
  exact quo_nb h h5 (by omega) (by omega) (by omega)
theorem pA_bd {u : Nat} (hu : Bd 1023 u) : ∀ j, j ≤ 8 → Bd (1023 + j) (pA u j)
  | 0, _ => const_bd (Nat.zero_le _) (by omega) (by omega)
  | j + 1, h => by
    have ih := pA_bd hu j (by omega)
    unfold pA
    have h1 := quo_bd (c := 1023) one_bd (kA_lb j (by omega)) (by omega) (by omega) (by omega)
    have h2 := mul_bd (c := 1023 + j) hu ih (by omega) (by omega) (by omega)
    exact sub_bd (c := 1023 + (j + 1)) h1 h2 (by omega) (by omega) (by omega)
theorem ang_bd {t : Nat} (h : Nb 1023 t) : Bd 1035 (angA t) := by
  have hu := mul_bd (c := 1023) h.bd h.bd (by omega) (by omega) (by omega)
  have hp := pA_bd hu 8 (by omega)
  have h1 := mul_bd (c := 1031) h.bd hp (by omega) (by omega) (by omega)
  have h2 := mul_bd (c := 1034) (const_bd (e := 1026) (c := 4620693217682128896) (by rw [B64]; decide) (by omega) (by omega)) h1 (by omega) (by omega) (by omega)
  exact quo_bd (c := 1035) h2 (lb_of (e := 1025) (c := turn64) (by rw [B64]; decide) (by omega) (by rw [I64]; decide)) (by omega) (by omega) (by omega)
theorem ang3_bd {t : Nat} (o bx b : Bool) (h : Nb 1023 t) : Bd 1037 (ang3 o bx b t) := by
  have h1 := ang_bd h
  have hq : Bd 1023 quart64 := const_bd (by rw [B64]; decide) (by omega) (by omega)
  have h2 : Bd 1036 (ang1 o t) := by
    unfold ang1; split
    · exact sub_bd hq h1 (by omega) (by omega) (by omega)
    · exact h1.mono (by omega)
  have h3 : Bd 1037 (ang2 o bx t) := by
    unfold ang2; split
    · exact sub_bd half_bd h2 (by omega) (by omega) (by omega)
    · exact h2.mono (by omega)
  unfold ang3; split
  · exact neg_bd h3
  · exact h3
theorem tN_nb {t : Nat} (h : Nb 1023 t) : ∀ j, Nb 1023 (tN t j)
  | 0 => h
  | j + 1 => tstep_nb (tN_nb h j)
/-- the lesser over the greater -/
theorem quo_one {r q : Nat} (hq : q < double.infRung) (h : r ≤ q) (h0 : q ≠ 0) : Nb 1023 (fop .quo .f64 r q) := by
  have hr : r < double.infRung := Nat.lt_of_le_of_lt h hq
  have hq0 : mval double q ≠ 0 := fun e => h0 (mval_zero e)
  obtain ⟨K, hK⟩ : ∃ K : Nat, K = 1074 := ⟨_, rfl⟩
  obtain ⟨C, hC⟩ : ∃ C : Nat, C = 1023 := ⟨_, rfl⟩
  have hb : Bd C (fop .quo .f64 (double.word false r) (double.word false q)) := by
    refine quo_rel hK hr hq hq0 ?_ (by omega) (by omega)
    rw [show 51 + C = K by omega, Nat.mul_comm]
    exact Nat.mul_le_mul_left _ (mval_le h)
  have := quo_nb0 hr hq hq0 hb
  rw [word_false, word_false] at this
  rw [← hC]; exact this
theorem tA_nb {a b : Nat} (ha : a < 9218868437227405312) (hb : b < 9218868437227405312) (h : a ≠ 0 ∨ b ≠ 0) : Nb 1023 (tA a b) := by
  have hg : overA a b = decide (b < a) := by
    unfold overA
    have h1 := order_words double false false (r := a) (q := b) (by rw [I64]; exact ha) (by rw [I64]; exact hb)
    rw [word_false, word_false] at h1
    rw [fmt64, h1, Bool.eq_iff_iff]
    unfold sv
    simp only [Bool.false_eq_true, ↓reduceIte, beq_iff_eq, Option.some.injEq, cmp_gt, decide_eq_true_eq]
    constructor
    · intro h
      rcases Nat.lt_or_ge b a with g | g
      · exact g
      · have := mval_le (f := double) g; omega
    · intro h; exact Int.ofNat_lt.2 (mval_lt h)
  unfold tA
  rw [hg]
  by_cases hlt : b < a
  · rw [if_pos (decide_eq_true hlt)]
    exact quo_one (by rw [I64]; exact ha) (by omega) (by omega)
  · rw [if_neg (by rw [decide_eq_false hlt]; decide)]
    exact quo_one (by rw [I64]; exact hb) (by omega) (by omega)
end Fl
end Go.Proofs.Ytdbcjldengemeaa

namespace Go.Proofs.Ytdbcjldengemeaa
open Go.RowKit Fl Ieee
set_option maxHeartbeats 2000000 in
set_option maxRecDepth 100000 in
theorem AngleTurns_yes (y x Y X A B : Nat) (zx zy o bx b2 : Bool) (hz : (zx && zy) = false) (hf1 : finB x = true) (hf2 : finB y = true) (hzx : (FloatKind.f32.format.order x 0 == some .eq) = zx) (hzy : (FloatKind.f32.format.order y 0 == some .eq) = zy) (hX : X < 18446744073709551616) (hY : Y < 18446744073709551616)
    (hcx : ∀ w, cres .f32 x .f64 w = X) (hcy : ∀ w, cres .f32 y .f64 w = Y) (hA : Y % 9223372036854775808 = A) (hB : X % 9223372036854775808 = B) (ho : (FloatKind.f64.format.order A B == some .gt) = o) (hbx : (FloatKind.f32.format.order x 0 == some .lt) = bx) (hby : (FloatKind.f32.format.order y 0 == some .lt) = b2) (hN : Nar (ang3 o bx b2 (tN (tA A B) 3))) (w : World) :
    Calls Try.prog 19 #[.float .f32 y, .float .f32 x] w fun e w' => ∃ r, e = .returned (.float .f32 r) ∧ Sim .f32 r (cop .f64 (ang3 o bx b2 (tN (tA A B) 3)) .f32) ∧ ∃ n, w' = w.drewN n := by
  have HN := Lib.hid hN
  have HX := Lib.hid hX
  have HY := Lib.hid hY
  have HT0 := Lib.hid (show tA A B = if o then fop .quo .f64 B A else fop .quo .f64 A B by rw [← ho]; rfl)
  clear hX hY hN
  obtain ⟨T0, hT0⟩ : ∃ T0, T0 = tA A B := ⟨_, rfl⟩
  have HTT := Lib.hid hT0
  rw [← hT0] at HN HT0 ⊢
  clear hT0
  cases zx <;> cases zy <;> cases o
  case false.false.false =>
    clear hz
    go_enter Try.func19, Try.ntmps19
    go_wp2_with (first | (go_at_call 23; refine (IsFinite_any _ _).mono ?_; rintro e w' ⟨rfl, n, rfl⟩) | (go_at_call 16; first | (refine (Abs_any _ HX.out _).mono ?_; rintro e w' ⟨rfl, rfl⟩) | (refine (Abs_any _ HY.out _).mono ?_; rintro e w' ⟨rfl, rfl⟩)))
    generalize ht : fres .quo .f64 A B _ = t
    have HT1 : RowKit.Hid (Sim .f64 t (tN T0 0)) := by show Sim .f64 t T0; rw [HT0.out, ← ht]; exact fres_sim ..
    clear ht
    go_loopw [7, 43] (fun vt vc w' => ∃ (t j : Nat), vt = .float .f64 t ∧ vc = .int .i64 j ∧ RowKit.Hid (j ≤ 3) ∧ RowKit.Hid (Sim .f64 t (tN T0 j)) ∧ RowKit.Hid (∃ c, w' = w.drewN c)) (fun _ vc _ => 3 - (intOf vc).toNat)
    case atStart => exact ⟨t, 0, rfl, rfl, Nat.zero_le 3, HT1, (show ∃ c, _ = w.drewN c from ⟨_, rfl⟩)⟩
    case round =>
      obtain ⟨t, j, rfl, rfl, HJ, HT, HW⟩ := hrel
      by_cases hj : j < 3
      · have HJJ := Lib.hid hj
        go_wp2_with (go_at_call 29; refine (Sqrt_any _ _).mono ?_; rintro e w' ⟨rfl, rfl⟩)
        go_roundw
        case rel =>
          refine ⟨_, j + 1, rfl, by go_num, HJJ.out, ?_, by obtain ⟨c, h⟩ := HW.out; exact ⟨_, by rw [h]; simp only [World.drewN_drewN]; rfl⟩⟩
          show Sim .f64 _ (fop .quo .f64 (tN T0 j) (fop .add .f64 one64 (sop (fop .add .f64 one64 (fop .mul .f64 (tN T0 j) (tN T0 j))))))
          exact fres_of _ HT.out (fres_of _ (Sim.refl ..) (sres_of _ (fres_of _ (Sim.refl ..) (fres_of _ HT.out HT.out))))
        case measure => simp [intOf]; omega
      · obtain rfl : j = 3 := by have := HJ.out; omega
        clear hj
        go_wp2
        generalize hu : fres .mul .f64 t t _ = u
        have HU : RowKit.Hid (Sim .f64 u (fop .mul .f64 (tN T0 3) (tN T0 3))) := by rw [← hu]; exact fres_of _ HT.out HT.out
        clear hu
        go_loopw [9, 10] (fun v9 v10 w' => ∃ (p k m : Nat), v9 = .float .f64 p ∧ v10 = .float .f64 k ∧ RowKit.Hid (m ≤ 8) ∧ RowKit.Hid (k = kA m) ∧ RowKit.Hid (Sim .f64 p (pA (fop .mul .f64 (tN T0 3) (tN T0 3)) m)) ∧ RowKit.Hid (∃ c, w' = w.drewN c)) (fun _ v10 _ => fallL v10)
        case atStart => exact ⟨0, 4624633867356078080, 0, rfl, rfl, Nat.zero_le 8, kA_zero, Sim.refl .f64 _, (by obtain ⟨c, h⟩ := HW.out; exact ⟨_, by rw [h]; simp only [World.drewN_drewN]; rfl⟩)⟩
        case round =>
          obtain ⟨p, k, m, rfl, rfl, HM, HK, HP, HW2⟩ := hrel
          by_cases hm : m < 8
          · have gk : (FloatKind.f64.format.order k 4607182418800017408 == some .gt || FloatKind.f64.format.order k 4607182418800017408 == some .eq) = true := by rw [HK.out]; exact kA_on m hm
            have HMM := Lib.hid hm
            clear hm
            go_wp2
            go_roundw
            case rel =>
              refine ⟨_, _, m + 1, rfl, rfl, HMM.out, ?_, ?_, ?_⟩
              · exact fres_some _ (by rw [HK.out]; exact kA_dec m HMM.out)
              · show Sim .f64 _ (fop .sub .f64 (fop .quo .f64 one64 (kA m)) (fop .mul .f64 (fop .mul .f64 (tN T0 3) (tN T0 3)) (pA (fop .mul .f64 (tN T0 3) (tN T0 3)) m)))
                rw [← HK.out]
                exact fres_of _ (fres_sim ..) (fres_of _ HU.out HP.out)
              · obtain ⟨c, h⟩ := HW2.out; exact ⟨_, by rw [h]; simp only [World.drewN_drewN]; rfl⟩
            case measure =>
              show fall (fres .sub .f64 k two64 _) < fall k
              rw [fres_some _ (by rw [HK.out]; exact kA_dec m HMM.out), HK.out]
              exact kA_fall m HMM.out
          · obtain rfl : m = 8 := by have := HM.out; omega
            have gk : (FloatKind.f64.format.order k 4607182418800017408 == some .gt || FloatKind.f64.format.order k 4607182418800017408 == some .eq) = false := by rw [HK.out]; exact kA_off
            clear hm
            cases bx <;> cases b2
            case false.false =>
              go_wp2
              go_ret
              refine ⟨_, rfl, nar_sim _ ?_ HN.out, by obtain ⟨c, h⟩ := HW2.out; exact ⟨_, by rw [h]; simp only [World.drewN_drewN]; rfl⟩⟩
              exact (fres_of _ (fres_of _ (Sim.refl ..) (fres_of _ HT.out HP.out)) (Sim.refl ..))
            case false.true =>
              go_wp2
              go_ret
              refine ⟨_, rfl, nar_sim _ ?_ HN.out, by obtain ⟨c, h⟩ := HW2.out; exact ⟨_, by rw [h]; simp only [World.drewN_drewN]; rfl⟩⟩
              exact (neg_sim (fres_lt ..) (fop_lt ..) (fres_of _ (fres_of _ (Sim.refl ..) (fres_of _ HT.out HP.out)) (Sim.refl ..)))
            case true.false =>
              go_wp2
              go_ret
              refine ⟨_, rfl, nar_sim _ ?_ HN.out, by obtain ⟨c, h⟩ := HW2.out; exact ⟨_, by rw [h]; simp only [World.drewN_drewN]; rfl⟩⟩
              exact (fres_of _ (Sim.refl ..) (fres_of _ (fres_of _ (Sim.refl ..) (fres_of _ HT.out HP.out)) (Sim.refl ..)))
            case true.true =>
              go_wp2
              go_ret
              refine ⟨_, rfl, nar_sim _ ?_ HN.out, by obtain ⟨c, h⟩ := HW2.out; exact ⟨_, by rw [h]; simp only [World.drewN_drewN]; rfl⟩⟩
              exact (neg_sim (fres_lt ..) (fop_lt ..) (fres_of _ (Sim.refl ..) (fres_of _ (fres_of _ (Sim.refl ..) (fres_of _ HT.out HP.out)) (Sim.refl ..))))
  case false.false.true =>
    clear hz
    go_enter Try.func19, Try.ntmps19
    go_wp2_with (first | (go_at_call 23; refine (IsFinite_any _ _).mono ?_; rintro e w' ⟨rfl, n, rfl⟩) | (go_at_call 16; first | (refine (Abs_any _ HX.out _).mono ?_; rintro e w' ⟨rfl, rfl⟩) | (refine (Abs_any _ HY.out _).mono ?_; rintro e w' ⟨rfl, rfl⟩)))
    generalize ht : fres .quo .f64 B A _ = t
    have HT1 : RowKit.Hid (Sim .f64 t (tN T0 0)) := by show Sim .f64 t T0; rw [HT0.out, ← ht]; exact fres_sim ..
    clear ht
    go_loopw [7, 43] (fun vt vc w' => ∃ (t j : Nat), vt = .float .f64 t ∧ vc = .int .i64 j ∧ RowKit.Hid (j ≤ 3) ∧ RowKit.Hid (Sim .f64 t (tN T0 j)) ∧ RowKit.Hid (∃ c, w' = w.drewN c)) (fun _ vc _ => 3 - (intOf vc).toNat)
    case atStart => exact ⟨t, 0, rfl, rfl, Nat.zero_le 3, HT1, (show ∃ c, _ = w.drewN c from ⟨_, rfl⟩)⟩
    case round =>
      obtain ⟨t, j, rfl, rfl, HJ, HT, HW⟩ := hrel
      by_cases hj : j < 3
      · have HJJ := Lib.hid hj
        go_wp2_with (go_at_call 29; refine (Sqrt_any _ _).mono ?_; rintro e w' ⟨rfl, rfl⟩)
        go_roundw
        case rel =>
          refine ⟨_, j + 1, rfl, by go_num, HJJ.out, ?_, by obtain ⟨c, h⟩ := HW.out; exact ⟨_, by rw [h]; simp only [World.drewN_drewN]; rfl⟩⟩
          show Sim .f64 _ (fop .quo .f64 (tN T0 j) (fop .add .f64 one64 (sop (fop .add .f64 one64 (fop .mul .f64 (tN T0 j) (tN T0 j))))))
          exact fres_of _ HT.out (fres_of _ (Sim.refl ..) (sres_of _ (fres_of _ (Sim.refl ..) (fres_of _ HT.out HT.out))))
        case measure => simp [intOf]; omega
      · obtain rfl : j = 3 := by have := HJ.out; omega
        clear hj
        go_wp2
        generalize hu : fres .mul .f64 t t _ = u
        have HU : RowKit.Hid (Sim .f64 u (fop .mul .f64 (tN T0 3) (tN T0 3))) := by rw [← hu]; exact fres_of _ HT.out HT.out
        clear hu
        go_loopw [9, 10] (fun v9 v10 w' => ∃ (p k m : Nat), v9 = .float .f64 p ∧ v10 = .float .f64 k ∧ RowKit.Hid (m ≤ 8) ∧ RowKit.Hid (k = kA m) ∧ RowKit.Hid (Sim .f64 p (pA (fop .mul .f64 (tN T0 3) (tN T0 3)) m)) ∧ RowKit.Hid (∃ c, w' = w.drewN c)) (fun _ v10 _ => fallL v10)
        case atStart => exact ⟨0, 4624633867356078080, 0, rfl, rfl, Nat.zero_le 8, kA_zero, Sim.refl .f64 _, (by obtain ⟨c, h⟩ := HW.out; exact ⟨_, by rw [h]; simp only [World.drewN_drewN]; rfl⟩)⟩
        case round =>
          obtain ⟨p, k, m, rfl, rfl, HM, HK, HP, HW2⟩ := hrel
          by_cases hm : m < 8
          · have gk : (FloatKind.f64.format.order k 4607182418800017408 == some .gt || FloatKind.f64.format.order k 4607182418800017408 == some .eq) = true := by rw [HK.out]; exact kA_on m hm
            have HMM := Lib.hid hm
            clear hm
            go_wp2
            go_roundw
            case rel =>
              refine ⟨_, _, m + 1, rfl, rfl, HMM.out, ?_, ?_, ?_⟩
              · exact fres_some _ (by rw [HK.out]; exact kA_dec m HMM.out)
              · show Sim .f64 _ (fop .sub .f64 (fop .quo .f64 one64 (kA m)) (fop .mul .f64 (fop .mul .f64 (tN T0 3) (tN T0 3)) (pA (fop .mul .f64 (tN T0 3) (tN T0 3)) m)))
                rw [← HK.out]
                exact fres_of _ (fres_sim ..) (fres_of _ HU.out HP.out)
              · obtain ⟨c, h⟩ := HW2.out; exact ⟨_, by rw [h]; simp only [World.drewN_drewN]; rfl⟩
            case measure =>
              show fall (fres .sub .f64 k two64 _) < fall k
              rw [fres_some _ (by rw [HK.out]; exact kA_dec m HMM.out), HK.out]
              exact kA_fall m HMM.out
          · obtain rfl : m = 8 := by have := HM.out; omega
            have gk : (FloatKind.f64.format.order k 4607182418800017408 == some .gt || FloatKind.f64.format.order k 4607182418800017408 == some .eq) = false := by rw [HK.out]; exact kA_off
            clear hm
            cases bx <;> cases b2
            case false.false =>
              go_wp2
              go_ret
              refine ⟨_, rfl, nar_sim _ ?_ HN.out, by obtain ⟨c, h⟩ := HW2.out; exact ⟨_, by rw [h]; simp only [World.drewN_drewN]; rfl⟩⟩
              exact (fres_of _ (Sim.refl ..) (fres_of _ (fres_of _ (Sim.refl ..) (fres_of _ HT.out HP.out)) (Sim.refl ..)))
            case false.true =>
              go_wp2
              go_ret
              refine ⟨_, rfl, nar_sim _ ?_ HN.out, by obtain ⟨c, h⟩ := HW2.out; exact ⟨_, by rw [h]; simp only [World.drewN_drewN]; rfl⟩⟩
              exact (neg_sim (fres_lt ..) (fop_lt ..) (fres_of _ (Sim.refl ..) (fres_of _ (fres_of _ (Sim.refl ..) (fres_of _ HT.out HP.out)) (Sim.refl ..))))
            case true.false =>
              go_wp2
              go_ret
              refine ⟨_, rfl, nar_sim _ ?_ HN.out, by obtain ⟨c, h⟩ := HW2.out; exact ⟨_, by rw [h]; simp only [World.drewN_drewN]; rfl⟩⟩
              exact (fres_of _ (Sim.refl ..) (fres_of _ (Sim.refl ..) (fres_of _ (fres_of _ (Sim.refl ..) (fres_of _ HT.out HP.out)) (Sim.refl ..))))
            case true.true =>
              go_wp2
              go_ret
              refine ⟨_, rfl, nar_sim _ ?_ HN.out, by obtain ⟨c, h⟩ := HW2.out; exact ⟨_, by rw [h]; simp only [World.drewN_drewN]; rfl⟩⟩
              exact (neg_sim (fres_lt ..) (fop_lt ..) (fres_of _ (Sim.refl ..) (fres_of _ (Sim.refl ..) (fres_of _ (fres_of _ (Sim.refl ..) (fres_of _ HT.out HP.out)) (Sim.refl ..)))))
  case false.true.false =>
    clear hz
    go_enter Try.func19, Try.ntmps19
    go_wp2_with (first | (go_at_call 23; refine (IsFinite_any _ _).mono ?_; rintro e w' ⟨rfl, n, rfl⟩) | (go_at_call 16; first | (refine (Abs_any _ HX.out _).mono ?_; rintro e w' ⟨rfl, rfl⟩) | (refine (Abs_any _ HY.out _).mono ?_; rintro e w' ⟨rfl, rfl⟩)))
    generalize ht : fres .quo .f64 A B _ = t
    have HT1 : RowKit.Hid (Sim .f64 t (tN T0 0)) := by show Sim .f64 t T0; rw [HT0.out, ← ht]; exact fres_sim ..
    clear ht
    go_loopw [7, 43] (fun vt vc w' => ∃ (t j : Nat), vt = .float .f64 t ∧ vc = .int .i64 j ∧ RowKit.Hid (j ≤ 3) ∧ RowKit.Hid (Sim .f64 t (tN T0 j)) ∧ RowKit.Hid (∃ c, w' = w.drewN c)) (fun _ vc _ => 3 - (intOf vc).toNat)
    case atStart => exact ⟨t, 0, rfl, rfl, Nat.zero_le 3, HT1, (show ∃ c, _ = w.drewN c from ⟨_, rfl⟩)⟩
    case round =>
      obtain ⟨t, j, rfl, rfl, HJ, HT, HW⟩ := hrel
      by_cases hj : j < 3
      · have HJJ := Lib.hid hj
        go_wp2_with (go_at_call 29; refine (Sqrt_any _ _).mono ?_; rintro e w' ⟨rfl, rfl⟩)
        go_roundw
        case rel =>
          refine ⟨_, j + 1, rfl, by go_num, HJJ.out, ?_, by obtain ⟨c, h⟩ := HW.out; exact ⟨_, by rw [h]; simp only [World.drewN_drewN]; rfl⟩⟩
          show Sim .f64 _ (fop .quo .f64 (tN T0 j) (fop .add .f64 one64 (sop (fop .add .f64 one64 (fop .mul .f64 (tN T0 j) (tN T0 j))))))
          exact fres_of _ HT.out (fres_of _ (Sim.refl ..) (sres_of _ (fres_of _ (Sim.refl ..) (fres_of _ HT.out HT.out))))
        case measure => simp [intOf]; omega
      · obtain rfl : j = 3 := by have := HJ.out; omega
        clear hj
        go_wp2
        generalize hu : fres .mul .f64 t t _ = u
        have HU : RowKit.Hid (Sim .f64 u (fop .mul .f64 (tN T0 3) (tN T0 3))) := by rw [← hu]; exact fres_of _ HT.out HT.out
        clear hu
        go_loopw [9, 10] (fun v9 v10 w' => ∃ (p k m : Nat), v9 = .float .f64 p ∧ v10 = .float .f64 k ∧ RowKit.Hid (m ≤ 8) ∧ RowKit.Hid (k = kA m) ∧ RowKit.Hid (Sim .f64 p (pA (fop .mul .f64 (tN T0 3) (tN T0 3)) m)) ∧ RowKit.Hid (∃ c, w' = w.drewN c)) (fun _ v10 _ => fallL v10)
        case atStart => exact ⟨0, 4624633867356078080, 0, rfl, rfl, Nat.zero_le 8, kA_zero, Sim.refl .f64 _, (by obtain ⟨c, h⟩ := HW.out; exact ⟨_, by rw [h]; simp only [World.drewN_drewN]; rfl⟩)⟩
        case round =>
          obtain ⟨p, k, m, rfl, rfl, HM, HK, HP, HW2⟩ := hrel
          by_cases hm : m < 8
          · have gk : (FloatKind.f64.format.order k 4607182418800017408 == some .gt || FloatKind.f64.format.order k 4607182418800017408 == some .eq) = true := by rw [HK.out]; exact kA_on m hm
            have HMM := Lib.hid hm
            clear hm
            go_wp2
            go_roundw
            case rel =>
              refine ⟨_, _, m + 1, rfl, rfl, HMM.out, ?_, ?_, ?_⟩
              · exact fres_some _ (by rw [HK.out]; exact kA_dec m HMM.out)
              · show Sim .f64 _ (fop .sub .f64 (fop .quo .f64 one64 (kA m)) (fop .mul .f64 (fop .mul .f64 (tN T0 3) (tN T0 3)) (pA (fop .mul .f64 (tN T0 3) (tN T0 3)) m)))
                rw [← HK.out]
                exact fres_of _ (fres_sim ..) (fres_of _ HU.out HP.out)
              · obtain ⟨c, h⟩ := HW2.out; exact ⟨_, by rw [h]; simp only [World.drewN_drewN]; rfl⟩
            case measure =>
              show fall (fres .sub .f64 k two64 _) < fall k
              rw [fres_some _ (by rw [HK.out]; exact kA_dec m HMM.out), HK.out]
              exact kA_fall m HMM.out
          · obtain rfl : m = 8 := by have := HM.out; omega
            have gk : (FloatKind.f64.format.order k 4607182418800017408 == some .gt || FloatKind.f64.format.order k 4607182418800017408 == some .eq) = false := by rw [HK.out]; exact kA_off
            clear hm
            cases bx <;> cases b2
            case false.false =>
              go_wp2
              go_ret
              refine ⟨_, rfl, nar_sim _ ?_ HN.out, by obtain ⟨c, h⟩ := HW2.out; exact ⟨_, by rw [h]; simp only [World.drewN_drewN]; rfl⟩⟩
              exact (fres_of _ (fres_of _ (Sim.refl ..) (fres_of _ HT.out HP.out)) (Sim.refl ..))
            case false.true =>
              go_wp2
              go_ret
              refine ⟨_, rfl, nar_sim _ ?_ HN.out, by obtain ⟨c, h⟩ := HW2.out; exact ⟨_, by rw [h]; simp only [World.drewN_drewN]; rfl⟩⟩
              exact (neg_sim (fres_lt ..) (fop_lt ..) (fres_of _ (fres_of _ (Sim.refl ..) (fres_of _ HT.out HP.out)) (Sim.refl ..)))
            case true.false =>
              go_wp2
              go_ret
              refine ⟨_, rfl, nar_sim _ ?_ HN.out, by obtain ⟨c, h⟩ := HW2.out; exact ⟨_, by rw [h]; simp only [World.drewN_drewN]; rfl⟩⟩
              exact (fres_of _ (Sim.refl ..) (fres_of _ (fres_of _ (Sim.refl ..) (fres_of _ HT.out HP.out)) (Sim.refl ..)))
            case true.true =>
              go_wp2
              go_ret
              refine ⟨_, rfl, nar_sim _ ?_ HN.out, by obtain ⟨c, h⟩ := HW2.out; exact ⟨_, by rw [h]; simp only [World.drewN_drewN]; rfl⟩⟩
              exact (neg_sim (fres_lt ..) (fop_lt ..) (fres_of _ (Sim.refl ..) (fres_of _ (fres_of _ (Sim.refl ..) (fres_of _ HT.out HP.out)) (Sim.refl ..))))
  case false.true.true =>
    clear hz
    go_enter Try.func19, Try.ntmps19
    go_wp2_with (first | (go_at_call 23; refine (IsFinite_any _ _).mono ?_; rintro e w' ⟨rfl, n, rfl⟩) | (go_at_call 16; first | (refine (Abs_any _ HX.out _).mono ?_; rintro e w' ⟨rfl, rfl⟩) | (refine (Abs_any _ HY.out _).mono ?_; rintro e w' ⟨rfl, rfl⟩)))
    generalize ht : fres .quo .f64 B A _ = t
    have HT1 : RowKit.Hid (Sim .f64 t (tN T0 0)) := by show Sim .f64 t T0; rw [HT0.out, ← ht]; exact fres_sim ..
    clear ht
    go_loopw [7, 43] (fun vt vc w' => ∃ (t j : Nat), vt = .float .f64 t ∧ vc = .int .i64 j ∧ RowKit.Hid (j ≤ 3) ∧ RowKit.Hid (Sim .f64 t (tN T0 j)) ∧ RowKit.Hid (∃ c, w' = w.drewN c)) (fun _ vc _ => 3 - (intOf vc).toNat)
    case atStart => exact ⟨t, 0, rfl, rfl, Nat.zero_le 3, HT1, (show ∃ c, _ = w.drewN c from ⟨_, rfl⟩)⟩
    case round =>
      obtain ⟨t, j, rfl, rfl, HJ, HT, HW⟩ := hrel
      by_cases hj : j < 3
      · have HJJ := Lib.hid hj
        go_wp2_with (go_at_call 29; refine (Sqrt_any _ _).mono ?_; rintro e w' ⟨rfl, rfl⟩)
        go_roundw
        case rel =>
          refine ⟨_, j + 1, rfl, by go_num, HJJ.out, ?_, by obtain ⟨c, h⟩ := HW.out; exact ⟨_, by rw [h]; simp only [World.drewN_drewN]; rfl⟩⟩
          show Sim .f64 _ (fop .quo .f64 (tN T0 j) (fop .add .f64 one64 (sop (fop .add .f64 one64 (fop .mul .f64 (tN T0 j) (tN T0 j))))))
          exact fres_of _ HT.out (fres_of _ (Sim.refl ..) (sres_of _ (fres_of _ (Sim.refl ..) (fres_of _ HT.out HT.out))))
        case measure => simp [intOf]; omega
      · obtain rfl : j = 3 := by have := HJ.out; omega
        clear hj
        go_wp2
        generalize hu : fres .mul .f64 t t _ = u
        have HU : RowKit.Hid (Sim .f64 u (fop .mul .f64 (tN T0 3) (tN T0 3))) := by rw [← hu]; exact fres_of _ HT.out HT.out
        clear hu
        go_loopw [9, 10] (fun v9 v10 w' => ∃ (p k m : Nat), v9 = .float .f64 p ∧ v10 = .float .f64 k ∧ RowKit.Hid (m ≤ 8) ∧ RowKit.Hid (k = kA m) ∧ RowKit.Hid (Sim .f64 p (pA (fop .mul .f64 (tN T0 3) (tN T0 3)) m)) ∧ RowKit.Hid (∃ c, w' = w.drewN c)) (fun _ v10 _ => fallL v10)
        case atStart => exact ⟨0, 4624633867356078080, 0, rfl, rfl, Nat.zero_le 8, kA_zero, Sim.refl .f64 _, (by obtain ⟨c, h⟩ := HW.out; exact ⟨_, by rw [h]; simp only [World.drewN_drewN]; rfl⟩)⟩
        case round =>
          obtain ⟨p, k, m, rfl, rfl, HM, HK, HP, HW2⟩ := hrel
          by_cases hm : m < 8
          · have gk : (FloatKind.f64.format.order k 4607182418800017408 == some .gt || FloatKind.f64.format.order k 4607182418800017408 == some .eq) = true := by rw [HK.out]; exact kA_on m hm
            have HMM := Lib.hid hm
            clear hm
            go_wp2
            go_roundw
            case rel =>
              refine ⟨_, _, m + 1, rfl, rfl, HMM.out, ?_, ?_, ?_⟩
              · exact fres_some _ (by rw [HK.out]; exact kA_dec m HMM.out)
              · show Sim .f64 _ (fop .sub .f64 (fop .quo .f64 one64 (kA m)) (fop .mul .f64 (fop .mul .f64 (tN T0 3) (tN T0 3)) (pA (fop .mul .f64 (tN T0 3) (tN T0 3)) m)))
                rw [← HK.out]
                exact fres_of _ (fres_sim ..) (fres_of _ HU.out HP.out)
              · obtain ⟨c, h⟩ := HW2.out; exact ⟨_, by rw [h]; simp only [World.drewN_drewN]; rfl⟩
            case measure =>
              show fall (fres .sub .f64 k two64 _) < fall k
              rw [fres_some _ (by rw [HK.out]; exact kA_dec m HMM.out), HK.out]
              exact kA_fall m HMM.out
          · obtain rfl : m = 8 := by have := HM.out; omega
            have gk : (FloatKind.f64.format.order k 4607182418800017408 == some .gt || FloatKind.f64.format.order k 4607182418800017408 == some .eq) = false := by rw [HK.out]; exact kA_off
            clear hm
            cases bx <;> cases b2
            case false.false =>
              go_wp2
              go_ret
              refine ⟨_, rfl, nar_sim _ ?_ HN.out, by obtain ⟨c, h⟩ := HW2.out; exact ⟨_, by rw [h]; simp only [World.drewN_drewN]; rfl⟩⟩
              exact (fres_of _ (Sim.refl ..) (fres_of _ (fres_of _ (Sim.refl ..) (fres_of _ HT.out HP.out)) (Sim.refl ..)))
            case false.true =>
              go_wp2
              go_ret
              refine ⟨_, rfl, nar_sim _ ?_ HN.out, by obtain ⟨c, h⟩ := HW2.out; exact ⟨_, by rw [h]; simp only [World.drewN_drewN]; rfl⟩⟩
              exact (neg_sim (fres_lt ..) (fop_lt ..) (fres_of _ (Sim.refl ..) (fres_of _ (fres_of _ (Sim.refl ..) (fres_of _ HT.out HP.out)) (Sim.refl ..))))
            case true.false =>
              go_wp2
              go_ret
              refine ⟨_, rfl, nar_sim _ ?_ HN.out, by obtain ⟨c, h⟩ := HW2.out; exact ⟨_, by rw [h]; simp only [World.drewN_drewN]; rfl⟩⟩
              exact (fres_of _ (Sim.refl ..) (fres_of _ (Sim.refl ..) (fres_of _ (fres_of _ (Sim.refl ..) (fres_of _ HT.out HP.out)) (Sim.refl ..))))
            case true.true =>
              go_wp2
              go_ret
              refine ⟨_, rfl, nar_sim _ ?_ HN.out, by obtain ⟨c, h⟩ := HW2.out; exact ⟨_, by rw [h]; simp only [World.drewN_drewN]; rfl⟩⟩
              exact (neg_sim (fres_lt ..) (fop_lt ..) (fres_of _ (Sim.refl ..) (fres_of _ (Sim.refl ..) (fres_of _ (fres_of _ (Sim.refl ..) (fres_of _ HT.out HP.out)) (Sim.refl ..)))))
  case true.false.false =>
    clear hz
    go_enter Try.func19, Try.ntmps19
    go_wp2_with (first | (go_at_call 23; refine (IsFinite_any _ _).mono ?_; rintro e w' ⟨rfl, n, rfl⟩) | (go_at_call 16; first | (refine (Abs_any _ HX.out _).mono ?_; rintro e w' ⟨rfl, rfl⟩) | (refine (Abs_any _ HY.out _).mono ?_; rintro e w' ⟨rfl, rfl⟩)))
    generalize ht : fres .quo .f64 A B _ = t
    have HT1 : RowKit.Hid (Sim .f64 t (tN T0 0)) := by show Sim .f64 t T0; rw [HT0.out, ← ht]; exact fres_sim ..
    clear ht
    go_loopw [7, 43] (fun vt vc w' => ∃ (t j : Nat), vt = .float .f64 t ∧ vc = .int .i64 j ∧ RowKit.Hid (j ≤ 3) ∧ RowKit.Hid (Sim .f64 t (tN T0 j)) ∧ RowKit.Hid (∃ c, w' = w.drewN c)) (fun _ vc _ => 3 - (intOf vc).toNat)
    case atStart => exact ⟨t, 0, rfl, rfl, Nat.zero_le 3, HT1, (show ∃ c, _ = w.drewN c from ⟨_, rfl⟩)⟩
    case round =>
      obtain ⟨t, j, rfl, rfl, HJ, HT, HW⟩ := hrel
      by_cases hj : j < 3
      · have HJJ := Lib.hid hj
        go_wp2_with (go_at_call 29; refine (Sqrt_any _ _).mono ?_; rintro e w' ⟨rfl, rfl⟩)
        go_roundw
        case rel =>
          refine ⟨_, j + 1, rfl, by go_num, HJJ.out, ?_, by obtain ⟨c, h⟩ := HW.out; exact ⟨_, by rw [h]; simp only [World.drewN_drewN]; rfl⟩⟩
          show Sim .f64 _ (fop .quo .f64 (tN T0 j) (fop .add .f64 one64 (sop (fop .add .f64 one64 (fop .mul .f64 (tN T0 j) (tN T0 j))))))
          exact fres_of _ HT.out (fres_of _ (Sim.refl ..) (sres_of _ (fres_of _ (Sim.refl ..) (fres_of _ HT.out HT.out))))
        case measure => simp [intOf]; omega
      · obtain rfl : j = 3 := by have := HJ.out; omega
        clear hj
        go_wp2
        generalize hu : fres .mul .f64 t t _ = u
        have HU : RowKit.Hid (Sim .f64 u (fop .mul .f64 (tN T0 3) (tN T0 3))) := by rw [← hu]; exact fres_of _ HT.out HT.out
        clear hu
        go_loopw [9, 10] (fun v9 v10 w' => ∃ (p k m : Nat), v9 = .float .f64 p ∧ v10 = .float .f64 k ∧ RowKit.Hid (m ≤ 8) ∧ RowKit.Hid (k = kA m) ∧ RowKit.Hid (Sim .f64 p (pA (fop .mul .f64 (tN T0 3) (tN T0 3)) m)) ∧ RowKit.Hid (∃ c, w' = w.drewN c)) (fun _ v10 _ => fallL v10)
        case atStart => exact ⟨0, 4624633867356078080, 0, rfl, rfl, Nat.zero_le 8, kA_zero, Sim.refl .f64 _, (by obtain ⟨c, h⟩ := HW.out; exact ⟨_, by rw [h]; simp only [World.drewN_drewN]; rfl⟩)⟩
        case round =>
          obtain ⟨p, k, m, rfl, rfl, HM, HK, HP, HW2⟩ := hrel
          by_cases hm : m < 8
          · have gk : (FloatKind.f64.format.order k 4607182418800017408 == some .gt || FloatKind.f64.format.order k 4607182418800017408 == some .eq) = true := by rw [HK.out]; exact kA_on m hm
            have HMM := Lib.hid hm
            clear hm
            go_wp2
            go_roundw
            case rel =>
              refine ⟨_, _, m + 1, rfl, rfl, HMM.out, ?_, ?_, ?_⟩
              · exact fres_some _ (by rw [HK.out]; exact kA_dec m HMM.out)
              · show Sim .f64 _ (fop .sub .f64 (fop .quo .f64 one64 (kA m)) (fop .mul .f64 (fop .mul .f64 (tN T0 3) (tN T0 3)) (pA (fop .mul .f64 (tN T0 3) (tN T0 3)) m)))
                rw [← HK.out]
                exact fres_of _ (fres_sim ..) (fres_of _ HU.out HP.out)
              · obtain ⟨c, h⟩ := HW2.out; exact ⟨_, by rw [h]; simp only [World.drewN_drewN]; rfl⟩
            case measure =>
              show fall (fres .sub .f64 k two64 _) < fall k
              rw [fres_some _ (by rw [HK.out]; exact kA_dec m HMM.out), HK.out]
              exact kA_fall m HMM.out
          · obtain rfl : m = 8 := by have := HM.out; omega
            have gk : (FloatKind.f64.format.order k 4607182418800017408 == some .gt || FloatKind.f64.format.order k 4607182418800017408 == some .eq) = false := by rw [HK.out]; exact kA_off
            clear hm
            cases bx <;> cases b2
            case false.false =>
              go_wp2
              go_ret
              refine ⟨_, rfl, nar_sim _ ?_ HN.out, by obtain ⟨c, h⟩ := HW2.out; exact ⟨_, by rw [h]; simp only [World.drewN_drewN]; rfl⟩⟩
              exact (fres_of _ (fres_of _ (Sim.refl ..) (fres_of _ HT.out HP.out)) (Sim.refl ..))
            case false.true =>
              go_wp2
              go_ret
              refine ⟨_, rfl, nar_sim _ ?_ HN.out, by obtain ⟨c, h⟩ := HW2.out; exact ⟨_, by rw [h]; simp only [World.drewN_drewN]; rfl⟩⟩
              exact (neg_sim (fres_lt ..) (fop_lt ..) (fres_of _ (fres_of _ (Sim.refl ..) (fres_of _ HT.out HP.out)) (Sim.refl ..)))
            case true.false =>
              go_wp2
              go_ret
              refine ⟨_, rfl, nar_sim _ ?_ HN.out, by obtain ⟨c, h⟩ := HW2.out; exact ⟨_, by rw [h]; simp only [World.drewN_drewN]; rfl⟩⟩
              exact (fres_of _ (Sim.refl ..) (fres_of _ (fres_of _ (Sim.refl ..) (fres_of _ HT.out HP.out)) (Sim.refl ..)))
            case true.true =>
              go_wp2
              go_ret
              refine ⟨_, rfl, nar_sim _ ?_ HN.out, by obtain ⟨c, h⟩ := HW2.out; exact ⟨_, by rw [h]; simp only [World.drewN_drewN]; rfl⟩⟩
              exact (neg_sim (fres_lt ..) (fop_lt ..) (fres_of _ (Sim.refl ..) (fres_of _ (fres_of _ (Sim.refl ..) (fres_of _ HT.out HP.out)) (Sim.refl ..))))
  case true.false.true =>
    clear hz
    go_enter Try.func19, Try.ntmps19
    go_wp2_with (first | (go_at_call 23; refine (IsFinite_any _ _).mono ?_; rintro e w' ⟨rfl, n, rfl⟩) | (go_at_call 16; first | (refine (Abs_any _ HX.out _).mono ?_; rintro e w' ⟨rfl, rfl⟩) | (refine (Abs_any _ HY.out _).mono ?_; rintro e w' ⟨rfl, rfl⟩)))
    generalize ht : fres .quo .f64 B A _ = t
    have HT1 : RowKit.Hid (Sim .f64 t (tN T0 0)) := by show Sim .f64 t T0; rw [HT0.out, ← ht]; exact fres_sim ..
    clear ht
    go_loopw [7, 43] (fun vt vc w' => ∃ (t j : Nat), vt = .float .f64 t ∧ vc = .int .i64 j ∧ RowKit.Hid (j ≤ 3) ∧ RowKit.Hid (Sim .f64 t (tN T0 j)) ∧ RowKit.Hid (∃ c, w' = w.drewN c)) (fun _ vc _ => 3 - (intOf vc).toNat)
    case atStart => exact ⟨t, 0, rfl, rfl, Nat.zero_le 3, HT1, (show ∃ c, _ = w.drewN c from ⟨_, rfl⟩)⟩
    case round =>
      obtain ⟨t, j, rfl, rfl, HJ, HT, HW⟩ := hrel
      by_cases hj : j < 3
      · have HJJ := Lib.hid hj
        go_wp2_with (go_at_call 29; refine (Sqrt_any _ _).mono ?_; rintro e w' ⟨rfl, rfl⟩)
        go_roundw
        case rel =>
          refine ⟨_, j + 1, rfl, by go_num, HJJ.out, ?_, by obtain ⟨c, h⟩ := HW.out; exact ⟨_, by rw [h]; simp only [World.drewN_drewN]; rfl⟩⟩
          show Sim .f64 _ (fop .quo .f64 (tN T0 j) (fop .add .f64 one64 (sop (fop .add .f64 one64 (fop .mul .f64 (tN T0 j) (tN T0 j))))))
          exact fres_of _ HT.out (fres_of _ (Sim.refl ..) (sres_of _ (fres_of _ (Sim.refl ..) (fres_of _ HT.out HT.out))))
        case measure => simp [intOf]; omega
      · obtain rfl : j = 3 := by have := HJ.out; omega
        clear hj
        go_wp2
        generalize hu : fres .mul .f64 t t _ = u
        have HU : RowKit.Hid (Sim .f64 u (fop .mul .f64 (tN T0 3) (tN T0 3))) := by rw [← hu]; exact fres_of _ HT.out HT.out
        clear hu
        go_loopw [9, 10] (fun v9 v10 w' => ∃ (p k m : Nat), v9 = .float .f64 p ∧ v10 = .float .f64 k ∧ RowKit.Hid (m ≤ 8) ∧ RowKit.Hid (k = kA m) ∧ RowKit.Hid (Sim .f64 p (pA (fop .mul .f64 (tN T0 3) (tN T0 3)) m)) ∧ RowKit.Hid (∃ c, w' = w.drewN c)) (fun _ v10 _ => fallL v10)
        case atStart => exact ⟨0, 4624633867356078080, 0, rfl, rfl, Nat.zero_le 8, kA_zero, Sim.refl .f64 _, (by obtain ⟨c, h⟩ := HW.out; exact ⟨_, by rw [h]; simp only [World.drewN_drewN]; rfl⟩)⟩
        case round =>
          obtain ⟨p, k, m, rfl, rfl, HM, HK, HP, HW2⟩ := hrel
          by_cases hm : m < 8
          · have gk : (FloatKind.f64.format.order k 4607182418800017408 == some .gt || FloatKind.f64.format.order k 4607182418800017408 == some .eq) = true := by rw [HK.out]; exact kA_on m hm
            have HMM := Lib.hid hm
            clear hm
            go_wp2
            go_roundw
            case rel =>
              refine ⟨_, _, m + 1, rfl, rfl, HMM.out, ?_, ?_, ?_⟩
              · exact fres_some _ (by rw [HK.out]; exact kA_dec m HMM.out)
              · show Sim .f64 _ (fop .sub .f64 (fop .quo .f64 one64 (kA m)) (fop .mul .f64 (fop .mul .f64 (tN T0 3) (tN T0 3)) (pA (fop .mul .f64 (tN T0 3) (tN T0 3)) m)))
                rw [← HK.out]
                exact fres_of _ (fres_sim ..) (fres_of _ HU.out HP.out)
              · obtain ⟨c, h⟩ := HW2.out; exact ⟨_, by rw [h]; simp only [World.drewN_drewN]; rfl⟩
            case measure =>
              show fall (fres .sub .f64 k two64 _) < fall k
              rw [fres_some _ (by rw [HK.out]; exact kA_dec m HMM.out), HK.out]
              exact kA_fall m HMM.out
          · obtain rfl : m = 8 := by have := HM.out; omega
            have gk : (FloatKind.f64.format.order k 4607182418800017408 == some .gt || FloatKind.f64.format.order k 4607182418800017408 == some .eq) = false := by rw [HK.out]; exact kA_off
            clear hm
            cases bx <;> cases b2
            case false.false =>
              go_wp2
              go_ret
              refine ⟨_, rfl, nar_sim _ ?_ HN.out, by obtain ⟨c, h⟩ := HW2.out; exact ⟨_, by rw [h]; simp only [World.drewN_drewN]; rfl⟩⟩
              exact (fres_of _ (Sim.refl ..) (fres_of _ (fres_of _ (Sim.refl ..) (fres_of _ HT.out HP.out)) (Sim.refl ..)))
            case false.true =>
              go_wp2
              go_ret
              refine ⟨_, rfl, nar_sim _ ?_ HN.out, by obtain ⟨c, h⟩ := HW2.out; exact ⟨_, by rw [h]; simp only [World.drewN_drewN]; rfl⟩⟩
              exact (neg_sim (fres_lt ..) (fop_lt ..) (fres_of _ (Sim.refl ..) (fres_of _ (fres_of _ (Sim.refl ..) (fres_of _ HT.out HP.out)) (Sim.refl ..))))
            case true.false =>
              go_wp2
              go_ret
              refine ⟨_, rfl, nar_sim _ ?_ HN.out, by obtain ⟨c, h⟩ := HW2.out; exact ⟨_, by rw [h]; simp only [World.drewN_drewN]; rfl⟩⟩
              exact (fres_of _ (Sim.refl ..) (fres_of _ (Sim.refl ..) (fres_of _ (fres_of _ (Sim.refl ..) (fres_of _ HT.out HP.out)) (Sim.refl ..))))
            case true.true =>
              go_wp2
              go_ret
              refine ⟨_, rfl, nar_sim _ ?_ HN.out, by obtain ⟨c, h⟩ := HW2.out; exact ⟨_, by rw [h]; simp only [World.drewN_drewN]; rfl⟩⟩
              exact (neg_sim (fres_lt ..) (fop_lt ..) (fres_of _ (Sim.refl ..) (fres_of _ (Sim.refl ..) (fres_of _ (fres_of _ (Sim.refl ..) (fres_of _ HT.out HP.out)) (Sim.refl ..)))))
  case true.true.false =>
    cases hz
  case true.true.true =>
    cases hz
end Go.Proofs.Ytdbcjldengemeaa

namespace Go.Proofs.Ytdbcjldengemeaa
open Go.RowKit Fl Ieee
namespace Fl
theorem qL_bd2 {u : Nat} (hu : Bd 1025 u) : ∀ j, j ≤ 13 → Bd (1023 + 3 * j) (qL u j)
  | 0, _ => const_bd (Nat.zero_le _) (by omega) (by omega)
  | j + 1, h => by
    have ih := qL_bd2 hu j (by omega)
    unfold qL
    have h1 := quo_bd (c := 1023) one_bd (kL_lb j (by omega)) (by omega) (by omega) (by omega)
    have h2 := mul_bd (c := 1025 + 3 * j) hu ih (by omega) (by omega) (by omega)
    exact add_bd (c := 1023 + 3 * (j + 1)) h1 h2 (by omega) (by omega) (by omega)
theorem near_one {x : Nat} (h : x ≤ 4611686018427387904) : Bd 1023 (fop .sub .f64 x one64) := by
  have hx : x < double.infRung := by rw [I64]; omega
  have ho : one64 < double.infRung := by rw [I64]; decide
  obtain ⟨T, D, e, he⟩ := sub_words double false false hx ho
  rw [word_false, word_false] at e
  rw [fop_of (op := .sub) (k := .f64) e]
  refine bd_nearest0 _ (by omega) (by omega) ?_
  rw [he]
  obtain ⟨C, hC⟩ : ∃ C : Nat, C = 1023 := ⟨_, rfl⟩
  have h1 : mval double one64 = 2 ^ (51 + C) := by
    rw [← mval_pow (by omega)]; congr 1; rw [hC, B64]
  have h2 : mval double x ≤ 2 * 2 ^ (51 + C) := by
    have h3 : mval double x ≤ mval double ((C + 1) * double.binade) := mval_le (by rw [B64]; omega)
    rw [mval_pow (by omega)] at h3
    have : 2 ^ (51 + (C + 1)) = 2 * 2 ^ (51 + C) := by rw [← Nat.pow_succ']; rfl
    omega
  rw [h1, ← hC]
  generalize mval double x = v at *
  generalize 2 ^ (51 + C) = P at *
  unfold sv; simp; omega
theorem tailL_bd2 {x : Nat} {E : Int} (h1 : 4602678819172646912 ≤ x) (h2 : x ≤ 4611686018427387904) (hE : E.natAbs ≤ 1000) : Bd 1066 (tailL x E) := by
  have hx : Bd 1024 x := const_bd (by rw [B64]; omega) (by omega) (by omega)
  have hl : Lb 1022 x := lb_of (by rw [B64]; omega) (by omega) (by rw [I64]; omega)
  have ho : Nb 1024 one64 := const_nb (by rw [B64]; decide) (by omega) (by omega)
  have hsub := near_one h2
  obtain ⟨hadd, _⟩ := add_lb (c := 1025) hl hx ho (by omega) (by omega) (by omega)
  have hs : Bd 1024 (sL x) := quo_bd hsub hadd (by omega) (by omega) (by omega)
  have hu := mul_bd (c := 1025) hs hs (by omega) (by omega) (by omega)
  have hq := qL_bd2 hu 13 (by omega)
  have hsq := mul_bd (c := 1063) hs hq (by omega) (by omega) (by omega)
  have h2s := mul_bd (c := 1064) (const_bd (e := 1024) (c := two64) (by rw [B64]; decide) (by omega) (by omega)) hsq (by omega) (by omega) (by omega)
  obtain ⟨K, hK⟩ : ∃ K : Nat, K = 1074 := ⟨_, rfl⟩
  obtain ⟨r, hr, hv, e⟩ := ofInt_word hK E (by omega)
  have hEb : Bd 1033 (floatOfInt .f64 E) := by
    refine ⟨_, r, e, hr, ?_⟩
    rw [hv]
    have h3 : E.natAbs ≤ 2 ^ 10 := by omega
    obtain ⟨C, hC⟩ : ∃ C : Nat, C = 1033 := ⟨_, rfl⟩
    rw [← hC]
    refine Nat.le_trans (Nat.mul_le_mul_right _ h3) ?_
    rw [← Nat.pow_add]
    exact Nat.pow_le_pow_right (by omega) (by omega)
  have hEl := mul_bd (c := 1033) hEb (const_bd (e := 1023) (c := ln2) (by rw [B64]; decide) (by omega) (by omega)) (by omega) (by omega) (by omega)
  unfold tailL
  exact (add_bd (c := 1065) h2s hEl (by omega) (by omega) (by omega)).mono (by omega)
theorem log_bd2 {q : Nat} (h1 : 3936146074321813504 ≤ q) (h2 : q ≤ 5183643171103440896) : Bd 1066 (logF q) := by
  unfold logF
  refine tailL_bd2 ?_ ?_ ?_ <;> simp only [twiced, twices, halved, halves] <;> omega
/-- the tenths, ahead of the floor -/
def tenF (q : Nat) : Nat := fop .add .f64 (fop .mul .f64 (logF q) 4631308968768463603) half64
theorem mul_ten {q : Nat} (h1 : 3936146074321813504 ≤ q) (h2 : q ≤ 5183643171103440896) : Bd 1072 (fop .mul .f64 (logF q) 4631308968768463603) :=
  mul_bd (log_bd2 h1 h2) (const_bd (e := 1029) (by rw [B64]; decide) (by omega) (by omega)) (by omega) (by omega) (by omega)
theorem ten_bd {q : Nat} (h1 : 3936146074321813504 ≤ q) (h2 : q ≤ 5183643171103440896) : Bd 1073 (tenF q) :=
  add_bd (mul_ten h1 h2) half_bd (by omega) (by omega) (by omega)
/-- the floor of a number -/
def floorF (x : Nat) : Nat := double.write ((double.read x).integral .down)
theorem cut_down_le (neg : Bool) (n drop : Nat) : Toward.down.cut neg n drop ≤ n / 2 ^ drop + 1 := by
  unfold Toward.cut
  simp only [Nat.one_shiftLeft]
  by_cases h : drop ≤ n.log2 + 2
  · rw [Nat.min_eq_left h]
    have : ∀ b : Bool, b.toNat ≤ 1 := by intro b; cases b <;> simp
    exact Nat.add_le_add_left (this _) _
  · have hlt : n < 2 ^ (n.log2 + 1) := Nat.lt_log2_self
    rw [Nat.min_eq_right (by omega), Nat.div_eq_of_lt (Nat.lt_of_lt_of_le hlt (Nat.pow_le_pow_right (by omega) (by omega)))]
    have : ∀ b : Bool, b.toNat ≤ 1 := by intro b; cases b <;> simp
    exact Nat.le_trans (Nat.add_le_add_left (this _) _) (by rw [Nat.zero_add]; exact Nat.le_add_left ..)
theorem floor_bd {x : Nat} (h : Bd 1073 x) : Bd 1075 (floorF x) := by
  obtain ⟨s, r, rfl, hr, hv⟩ := h
  obtain ⟨m, d, e1, e2, _, _⟩ := read_num double s hr
  obtain ⟨K, hK⟩ : ∃ K : Nat, K = 1074 := ⟨_, rfl⟩
  obtain ⟨C, hC⟩ : ∃ C : Nat, C = 1073 := ⟨_, rfl⟩
  have hC2 : (1075 : Nat) = C + 2 := by omega
  rw [← hC] at hv
  rw [hC2]
  have hP : double.leastPlace = -(K : Int) := by rw [P64, hK]; rfl
  unfold floorF
  rw [e1]
  simp only [Datum.integral, Format.write]
  have e0 : (0 : Int) = double.leastPlace + (K : Int) := by rw [hP]; omega
  conv => rw [e0]
  refine bd_nearest0 s (by omega) (by omega) ?_
  refine Nat.le_trans (Nat.mul_le_mul_right _ (cut_down_le ..)) ?_
  have key : (m <<< (double.leastPlace + (d : Int)).toNat) / 2 ^ (-(double.leastPlace + (d : Int))).toNat * 2 ^ K ≤ m * 2 ^ d := by
    rw [hP, Nat.shiftLeft_eq]
    by_cases h : K ≤ d
    · have h1 : (-(K : Int) + d).toNat = d - K := by omega
      have h2 : (-(-(K : Int) + d)).toNat = 0 := by omega
      rw [h1, h2, Nat.pow_zero, Nat.div_one, Nat.mul_assoc, ← Nat.pow_add]
      exact Nat.le_of_eq (by congr 2; omega)
    · have h1 : (-(K : Int) + d).toNat = 0 := by omega
      have h2 : (-(-(K : Int) + d)).toNat = K - d := by omega
      rw [h1, h2, Nat.pow_zero, Nat.mul_one]
      have : 2 ^ K = 2 ^ (K - d) * 2 ^ d := by rw [← Nat.pow_add]; congr 1; omega
      rw [this, ← Nat.mul_assoc]
      exact Nat.mul_le_mul_right _ (Nat.div_mul_le_self _ _)
  rw [Nat.add_mul, Nat.one_mul]
  have h3 : 2 ^ K ≤ 2 ^ (51 + C) := Nat.pow_le_pow_right (by omega) (by omega)
  have h4 : 2 ^ (51 + (C + 2)) = 4 * 2 ^ (51 + C) := by rw [show 51 + (C + 2) = 51 + C + 1 + 1 by omega, Nat.pow_succ, Nat.pow_succ]; omega
  rw [e2] at key
  omega
theorem bd_int {x : Nat} (h : Bd 1075 x) : ∃ n, floatToIntVal .f64 x .i64 = some n := by
  obtain ⟨s, r, rfl, hr, hv⟩ := h
  obtain ⟨K, hK⟩ : ∃ K : Nat, K = 1074 := ⟨_, rfl⟩
  obtain ⟨C, hC⟩ : ∃ C : Nat, C = 1075 := ⟨_, rfl⟩
  rw [← hC] at hv
  refine ⟨_, toIntVal_word hK s hr ?_⟩
  rw [Nat.div_lt_iff_lt_mul (Nat.two_pow_pos K)]
  refine Nat.lt_of_le_of_lt hv ?_
  have : (9223372036854775808 : Nat) = 2 ^ 63 := by decide
  rw [this, ← Nat.pow_add]
  exact Nat.pow_lt_pow_right (by omega) (by omega)
end Fl
theorem ext_floor (x : Nat) (hn : isN .f64 x = false) (w : World) : (callFunc 30 #[.float .f64 x]).run Try.prog w = .ok (.value (.float .f64 (floorF x))) w := by
  refine (run_callFunc_extern Try.func30 (by kernel_rfl) (by kernel_rfl) (by kernel_rfl) (e := Extern.MathFloor.toIntegral "math.archFloor" .down) (by kernel_rfl) _ _).trans ?_
  have hf : Extern.MathFloor.toIntegral "math.archFloor" .down #[.float .f64 x] = (match FloatKind.f64.decode x with
    | .nan s t =>
      if FloatKind.f64.format.quiet t = t then pure (.float .f64 x) else do
      let kept ← choose (.extern "math.Floor,Ceil,Trunc,RoundToEven.signallingNaN kept" 2)
      pure (.float .f64 (if kept == 1 then x else FloatKind.f64.encode (.nan s (FloatKind.f64.format.quiet t))))
    | d => pure (.float .f64 (FloatKind.f64.encode (d.integral .down)))) := rfl
  rw [hf]
  unfold floorF
  unfold isN at hn
  cases h : FloatKind.f64.decode x with
  | nan s t => rw [h] at hn; cases hn
  | infinity s =>
    have h' : double.read x = .infinity s := h
    rw [h']; rfl
  | number s m i =>
    have h' : double.read x = .number s m i := h
    rw [h']; rfl
theorem Floor_any (x : Nat) (hn : isN .f64 x = false) (w : World) : Calls Try.prog 24 #[.float .f64 x] w fun e w' => e = .returned (.float .f64 (floorF x)) ∧ w = w' := by
  have he := fun w => ext_floor x hn w
  go_enter Try.func24, Try.ntmps24
  go_wp2
  go_ret
  exact ⟨rfl, rfl⟩
end Go.Proofs.Ytdbcjldengemeaa

namespace Go.Proofs.Ytdbcjldengemeaa
open Go.RowKit Fl Ieee
namespace Fl
/-- as long as it is a quarter or more, a quarter is taken off -/
def ph : Nat → Nat → Nat → Nat × Nat
  | 0, f, q => (f, q)
  | n + 1, f, q => if FloatKind.f64.format.order f quart64 == some .gt || FloatKind.f64.format.order f quart64 == some .eq then ph n (fop .sub .f64 f quart64) (q + 1) else (f, q)
/-- both parts, in 64 bits -/
def turnC (q c s : Nat) : Nat × Nat := match q with
  | 1 => (fop .sub .f64 0 s, c)
  | 2 => (fop .sub .f64 0 c, fop .sub .f64 0 s)
  | 3 => (s, fop .sub .f64 0 c)
  | _ => (c, s)
def phasF (y : Nat) : Nat × Nat := turnC (ph 4 (fracF y) 0).2 (sineF (fop .sub .f64 quart64 (ph 4 (fracF y) 0).1)) (sineF (ph 4 (fracF y) 0).1)

/-- not negative but for a zero, at most j quarters -/
def Quart (j f : Nat) : Prop := ∃ s r, f = double.word s r ∧ r < double.infRung ∧ (s = false ∨ r = 0) ∧ mval double r ≤ j * mval double quart64
theorem quart_val {C : Nat} (hC : C = 1021) : mval double quart64 = 2 ^ (51 + C) := by
  rw [← mval_pow (by omega)]; congr 1; rw [hC, B64]
theorem Quart.bd {j f : Nat} (h : Quart j f) (hj : j ≤ 4) : Bd 1023 f := by
  obtain ⟨s, r, h1, h2, _, h3⟩ := h
  obtain ⟨C, hC⟩ : ∃ C : Nat, C = 1021 := ⟨_, rfl⟩
  rw [quart_val hC] at h3
  obtain ⟨D, hD⟩ : ∃ D : Nat, D = 1023 := ⟨_, rfl⟩
  rw [← hD]
  refine ⟨s, r, h1, h2, Nat.le_trans h3 (Nat.le_trans (Nat.mul_le_mul_right _ hj) ?_)⟩
  have : (4 : Nat) = 2 ^ 2 := rfl
  rw [this, ← Nat.pow_add]
  exact Nat.pow_le_pow_right (by omega) (by omega)
theorem quart_inf : quart64 < double.infRung := by rw [I64]; decide
theorem Quart.on {j f : Nat} (h : Quart j f) (g : (FloatKind.f64.format.order f quart64 == some .gt || FloatKind.f64.format.order f quart64 == some .eq) = true) : ∃ r, f = r ∧ r < double.infRung ∧ quart64 ≤ r ∧ mval double r ≤ j * mval double quart64 := by
  obtain ⟨s, r, rfl, h2, hs, h3⟩ := h
  have hg := geq_words s false h2 quart_inf
  rw [word_false quart64] at hg
  rw [hg] at g
  have g' := of_decide_eq_true g
  have hp : 0 < mval double quart64 := Nat.pos_of_ne_zero (fun e => absurd (mval_zero e) (by decide))
  rcases hs with rfl | rfl
  · refine ⟨r, word_false r, h2, ?_, h3⟩
    unfold sv at g'
    simp only [Bool.false_eq_true, ↓reduceIte] at g'
    exact le_of_mval (f := double) (Int.ofNat_le.1 g')
  · exfalso
    have h0 : mval double 0 = 0 := mval_small (by rw [B64]; omega)
    rw [h0] at g'
    unfold sv at g'
    cases s <;> simp at g' <;> omega
theorem qv2 : mval double half64 = 2 * mval double quart64 := by decide +kernel
theorem qv3 : mval double 4604930618986332160 = 3 * mval double quart64 := by decide +kernel
theorem qv0 : mval double 0 = 0 := by decide +kernel
theorem Quart.less {j f : Nat} (h : Quart j f) (hj : j ≤ 4) (g : (FloatKind.f64.format.order f quart64 == some .gt || FloatKind.f64.format.order f quart64 == some .eq) = true) : 1 ≤ j ∧ Quart (j - 1) (fop .sub .f64 f quart64) := by
  obtain ⟨r, rfl, h2, h4, h3⟩ := h.on g
  have hp : 0 < mval double quart64 := Nat.pos_of_ne_zero (fun e => absurd (mval_zero e) (by decide))
  have hle := mval_le (f := double) h4
  obtain ⟨Q, hQ⟩ : ∃ Q, Q = mval double quart64 := ⟨_, rfl⟩
  have hj1 : 1 ≤ j := by
    rcases Nat.eq_zero_or_pos j with rfl | h
    · omega
    · exact h
  refine ⟨hj1, ?_⟩
  obtain ⟨T, D, e, he⟩ := sub_words double false false h2 quart_inf
  unfold Quart
  rw [← hQ] at he h3 hp hle ⊢
  rw [word_false, word_false, ← hQ] at e
  rw [fop_of (op := .sub) (k := .f64) e]
  have hv : (sv false (mval double f) - sv false (Q)).natAbs = mval double f - Q := by unfold sv; simp; omega
  rw [hv] at he
  have hneg : (if sv false (mval double f) - sv false (Q) = 0 then false && !false else decide (sv false (mval double f) - sv false (Q) < 0)) = false := by
    unfold sv; simp only [Bool.false_eq_true, ↓reduceIte, Bool.false_and]
    split
    · rfl
    · exact decide_eq_false (by omega)
  rw [hneg]
  obtain ⟨R, hR, hRv⟩ : ∃ R, R < double.infRung ∧ mval double R = (j - 1) * Q := by
    have h5 : j = 1 ∨ j = 2 ∨ j = 3 ∨ j = 4 := by omega
    rcases h5 with rfl | rfl | rfl | rfl
    · exact ⟨0, by rw [I64]; omega, by rw [qv0]; omega⟩
    · exact ⟨quart64, quart_inf, by rw [← hQ]; omega⟩
    · exact ⟨half64, by rw [I64]; decide, by rw [qv2, ← hQ]⟩
    · exact ⟨4604930618986332160, by rw [I64]; decide, by rw [qv3, ← hQ]⟩
  obtain ⟨r', hr', e'⟩ := nearest_le double false (m := T) (d := D) (b := 0) (r := R) (by
    rw [he, Nat.pow_zero, Nat.mul_one, hRv]
    have : (j - 1) * Q + Q = j * Q := by rw [← Nat.succ_mul]; congr 1; omega
    omega)
  have e'' : double.nearest false T (double.leastPlace + (D : Int)) = double.word false r' := by rw [← e']; congr 1; omega
  exact ⟨false, r', e'', Nat.lt_of_le_of_lt hr' hR, .inl rfl, by rw [← hRv]; exact mval_le hr'⟩

theorem w_bd2 {f : Nat} (h : Bd 1024 f) : Bd 1117 (sinF f) := by
  have hz : Bd 1029 (zF f) := mul_bd (fold_bd h) turn_bd (by omega) (by omega) (by omega)
  have hu := mul_bd (c := 1035) hz hz (by omega) (by omega) (by omega)
  have hp := pS_bd hu 8 (by omega)
  have hw : Bd 1117 (wF f) := by unfold wF; exact mul_bd hz hp (by omega) (by omega) (by omega)
  unfold sinF; split
  · exact neg_bd hw
  · exact hw
/-- a small number goes through the sine -/
theorem small_args {x : Nat} (h : Bd 1024 x) : (FloatKind.f64.format.order (fop .sub .f64 x x) 0 != some .eq) = false ∧
    (FloatKind.f64.format.order x 4841369599423283200 == some .gt || FloatKind.f64.format.order x 4841369599423283200 == some .eq) = false ∧
    (FloatKind.f64.format.order x 14064741636278059008 == some .lt || FloatKind.f64.format.order x 14064741636278059008 == some .eq) = false ∧
    (∃ n, floatToIntVal .f64 x .i64 = some n) ∧ Bd 1117 (sineF x) := by
  obtain ⟨s, r, rfl, hr, hv⟩ := h
  obtain ⟨K, hK⟩ : ∃ K : Nat, K = 1074 := ⟨_, rfl⟩
  have hb : ¬ R52 ≤ r := by
    intro g
    have h1 := mval_le (f := double) g
    rw [R52_val hK] at h1
    obtain ⟨C, hC⟩ : ∃ C : Nat, C = 1024 := ⟨_, rfl⟩
    rw [← hC] at hv
    have h2 : 2 ^ (51 + C) = 2 * 2 ^ K := by rw [← Nat.pow_succ']; congr 1; omega
    have := Nat.two_pow_pos K
    omega
  refine ⟨self_ok s hr, ?_, ?_, ⟨_, small_int hK s hr hb⟩, w_bd2 (frac_bd hK hr (small_val hK hb))⟩
  · cases s with
    | false => rw [big_pos hr]; exact decide_eq_false hb
    | true => exact big_pos' hr
  · cases s with
    | true => rw [big_neg hr]; exact decide_eq_false hb
    | false => exact big_neg' hr
theorem one_val {C : Nat} (hC : C = 1023) : mval double one64 = 2 ^ (51 + C) := by
  rw [← mval_pow (by omega)]; congr 1; rw [hC, B64]
theorem frac_quart {y : Nat} (h : Bd 1023 (fop .sub .f64 y (wholeF y))) : Quart 4 (fracF y) := by
  unfold fracF
  obtain ⟨t, q, e, hq, hv⟩ := h
  rw [e]
  obtain ⟨C, hC⟩ : ∃ C : Nat, C = 1021 := ⟨_, rfl⟩
  obtain ⟨D, hD⟩ : ∃ D : Nat, D = 1023 := ⟨_, rfl⟩
  have hQ : 4 * mval double quart64 = 2 ^ (51 + D) := by
    rw [quart_val hC]
    have : (4 : Nat) = 2 ^ 2 := rfl
    rw [this, ← Nat.pow_add]; congr 1; omega
  have h1 := one_val hD
  rw [← hD] at hv
  unfold Quart
  rw [hQ]
  clear hQ
  generalize 2 ^ (51 + D) = W at *
  have ho := order_words double t false (r := q) (q := 0) hq (by rw [I64]; omega)
  rw [word_false 0, qv0] at ho
  rw [fmt64, ho]
  by_cases hneg : sv t (mval double q) < 0
  · have g : (some (compare (sv t (mval double q)) (sv false 0)) == some Ordering.lt) = true := by
      rw [beq_iff_eq, Option.some.injEq, cmp_lt]; exact hneg
    rw [if_pos g]
    have ht : t = true := by
      cases t with
      | true => rfl
      | false => exfalso; unfold sv at hneg; simp at hneg; omega
    subst ht
    have hoi : one64 < double.infRung := by rw [I64]; decide
    have hw1 := word_false one64
    generalize one64 = o at *
    obtain ⟨T, E, e2, he⟩ := add_words double true false hq hoi
    rw [hw1, h1] at e2
    rw [h1] at he
    rw [fop_of (op := .add) (k := .f64) e2]
    have hs : (if sv true (mval double q) + sv false W = 0 then true && false else decide (sv true (mval double q) + sv false W < 0)) = false := by
      split
      · rfl
      · refine decide_eq_false ?_
        unfold sv; simp; omega
    rw [hs]
    obtain ⟨r', hr', e'⟩ := nearest_le double false (m := T) (d := E) (b := 0) (r := o) (by
      rw [he, Nat.pow_zero, Nat.mul_one, h1]
      unfold sv; simp; omega)
    have e'' : double.nearest false T (double.leastPlace + (E : Int)) = double.word false r' := by rw [← e']; congr 1; omega
    refine ⟨false, r', e'', Nat.lt_of_le_of_lt hr' hoi, .inl rfl, ?_⟩
    rw [← h1]; exact mval_le hr'
  · have g : (some (compare (sv t (mval double q)) (sv false 0)) == some Ordering.lt) = false := by
      rw [beq_eq_false_iff_ne]; intro h; rw [Option.some.injEq, cmp_lt] at h; exact hneg h
    rw [if_neg (by rw [g]; decide)]
    refine ⟨t, q, rfl, hq, ?_, hv⟩
    cases t with
    | false => exact .inl rfl
    | true =>
      right
      have : mval double q = 0 := by unfold sv at hneg; simp at hneg; omega
      exact mval_zero this
theorem ph_step {n f q : Nat} (h : (FloatKind.f64.format.order f quart64 == some .gt || FloatKind.f64.format.order f quart64 == some .eq) = true) : ph (n + 1) f q = ph n (fop .sub .f64 f quart64) (q + 1) := by
  rw [ph, if_pos h]
theorem ph_stop {n f q : Nat} (h : (FloatKind.f64.format.order f quart64 == some .gt || FloatKind.f64.format.order f quart64 == some .eq) = false) : ph n f q = (f, q) := by
  cases n with
  | zero => rfl
  | succ n => rw [ph, if_neg (by rw [h]; decide)]
end Fl
theorem isFinite64_any (x : Nat) (w : World) : Calls Try.prog 14 #[.float .f64 x] w fun e w' => e = .returned (.bool (FloatKind.f64.format.order (fop .sub .f64 x x) 0 == some .eq)) ∧ ∃ n, w' = w.drewN n := by
  go_enter Try.func14, Try.ntmps14
  go_wp2
  go_ret
  exact ⟨rfl, _, rfl⟩
set_option maxHeartbeats 1000000 in
set_option maxRecDepth 100000 in
theorem PhasorOf_yes (y : Nat) (n : Int) (hn : floatToIntVal .f64 y .i64 = some n) (hb : Bd 1023 (fop .sub .f64 y (wholeF y))) (g0 : (FloatKind.f64.format.order (fop .sub .f64 y y) 0 == some .eq) = true) (hy : y < 18446744073709551616) (hbig : (FloatKind.f64.format.order (y % 9223372036854775808) 4841369599423283200 == some .gt || FloatKind.f64.format.order (y % 9223372036854775808) 4841369599423283200 == some .eq) = false) (w : World) : Calls Try.prog 6 #[.float .f64 y] w fun e w' => ∃ a b, e = .returned (.complex .f32 a b) ∧ Sim .f32 a (cop .f64 (phasF y).1 .f32) ∧ Sim .f32 b (cop .f64 (phasF y).2 .f32) ∧ ∃ c, w' = w.drewN c := by
  obtain ⟨P, hP⟩ : ∃ P, P = ph 4 (fracF y) 0 := ⟨_, rfl⟩
  have HPH := Lib.hid (show phasF y = turnC P.2 (sineF (fop .sub .f64 quart64 P.1)) (sineF P.1) by rw [hP]; rfl)
  have HP := Lib.hid hP
  have HQ4 := Lib.hid (frac_quart hb)
  generalize phasF y = R at *
  clear hP
  have HN := Lib.hid hn
  have HFB := Lib.hid ((frac_quart hb).bd (by omega))
  have HY := Lib.hid hy
  clear hn hb hy
  go_enter Try.func6, Try.ntmps6
  go_wp2_with (first | (go_at_call 14; refine (isFinite64_any _ _).mono ?_; rintro e w' ⟨rfl, m, rfl⟩) | (go_at_call 16; refine (Abs_any _ HY.out _).mono ?_; rintro e w' ⟨rfl, rfl⟩) | (go_at_call 17; refine (fraction_any y n HN.out _).mono ?_; rintro e w' ⟨v, rfl, hv, m, rfl⟩; obtain rfl := hv.eq_bd HFB.out; clear hv))
  go_loopw [4, 5] (fun v4 v5 w' => ∃ (f q : Nat), v4 = .float .f64 f ∧ v5 = .int .i64 q ∧ RowKit.Hid (q ≤ 4 ∧ Quart (4 - q) f ∧ P = ph (4 - q) f q) ∧ RowKit.Hid (∃ c, w' = w.drewN c)) (fun _ v5 _ => 4 - (intOf v5).toNat)
  case atStart => exact ⟨fracF y, 0, rfl, rfl, (show _ ∧ _ ∧ _ from ⟨by omega, HQ4.out, HP.out⟩), (show ∃ c, _ = w.drewN c from ⟨_, rfl⟩)⟩
  case round =>
    obtain ⟨f, q, rfl, rfl, HI, HW⟩ := hrel
    cases g : (FloatKind.f64.format.order f 4598175219545276416 == some .gt || FloatKind.f64.format.order f 4598175219545276416 == some .eq)
    case true =>
      obtain ⟨hq1, hq2⟩ := HI.out.2.1.less (by omega) g
      have hq3 : q < 4 := by omega
      obtain ⟨f', hf'⟩ : ∃ f', f' = fop .sub .f64 f 4598175219545276416 := ⟨_, rfl⟩
      have hf : ∀ w, fres .sub .f64 f 4598175219545276416 w = f' := fun w => (fres_bd w (hq2.bd (by omega))).trans hf'.symm
      have HN2 : RowKit.Hid (q + 1 ≤ 4 ∧ Quart (4 - (q + 1)) f' ∧ P = ph (4 - (q + 1)) f' (q + 1)) := by
        refine (show _ ∧ _ ∧ _ from ⟨by omega, ?_, ?_⟩)
        · rw [hf', show 4 - (q + 1) = 4 - q - 1 by omega]; exact hq2
        · rw [hf']
          have := HI.out.2.2
          rw [show 4 - q = 4 - (q + 1) + 1 by omega, ph_step g] at this
          exact this
      clear hf' hq2
      go_wp2
      go_roundw
      case rel => exact ⟨f', q + 1, rfl, by go_num, HN2, (by obtain ⟨c, h⟩ := HW.out; exact ⟨_, by rw [h]; simp only [World.drewN_drewN]; rfl⟩)⟩
      case measure => simp [intOf]; omega
    case false =>
      have hPf : P = (f, q) := by rw [HI.out.2.2]; exact ph_stop g
      have hq4 := HI.out.1
      have hfb : Bd 1024 f := (HI.out.2.1.bd (by omega)).mono (by omega)
      have hdb : Bd 1024 (fop .sub .f64 quart64 f) := sub_bd (const_bd (e := 1023) (by rw [B64]; decide) (by omega) (by omega)) (HI.out.2.1.bd (by omega)) (by omega) (by omega) (by omega)
      have hd : ∀ w, fres .sub .f64 4598175219545276416 f w = fop .sub .f64 4598175219545276416 f := fun w => fres_bd w hdb
      obtain ⟨a1, a2, a3, ⟨n1, a4⟩, a5⟩ := small_args hdb
      obtain ⟨b1, b2, b3, ⟨n2, b4⟩, b5⟩ := small_args hfb
      have HPF := Lib.hid (show R = turnC q (sineF (fop .sub .f64 4598175219545276416 f)) (sineF f) by rw [HPH.out, hPf])
      have HI1 := Lib.hid a4
      have HI2 := Lib.hid b4
      have HG1 := Lib.hid (And.intro a1 (And.intro a2 a3))
      have HG2 := Lib.hid (And.intro b1 (And.intro b2 b3))
      have HNC := Lib.hid (nar_of_bd a5 (by omega))
      have HNS := Lib.hid (nar_of_bd b5 (by omega))
      have HNC0 := Lib.hid (nar_of_bd (sub_bd (c := 1118) (const_bd (e := 1023) (c := 0) (by omega) (by omega) (by omega)) a5 (by omega) (by omega) (by omega)) (by omega))
      have HNS0 := Lib.hid (nar_of_bd (sub_bd (c := 1118) (const_bd (e := 1023) (c := 0) (by omega) (by omega) (by omega)) b5 (by omega) (by omega) (by omega)) (by omega))
      clear hPf hfb hdb a1 a2 a3 a4 a5 b1 b2 b3 b4 b5 HI
      generalize hdd : fop .sub .f64 4598175219545276416 f = d at *
      clear hdd
      rcases (show q = 0 ∨ q = 1 ∨ q = 2 ∨ q = 3 ∨ q = 4 by omega) with rfl | rfl | rfl | rfl | rfl
      · clear hq4
        go_wp2_with (fail)
        refine (sine_any _ _ HI1.out _).mono ?_
        rintro e w' ⟨cc, rfl, hcc, m1, rfl⟩
        have HC := Lib.hid hcc
        clear hcc
        go_wp2_with (fail)
        refine (sine_any _ _ HI2.out _).mono ?_
        rintro e w' ⟨ss, rfl, hss, m2, rfl⟩
        have HS := Lib.hid hss
        clear hss
        go_wp2
        go_ret
        refine ⟨_, _, rfl, ?_, ?_, by obtain ⟨c, h⟩ := HW.out; exact ⟨_, by rw [h]; simp only [World.drewN_drewN]; rfl⟩⟩
        · rw [HPF.out]; exact nar_sim _ HC.out HNC.out
        · rw [HPF.out]; exact nar_sim _ HS.out HNS.out
      · clear hq4
        go_wp2_with (fail)
        refine (sine_any _ _ HI1.out _).mono ?_
        rintro e w' ⟨cc, rfl, hcc, m1, rfl⟩
        have HC := Lib.hid hcc
        clear hcc
        go_wp2_with (fail)
        refine (sine_any _ _ HI2.out _).mono ?_
        rintro e w' ⟨ss, rfl, hss, m2, rfl⟩
        have HS := Lib.hid hss
        clear hss
        go_wp2
        go_ret
        refine ⟨_, _, rfl, ?_, ?_, by obtain ⟨c, h⟩ := HW.out; exact ⟨_, by rw [h]; simp only [World.drewN_drewN]; rfl⟩⟩
        · rw [HPF.out]; exact nar_sim _ (fres_of _ (Sim.refl ..) HS.out) HNS0.out
        · rw [HPF.out]; exact nar_sim _ HC.out HNC.out
      · clear hq4
        go_wp2_with (fail)
        refine (sine_any _ _ HI1.out _).mono ?_
        rintro e w' ⟨cc, rfl, hcc, m1, rfl⟩
        have HC := Lib.hid hcc
        clear hcc
        go_wp2_with (fail)
        refine (sine_any _ _ HI2.out _).mono ?_
        rintro e w' ⟨ss, rfl, hss, m2, rfl⟩
        have HS := Lib.hid hss
        clear hss
        go_wp2
        go_ret
        refine ⟨_, _, rfl, ?_, ?_, by obtain ⟨c, h⟩ := HW.out; exact ⟨_, by rw [h]; simp only [World.drewN_drewN]; rfl⟩⟩
        · rw [HPF.out]; exact nar_sim _ (fres_of _ (Sim.refl ..) HC.out) HNC0.out
        · rw [HPF.out]; exact nar_sim _ (fres_of _ (Sim.refl ..) HS.out) HNS0.out
      · clear hq4
        go_wp2_with (fail)
        refine (sine_any _ _ HI1.out _).mono ?_
        rintro e w' ⟨cc, rfl, hcc, m1, rfl⟩
        have HC := Lib.hid hcc
        clear hcc
        go_wp2_with (fail)
        refine (sine_any _ _ HI2.out _).mono ?_
        rintro e w' ⟨ss, rfl, hss, m2, rfl⟩
        have HS := Lib.hid hss
        clear hss
        go_wp2
        go_ret
        refine ⟨_, _, rfl, ?_, ?_, by obtain ⟨c, h⟩ := HW.out; exact ⟨_, by rw [h]; simp only [World.drewN_drewN]; rfl⟩⟩
        · rw [HPF.out]; exact nar_sim _ HS.out HNS.out
        · rw [HPF.out]; exact nar_sim _ (fres_of _ (Sim.refl ..) HC.out) HNC0.out
      · clear hq4
        go_wp2_with (fail)
        refine (sine_any _ _ HI1.out _).mono ?_
        rintro e w' ⟨cc, rfl, hcc, m1, rfl⟩
        have HC := Lib.hid hcc
        clear hcc
        go_wp2_with (fail)
        refine (sine_any _ _ HI2.out _).mono ?_
        rintro e w' ⟨ss, rfl, hss, m2, rfl⟩
        have HS := Lib.hid hss
        clear hss
        go_wp2
        go_ret
        refine ⟨_, _, rfl, ?_, ?_, by obtain ⟨c, h⟩ := HW.out; exact ⟨_, by rw [h]; simp only [World.drewN_drewN]; rfl⟩⟩
        · rw [HPF.out]; exact nar_sim _ HC.out HNC.out
        · rw [HPF.out]; exact nar_sim _ HS.out HNS.out
end Go.Proofs.Ytdbcjldengemeaa

