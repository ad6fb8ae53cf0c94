/- Floating-point operations of the program: what each yields in a world, a pure form of it, and that the two agree but for which NaN.
   No condition; used by this seat's walks. -/
import Derived.WalkKit
import Derived.WalkLawsBesides
import Derived.Deep.Draws
import Derived.RowKit3
import Derived.Lib.Hide
namespace Go.Proofs.Ytildgnfonpghmaa
namespace Fl
open Ieee

/-- the bits stand for a NaN -/
def isN (k : FloatKind) (b : Nat) : Bool := (k.decode b).isNaN

/-- a NaN of each kind -/
def qn : FloatKind → Nat
  | .f32 => 2143289344
  | .f64 => 9221120237041090560

/-- '+', '-', '*', '/', one NaN standing for all -/
def fop (op : BinOp) (k : FloatKind) (x y : Nat) : Nat := (floatBits op k x y).getD (qn k)

/-- what the operation yields in the world w -/
def fres (op : BinOp) (k : FloatKind) (x y : Nat) (w : World) : Nat :=
  match floatBits op k x y with
  | some r => r
  | none => (Question.nanBits k x y).cut (w.tape w.drawn (.nanBits k x y))

/-- how many draws it makes -/
def fcnt (op : BinOp) (k : FloatKind) (x y : Nat) : Nat := if (floatBits op k x y).isSome then 0 else 1

theorem run_f {P : Program} (op : BinOp) (hop : op = .add ∨ op = .sub ∨ op = .mul ∨ op = .quo) (t : TypeId) (k : FloatKind) (x y : Nat) (w : World) :
    (binOp op t (.float k x) (.float k y)).run P w = .ok (.float k (fres op k x y w)) (w.drewN (fcnt op k x y)) := by
  cases h : floatBits op k x y with
  | some r => rw [run_float_arith w op t k x y r h]; simp [fres, fcnt, h, World.drewN_zero]
  | none =>
    unfold floatBits at h
    rcases hop with rfl | rfl | rfl | rfl <;> simp only at h <;>
      simp [binOp, Op.floatArith, h, fres, fcnt, floatBits, Question.forced, World.drew_is_drewN]

theorem run_add {P : Program} (t : TypeId) (k : FloatKind) (x y : Nat) (w : World) :
    (binOp .add t (.float k x) (.float k y)).run P w = .ok (.float k (fres .add k x y w)) (w.drewN (fcnt .add k x y)) := run_f .add (by simp) t k x y w
theorem run_sub {P : Program} (t : TypeId) (k : FloatKind) (x y : Nat) (w : World) :
    (binOp .sub t (.float k x) (.float k y)).run P w = .ok (.float k (fres .sub k x y w)) (w.drewN (fcnt .sub k x y)) := run_f .sub (by simp) t k x y w
theorem run_mul {P : Program} (t : TypeId) (k : FloatKind) (x y : Nat) (w : World) :
    (binOp .mul t (.float k x) (.float k y)).run P w = .ok (.float k (fres .mul k x y w)) (w.drewN (fcnt .mul k x y)) := run_f .mul (by simp) t k x y w
theorem run_quo {P : Program} (t : TypeId) (k : FloatKind) (x y : Nat) (w : World) :
    (binOp .quo t (.float k x) (.float k y)).run P w = .ok (.float k (fres .quo k x y w)) (w.drewN (fcnt .quo k x y)) := run_f .quo (by simp) t k x y w
attribute [go_sem] run_add run_sub run_mul run_quo

/-- the same, or both a NaN -/
def Sim (k : FloatKind) (a b : Nat) : Prop := a = b ∨ (isN k a = true ∧ isN k b = true)
theorem Sim.refl (k : FloatKind) (a : Nat) : Sim k a a := .inl rfl
theorem Sim.symm {k : FloatKind} {a b : Nat} (h : Sim k a b) : Sim k b a := h.elim (fun e => .inl e.symm) (fun ⟨x, y⟩ => .inr ⟨y, x⟩)
theorem Sim.trans {k : FloatKind} {a b c : Nat} (h : Sim k a b) (g : Sim k b c) : Sim k a c := by
  rcases h with rfl | ⟨x, y⟩
  · exact g
  · rcases g with rfl | ⟨_, z⟩
    · exact .inr ⟨x, y⟩
    · exact .inr ⟨x, z⟩
theorem Sim.isN_eq {k : FloatKind} {a b : Nat} (h : Sim k a b) : isN k a = isN k b := by
  rcases h with rfl | ⟨x, y⟩
  · rfl
  · rw [x, y]

theorem isN_iff (k : FloatKind) (b : Nat) : isN k b = true ↔ ∃ s t, k.decode b = .nan s t := by
  unfold isN Datum.isNaN
  constructor
  · intro h; split at h
    · exact ⟨_, _, by assumption⟩
    · cases h
  · rintro ⟨s, t, h⟩; rw [h]

theorem floatBits_nan_l {op : BinOp} {k : FloatKind} {x y : Nat} (h : isN k x = true) : floatBits op k x y = none := by
  obtain ⟨s, t, h⟩ := (isN_iff k x).1 h
  have h' : k.format.read x = .nan s t := h
  unfold floatBits
  cases op <;> simp [Format.add, Format.sub, Format.mul, Format.div, h', Datum.sum, Datum.product, Datum.quotient]
theorem floatBits_nan_r {op : BinOp} {k : FloatKind} {x y : Nat} (h : isN k y = true) : floatBits op k x y = none := by
  obtain ⟨s, t, h⟩ := (isN_iff k y).1 h
  have h' : k.format.read y = .nan s t := h
  unfold floatBits
  cases op <;> simp only [Format.add, Format.sub, Format.mul, Format.div, h', Datum.opposite] <;> cases k.format.read x <;> simp [Datum.sum, Datum.product, Datum.quotient]

theorem order_nan_l {k : FloatKind} {x y : Nat} (h : isN k x = true) : k.format.order x y = none := by
  obtain ⟨s, t, h⟩ := (isN_iff k x).1 h
  have h' : k.format.read x = .nan s t := h
  simp [Format.order, h', Datum.order]
theorem order_nan_r {k : FloatKind} {x y : Nat} (h : isN k y = true) : k.format.order x y = none := by
  obtain ⟨s, t, h⟩ := (isN_iff k y).1 h
  have h' : k.format.read y = .nan s t := h
  simp only [Format.order, h']
  cases k.format.read x <;> simp [Datum.order]
theorem order_self {k : FloatKind} {x : Nat} (h : isN k x = false) : k.format.order x x = some .eq := by
  unfold Format.order
  have h' : (k.format.read x).isNaN = false := h
  cases hr : k.format.read x with
  | nan s t => rw [hr] at h'; cases h'
  | infinity s => cases s <;> rfl
  | number s m e => simp [Datum.order, compare, compareOfLessAndEq]
theorem order_none_iff {k : FloatKind} {x y : Nat} : k.format.order x y = none ↔ isN k x = true ∨ isN k y = true := by
  constructor
  · intro h
    unfold isN FloatKind.decode
    unfold Format.order at h
    cases hx : k.format.read x <;> cases hy : k.format.read y <;> simp [hx, hy, Datum.order, Datum.isNaN] at h ⊢
  · rintro (h | h)
    · exact order_nan_l h
    · exact order_nan_r h

theorem fop_congr {op : BinOp} {k : FloatKind} {x x' y y' : Nat} (hx : Sim k x x') (hy : Sim k y y') : fop op k x y = fop op k x' y' := by
  unfold fop
  rcases hx with rfl | ⟨a, b⟩
  · rcases hy with rfl | ⟨c, d⟩
    · rfl
    · rw [floatBits_nan_r c, floatBits_nan_r d]
  · rw [floatBits_nan_l a, floatBits_nan_l b]
theorem order_congr {k : FloatKind} {x x' y y' : Nat} (hx : Sim k x x') (hy : Sim k y y') : k.format.order x y = k.format.order x' y' := by
  rcases hx with rfl | ⟨a, b⟩
  · rcases hy with rfl | ⟨c, d⟩
    · rfl
    · rw [order_nan_r c, order_nan_r d]
  · rw [order_nan_l a, order_nan_l b]

theorem isN_qn (k : FloatKind) : isN k (qn k) = true := by cases k <;> decide +kernel

theorem isN32_of {b s r : Nat} (_hs : s < 2) (hr : r < 8388607) (h : b = s * 2147483648 + 2139095041 + r) : isN .f32 b = true := by
  unfold isN FloatKind.decode Format.read
  have e1 : (FloatKind.f32.format).signWeight = 2147483648 := by decide +kernel
  have e2 : (FloatKind.f32.format).binade = 8388608 := by decide +kernel
  have e3 : (FloatKind.f32.format).infRung = 2139095040 := by decide +kernel
  simp only [e1, e2, e3]
  have hm : b % 2147483648 = 2139095041 + r := by omega
  rw [hm, if_neg (by omega), if_neg (by omega), if_neg (by omega)]
  rfl
theorem isN64_of {b s r : Nat} (_hs : s < 2) (hr : r < 4503599627370495) (h : b = s * 9223372036854775808 + 9218868437227405313 + r) : isN .f64 b = true := by
  unfold isN FloatKind.decode Format.read
  have e1 : (FloatKind.f64.format).signWeight = 9223372036854775808 := by decide +kernel
  have e2 : (FloatKind.f64.format).binade = 4503599627370496 := by decide +kernel
  have e3 : (FloatKind.f64.format).infRung = 9218868437227405312 := by decide +kernel
  simp only [e1, e2, e3]
  have hm : b % 9223372036854775808 = 9218868437227405313 + r := by omega
  rw [hm, if_neg (by omega), if_neg (by omega), if_neg (by omega)]
  rfl

theorem cut32 (t : Nat) : isN .f32 ((t % 2) * 2 ^ 31 + 0x7f800000 + 1 + (t / 2) % (2 ^ 23 - 1)) = true :=
  isN32_of (s := t % 2) (r := (t / 2) % 8388607) (by omega) (Nat.mod_lt _ (by omega)) (by simp)
theorem cut64 (t : Nat) : isN .f64 ((t % 2) * 2 ^ 63 + 0x7ff0000000000000 + 1 + (t / 2) % (2 ^ 52 - 1)) = true :=
  isN64_of (s := t % 2) (r := (t / 2) % 4503599627370495) (by omega) (Nat.mod_lt _ (by omega)) (by simp)
theorem cut32_lt (t : Nat) : (t % 2) * 2 ^ 31 + 0x7f800000 + 1 + (t / 2) % (2 ^ 23 - 1) < 4294967296 := by
  have := Nat.mod_lt (t / 2) (show 0 < 8388607 by omega); simp; omega
theorem cut64_lt (t : Nat) : (t % 2) * 2 ^ 63 + 0x7ff0000000000000 + 1 + (t / 2) % (2 ^ 52 - 1) < 18446744073709551616 := by
  have := Nat.mod_lt (t / 2) (show 0 < 4503599627370495 by omega); simp; omega

theorem nanBits_isN (k : FloatKind) (x y t : Nat) : isN k ((Question.nanBits k x y).cut t) = true := by
  cases k
  · exact cut32 t
  · exact cut64 t
theorem nanConv_isN (k : FloatKind) (x t : Nat) : isN k ((Question.nanConv k x).cut t) = true := by
  cases k
  · exact cut32 t
  · exact cut64 t

/-- the bits fit the kind -/
def lim : FloatKind → Nat
  | .f32 => 4294967296
  | .f64 => 18446744073709551616
theorem wf_iff (k : FloatKind) (b : Nat) : (Lit.float k b).wf = true ↔ b < lim k := by
  cases k <;> simp [Lit.wf, lim]
theorem nanBits_lt (k : FloatKind) (x y t : Nat) : (Question.nanBits k x y).cut t < lim k := by
  cases k
  · exact cut32_lt t
  · exact cut64_lt t
theorem nanConv_lt (k : FloatKind) (x t : Nat) : (Question.nanConv k x).cut t < lim k := by
  cases k
  · exact cut32_lt t
  · exact cut64_lt t
theorem fres_lt (op : BinOp) (k : FloatKind) (x y : Nat) (w : World) : fres op k x y w < lim k := by
  unfold fres
  split
  · rename_i r h; exact (wf_iff k _).1 (floatBits_wf h)
  · exact nanBits_lt k x y _
theorem qn_lt (k : FloatKind) : qn k < lim k := by cases k <;> decide
theorem fop_lt (op : BinOp) (k : FloatKind) (x y : Nat) : fop op k x y < lim k := by
  unfold fop
  cases h : floatBits op k x y with
  | none => exact qn_lt k
  | some r => exact (wf_iff k _).1 (floatBits_wf h)

theorem fres_sim (op : BinOp) (k : FloatKind) (x y : Nat) (w : World) : Sim k (fres op k x y w) (fop op k x y) := by
  unfold fres fop
  cases h : floatBits op k x y with
  | some r => exact .inl rfl
  | none => exact .inr ⟨nanBits_isN k x y _, isN_qn k⟩
/-- the operation at operands that are known but for which NaN -/
theorem fres_of {op : BinOp} {k : FloatKind} {x y x' y' : Nat} (w : World) (hx : Sim k x x') (hy : Sim k y y') : Sim k (fres op k x y w) (fop op k x' y') := by
  rw [← fop_congr hx hy]; exact fres_sim ..
theorem fres_some {op : BinOp} {k : FloatKind} {x y r : Nat} (w : World) (h : floatBits op k x y = some r) : fres op k x y w = r := by simp [fres, h]
theorem fcnt_some {op : BinOp} {k : FloatKind} {x y r : Nat} (h : floatBits op k x y = some r) : fcnt op k x y = 0 := by simp [fcnt, h]


/-! ### conversions -/
/-- a conversion to another kind, one NaN standing for all (an overflow, too, yields it here: see 'cres') -/
def cop (src : FloatKind) (b : Nat) (dst : FloatKind) : Nat := (floatToFloatBits src b dst).getD (qn dst)
def cres (src : FloatKind) (b : Nat) (dst : FloatKind) (w : World) : Nat :=
  match floatToFloatBits src b dst with
  | some r => r
  | none => if isN src b then (Question.nanConv dst b).cut (w.tape w.drawn (.nanConv dst b)) else (Question.floatToFloat b).cut (w.tape w.drawn (.floatToFloat b))
def ccnt (src : FloatKind) (b : Nat) (dst : FloatKind) : Nat := if (floatToFloatBits src b dst).isSome then 0 else 1

theorem run_c {P : Program} (ts td : TypeId) (s k : FloatKind) (b : Nat) (w : World) (hs : (P.underlying ts).isSome = true) (hd : P.underlying td = some (.float k)) :
    (convert ts td (.float s b)).run P w = .ok (.float k (cres s b k w)) (w.drewN (ccnt s b k)) := by
  cases h : floatToFloatBits s b k with
  | some r => rw [run_convert_float_float w ts td s k b r hs hd h]; simp [cres, ccnt, h, World.drewN_zero]
  | none =>
    obtain ⟨u, hs'⟩ := Option.isSome_iff_exists.1 hs
    have h0 := h
    unfold floatToFloatBits at h
    split at h
    · cases h
    · rename_i ne
      split at h
      · rename_i sg tt he
        have hn : isN s b = true := (isN_iff s b).2 ⟨_, _, he⟩
        cases u <;> simp [convert, run_underlying hs', run_underlying hd, Conv.floatToFloat, ne, he, cres, ccnt, h0, hn, Question.forced, World.drew_is_drewN]
      · cases h
      · rename_i sg m e he
        split at h
        · rename_i ho
          have hn : isN s b = false := by unfold isN; rw [he]; rfl
          cases u <;> simp [convert, run_underlying hs', run_underlying hd, Conv.floatToFloat, ne, he, ho, cres, ccnt, h0, hn, Question.forced, World.drew_is_drewN]
        · cases h

theorem cres_some {s k : FloatKind} {b r : Nat} (w : World) (h : floatToFloatBits s b k = some r) : cres s b k w = r := by simp [cres, h]
theorem cres_nan {s k : FloatKind} {b : Nat} (w : World) (hk : s ≠ k) (h : isN s b = true) : isN k (cres s b k w) = true := by
  obtain ⟨sg, t, he⟩ := (isN_iff s b).1 h
  have : floatToFloatBits s b k = none := by unfold floatToFloatBits; rw [if_neg hk, he]
  simp only [cres, this, h, if_true]
  exact nanConv_isN k b _
theorem cres_same {k : FloatKind} {b : Nat} (w : World) : cres k b k w = b := by
  have : floatToFloatBits k b k = some b := by unfold floatToFloatBits; rw [if_pos rfl]
  simp [cres, this]
theorem ccnt_same {k : FloatKind} {b : Nat} : ccnt k b k = 0 := by
  have : floatToFloatBits k b k = some b := by unfold floatToFloatBits; rw [if_pos rfl]
  simp [ccnt, this]
attribute [go_sem] run_c
attribute [go_sem] World.drewN_zero
attribute [simp, go_sem] cres_same ccnt_same

@[simp, go_sem] theorem order_fres_l (op : BinOp) (k : FloatKind) (x y z : Nat) (w : World) : k.format.order (fres op k x y w) z = k.format.order (fop op k x y) z := order_congr (fres_sim ..) (Sim.refl ..)
@[simp, go_sem] theorem order_fres_r (op : BinOp) (k : FloatKind) (x y z : Nat) (w : World) : k.format.order z (fres op k x y w) = k.format.order z (fop op k x y) := order_congr (Sim.refl ..) (fres_sim ..)
@[simp] theorem fop_fres_l (o op : BinOp) (k : FloatKind) (x y z : Nat) (w : World) : fop o k (fres op k x y w) z = fop o k (fop op k x y) z := fop_congr (fres_sim ..) (Sim.refl ..)
@[simp] theorem fop_fres_r (o op : BinOp) (k : FloatKind) (x y z : Nat) (w : World) : fop o k z (fres op k x y w) = fop o k z (fop op k x y) := fop_congr (Sim.refl ..) (fres_sim ..)
@[simp] theorem isN_fres (op : BinOp) (k : FloatKind) (x y : Nat) (w : World) : isN k (fres op k x y w) = isN k (fop op k x y) := (fres_sim ..).isN_eq
@[go_sem] theorem run_store_float {P : Program} {w : World} {a : Addr} {m : Mode} (k : FloatKind) (b : Nat) : (store a (.float k b) m).run P w = stored P w a (.float k b) m := run_store P w a _ m rfl
@[go_sem] theorem run_store_complex {P : Program} {w : World} {a : Addr} {m : Mode} (k : FloatKind) (x y : Nat) : (store a (.complex k x y) m).run P w = stored P w a (.complex k x y) m := run_store P w a _ m rfl
theorem ret_bool {a b : Bool} (h : a = b) : Ending.returned (.bool a) = .returned (.bool b) := by rw [h]
theorem ret_int {k : IntKind} {a b : Int} (h : a = b) : Ending.returned (.int k a) = .returned (.int k b) := by rw [h]
theorem grown_drewN {W w : World} (n : Nat) (h : RowKit.Grown W w) : RowKit.Grown W (w.drewN n) := h

end Fl
end Go.Proofs.Ytildgnfonpghmaa
