/- Phasors and angles of 64ths of turns, verified. No program; no condition. -/
import Derived.Test.YtdbcjldengemeaaCirD
namespace Go.Proofs.Ytdbcjldengemeaa.Cir
open Go.RowKit Fl Ieee
abbrev sixty4 : Nat := 4634204016564240384
abbrev tenK : Nat := 4666723447345250304
abbrev thou : Nat := 4562254508917369340
set_option maxRecDepth 1000000 in
theorem ph_ok : (List.range 64).all (fun i => match gF (FRt.getD i 0) with | (a, b) => cop .f64 a .f32 == PRt.getD i 0 && cop .f64 b .f32 == PIt.getD i 0) = true := by decide +kernel
theorem wide_ok : (List.range 64).all (fun i => floatToFloatBits .f32 (PRt.getD i 0) .f64 == some (PRw.getD i 0) && floatToFloatBits .f32 (PIt.getD i 0) .f64 == some (PIw.getD i 0) && floatToFloatBits .f32 (ANt.getD i 0) .f64 == some (ANw.getD i 0) &&
  decide (PRt.getD i 0 < 4294967296) && decide (PIt.getD i 0 < 4294967296) && decide (PRw.getD i 0 < 18446744073709551616) && decide (PIw.getD i 0 < 18446744073709551616) && decide (PRw.getD i 0 % 9223372036854775808 ≤ 4607182418800017408) && decide (PIw.getD i 0 % 9223372036854775808 ≤ 4607182418800017408)) = true := by decide +kernel
def ckY (c : Nat) : Bool := floatBits .quo .f64 (floatOfInt .f64 ((c : Int) - 256)) sixty4 == some (YTt.getD c 0) && fracF (YTt.getD c 0) == FRt.getD (c % 64) 0 && (floatToIntVal .f64 (YTt.getD c 0) .i64).isSome &&
  (FloatKind.f64.format.order (fop .sub .f64 (YTt.getD c 0) (YTt.getD c 0)) 0 == some .eq) && decide (YTt.getD c 0 < 18446744073709551616) &&
  !(FloatKind.f64.format.order (YTt.getD c 0 % 9223372036854775808) 4841369599423283200 == some .gt || FloatKind.f64.format.order (YTt.getD c 0 % 9223372036854775808) 4841369599423283200 == some .eq) &&
  decide (fop .sub .f64 (YTt.getD c 0) (wholeF (YTt.getD c 0)) % 9223372036854775808 ≤ 4607182418800017408)
set_option maxRecDepth 1000000 in
theorem y_ok : (List.range 511).all ckY = true := by decide +kernel
def ckA (i : Nat) : Bool := finB (PRt.getD i 0) && finB (PIt.getD i 0) && !((FloatKind.f32.format.order (PRt.getD i 0) 0 == some .eq) && (FloatKind.f32.format.order (PIt.getD i 0) 0 == some .eq)) &&
  cop .f64 (ang3 (FloatKind.f64.format.order (PIw.getD i 0 % 9223372036854775808) (PRw.getD i 0 % 9223372036854775808) == some .gt) (FloatKind.f32.format.order (PRt.getD i 0) 0 == some .lt) (FloatKind.f32.format.order (PIt.getD i 0) 0 == some .lt) (tN (tA (PIw.getD i 0 % 9223372036854775808) (PRw.getD i 0 % 9223372036854775808)) 3)) .f32 == ANt.getD i 0 &&
  decide (PIw.getD i 0 % 9223372036854775808 ≠ 0 ∨ PRw.getD i 0 % 9223372036854775808 ≠ 0)
set_option maxRecDepth 1000000 in
theorem a_ok : (List.range 64).all ckA = true := by decide +kernel
def notGt (a b : Nat) : Bool := !(FloatKind.f64.format.order a b == some .gt)
def ckT (c : Nat) : Bool := match floatBits .mul .f64 (ANw.getD (c % 64) 0) sixty4 with
  | some A => match floatBits .sub .f64 A (floatOfInt .f64 ((c : Int) - 128)) with
    | some S => match floatBits .add .f64 S tenK with
      | some U => match floatToIntVal .f64 U .i64 with
        | some h => notGt (gapF S (floatOfInt .f64 (h - 10000))) thou && decide (Int.tmod (h - 10000) 64 = 0) && decide (0 ≤ h) && decide (h ≤ 100000)
        | none => false
      | none => false
    | none => false
  | none => false
set_option maxRecDepth 1000000 in
theorem t_ok : (List.range 256).all ckT = true := by decide +kernel
def ckP (i : Nat) : Bool := match floatBits .mul .f64 (PRw.getD i 0) (PRw.getD i 0) with
  | some A => match floatBits .mul .f64 (PIw.getD i 0) (PIw.getD i 0) with
    | some B => match floatBits .add .f64 A B with
      | some S => match floatToFloatBits .f64 S .f32 with
        | some P => match floatToFloatBits .f32 P .f64 with
          | some W => notGt (gapF W 4607182418800017408) most64
          | none => false
        | none => false
      | none => false
    | none => false
  | none => false
set_option maxRecDepth 1000000 in
theorem p_ok : (List.range 64).all ckP = true := by decide +kernel
def ckR (i : Nat) : Bool := (FloatKind.f64.format.order (gapF (PRw.getD (16 * i) 0) 0) 0 == some .eq) || (FloatKind.f64.format.order (gapF (PRw.getD (16 * i) 0) 0) 4607182418800017408 == some .eq)
theorem r_ok : (List.range 4).all ckR = true := by decide +kernel
theorem el_ok : (List.range 26).all (fun e => fop .mul .f64 (floatOfInt .f64 ((e : Int) - 8)) ln2 == ELt.getD e 0) = true := by decide +kernel
set_option maxRecDepth 1000000 in
theorem pairs_ok : (List.range 200).all (fun k => (List.range 200).all fun l => decide (Tt (8 * (k + 1)) + Tt (8 * (l + 1)) - Tt ((k + 1) * (l + 1)) ≤ 1) && decide (Tt ((k + 1) * (l + 1)) - Tt (8 * (k + 1)) - Tt (8 * (l + 1)) ≤ 1)) = true := by decide +kernel
end Go.Proofs.Ytdbcjldengemeaa.Cir
