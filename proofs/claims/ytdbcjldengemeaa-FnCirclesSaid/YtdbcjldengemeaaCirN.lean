/- What is known of the tenths of decibels of p 64ths. No program; no condition. -/
import Derived.Test.YtdbcjldengemeaaCirD
namespace Go.Proofs.Ytdbcjldengemeaa.Cir
open Go.RowKit Fl Ieee
/-- what is known of p 64ths -/
def Ten (p : Nat) : Prop := ∃ W, mval double W = p * 2 ^ 1068 ∧ floatToIntVal .f64 (floorF (tenF W)) .i64 = some (Tt p) ∧ 3936146074321813504 ≤ W ∧ W ≤ 5183643171103440896
end Go.Proofs.Ytdbcjldengemeaa.Cir
