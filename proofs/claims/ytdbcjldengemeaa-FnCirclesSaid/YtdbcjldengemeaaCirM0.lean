/- Products of phasors, part 0. No program; no condition. -/
import Derived.Test.YtdbcjldengemeaaCirD
namespace Go.Proofs.Ytdbcjldengemeaa.Cir
open Fl
set_option maxRecDepth 1000000 in
theorem M0_ok : (List.range 16).all (fun i => mRow (0 + i)) = true := by decide +kernel
end Go.Proofs.Ytdbcjldengemeaa.Cir
