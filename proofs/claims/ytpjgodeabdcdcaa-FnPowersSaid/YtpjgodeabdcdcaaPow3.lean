/- FnPowers: what is checked of pairs (by the kernel), the products. No program. -/
import Derived.Test.YtpjgodeabdcdcaaPow2
namespace Go.Proofs.Ytpjgodeabdcdcaa
namespace Pw
theorem pair_all : pairAll (wideTab.drop 32 |>.take 65) wideTab rhsTab = true := by decide +kernel
end Pw
end Go.Proofs.Ytpjgodeabdcdcaa
