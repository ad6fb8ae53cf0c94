/- The body-less functions of package math that this program reaches: what the model says of them, at this translation's numbers. -/
import Derived.Test.YtildgnfonpghmaaChecked
import Derived.Test.YtildgnfonpghmaaFl
import Derived.KernelRfl
namespace Go.Proofs.Ytildgnfonpghmaa
open Go.RowKit Fl
end Go.Proofs.Ytildgnfonpghmaa
