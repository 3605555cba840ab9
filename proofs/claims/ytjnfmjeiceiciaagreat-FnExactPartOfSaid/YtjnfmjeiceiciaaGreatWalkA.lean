/-
The table of types fits.
-/
import Derived.Test.YtjnfmjeiceiciaaGreatTab
import Derived.Test.YtjnfmjeiceiciaaGreatCore3
import Derived.Test.YtjnfmjeiceiciaaGreatPureQ
import Derived.Test.YtjnfmjeiceiciaaGreatProg
namespace Go.Proofs.YtjnfmjeiceiciaaGreat
open X
set_option linter.unusedVariables false
set_option linter.unusedSimpArgs false
set_option maxRecDepth 100000
theorem tabOK : TabOK Tryz.prog tt := TabOK.of (l := tabL) (n := 323) (by kernel_rfl) (by kernel_rfl)
theorem mixed : Tryz.prog.follows .mixedOrders = true := by kernel_rfl
end Go.Proofs.YtjnfmjeiceiciaaGreat
