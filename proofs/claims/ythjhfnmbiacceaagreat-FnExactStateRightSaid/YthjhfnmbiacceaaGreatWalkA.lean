/-
The table of types fits.
-/
import Derived.Test.YthjhfnmbiacceaaGreatTab
import Derived.Test.YthjhfnmbiacceaaGreatCore3
import Derived.Test.YthjhfnmbiacceaaGreatPureQ
import Derived.Test.YthjhfnmbiacceaaGreatProg
namespace Go.Proofs.YthjhfnmbiacceaaGreat
open X
set_option linter.unusedVariables false
set_option linter.unusedSimpArgs false
set_option maxRecDepth 100000
theorem tabOK : TabOK Tryz.prog tt := TabOK.of (l := tabL) (n := 272) (by kernel_rfl) (by kernel_rfl)
theorem mixed : Tryz.prog.follows .mixedOrders = true := by kernel_rfl
end Go.Proofs.YthjhfnmbiacceaaGreat
