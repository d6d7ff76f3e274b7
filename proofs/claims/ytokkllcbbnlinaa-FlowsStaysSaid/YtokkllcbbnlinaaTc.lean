/- Counts stay at the end: by running it. No condition. -/
import Derived.Test.YtokkllcbbnlinaaAm9
import Derived.Test.YtokkllcbbnlinaaProg
namespace Go.Proofs.Ytokkllcbbnlinaa
open Go Ab
set_option linter.unusedSimpArgs false
set_option linter.unusedVariables false
set_option maxRecDepth 20000

theorem fol : Try.prog.follows .mixedOrders = true := by kernel_rfl
theorem ans4c : Ans Try.prog 4 [] (.bool true) := ans_run fol 2000 (by kernel_rfl)
end Go.Proofs.Ytokkllcbbnlinaa
