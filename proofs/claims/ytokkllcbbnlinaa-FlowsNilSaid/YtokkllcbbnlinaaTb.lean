/- Counts stay at the end; no table has nothing: by running it. No condition. -/
import Derived.Test.YtokkllcbbnlinaaAm9
import Derived.Test.YtokkllcbbnlinaaProg
namespace Go.Proofs.Ytokkllcbbnlinaa
open Go Ab
set_option linter.unusedSimpArgs false
set_option linter.unusedVariables false
set_option maxRecDepth 20000

theorem fol : Try.prog.follows .mixedOrders = true := by kernel_rfl
theorem pl33 : plainT Try.prog 9 33 = true := by kernel_rfl
theorem ans5n (n : Int) : Ans Try.prog 5 [.agg (List.replicate 25 .unk), .int .i64 n] (.bool true) := ans_run fol 2000 (by kernel_rfl)
end Go.Proofs.Ytokkllcbbnlinaa
