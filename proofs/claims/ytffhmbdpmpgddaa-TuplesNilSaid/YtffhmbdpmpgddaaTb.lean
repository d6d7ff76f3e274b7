/- No table has nothing: the law of the nil table, by running it. No condition. -/
import Derived.Test.YtffhmbdpmpgddaaTa
namespace Go.Proofs.Ytffhmbdpmpgddaa
open Go Ab
set_option linter.unusedSimpArgs false
set_option linter.unusedVariables false
set_option maxRecDepth 20000

theorem pl32 : plainT Try.prog 9 32 = true := by kernel_rfl
theorem pl25 : plainT Try.prog 9 25 = true := by kernel_rfl
theorem ans5n (id : Int) : Ans Try.prog 5 [.agg (List.replicate 25 .unk), .agg (List.replicate 11 .unk), .int .i64 id] (.bool true) := ans_run fol 2000 (by kernel_rfl)
end Go.Proofs.Ytffhmbdpmpgddaa
