/- No table has nothing; and what the document says of two rules, by running it. No condition. -/
import Derived.Test.YtffhmbdpmpgddaaAm9
import Derived.Test.YtffhmbdpmpgddaaFx
namespace Go.Proofs.Ytffhmbdpmpgddaa
open Go Ab
set_option linter.unusedSimpArgs false
set_option linter.unusedVariables false
set_option maxRecDepth 20000

theorem ans11 : Ans Try.prog 11 [] (.bool true) := ans_run fol 2000 (by kernel_rfl)
end Go.Proofs.Ytffhmbdpmpgddaa
