/- The reference's check and its writing of a message: the calls. No condition. -/
import Derived.Test.YtjjenpdjmcmgbaaQZv
namespace Go.Proofs.Ytjjenpdjmcmgbaa
open Go Ab
set_option linter.unusedSimpArgs false
set_option linter.unusedVariables false
set_option maxRecDepth 20000
theorem part37' (x : Ms) : partK true 36 (msC x) 0 = some (.agg (msC x)) := rfl
end Go.Proofs.Ytjjenpdjmcmgbaa
