/- A message's bytes, by the reference. No condition. -/
import Derived.Test.YtjjenpdjmcmgbaaBZr
namespace Go.Proofs.Ytjjenpdjmcmgbaa
open Go Ab
set_option linter.unusedSimpArgs false
set_option linter.unusedVariables false
set_option maxRecDepth 20000
theorem hel (h : He) : (heC h).length = 27 := rfl
end Go.Proofs.Ytjjenpdjmcmgbaa
