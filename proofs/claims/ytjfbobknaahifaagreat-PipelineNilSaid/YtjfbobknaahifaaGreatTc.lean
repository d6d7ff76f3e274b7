/- No switch does nothing: by running it. No condition. -/
import Derived.Test.YtjfbobknaahifaaGreatTa
namespace Go.Proofs.YtjfbobknaahifaaGreat
open Go Ab
set_option linter.unusedSimpArgs false
set_option linter.unusedVariables false
set_option maxRecDepth 20000
theorem pl43 : plainT Tryz.prog 9 43 = true := by kernel_rfl
theorem ans5n : Ans Tryz.prog 5 [.agg (List.replicate 30 .unk)] (.bool true) := ans_runT (es := [pt]) fol ⟨pt_ok, trivial⟩ 3000 (by kernel_rfl)
end Go.Proofs.YtjfbobknaahifaaGreat
