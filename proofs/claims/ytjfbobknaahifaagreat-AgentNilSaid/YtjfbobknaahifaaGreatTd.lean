/- No agent answers no agent's answers: by running it. No condition. -/
import Derived.Test.YtjfbobknaahifaaGreatTb
namespace Go.Proofs.YtjfbobknaahifaaGreat
open Go Ab
set_option linter.unusedSimpArgs false
set_option linter.unusedVariables false
set_option maxRecDepth 20000
theorem pl80 : plainT Tryz.prog 9 80 = true := by kernel_rfl
theorem ans8n (a : Int) (b : Bool) : Ans Tryz.prog 8 [.agg (List.replicate 36 .unk), .int .u16 a, .bool b] (.bool true) := ans_runT (es := [gt]) fol ⟨gt_ok, trivial⟩ 3000 (by kernel_rfl)
end Go.Proofs.YtjfbobknaahifaaGreat
