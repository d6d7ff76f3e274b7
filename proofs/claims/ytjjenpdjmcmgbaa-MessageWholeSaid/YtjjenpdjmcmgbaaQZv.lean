/- The reference's check and its writing of a message: the plain laws. No condition. -/
import Derived.Test.YtjjenpdjmcmgbaaQZt
namespace Go.Proofs.Ytjjenpdjmcmgbaa
open Go Ab
set_option linter.unusedSimpArgs false
set_option linter.unusedVariables false
set_option maxRecDepth 20000
theorem whole_len (x : Ms) : (whole x).length = 8 + (body x).length := by simp only [whole, head, List.length_append, List.length_cons, List.length_nil, enc_len]
theorem right_if {x : Ms} (hR : chkM x = 0) : rightM x = true ∧ fits x = true := by
  cases h : rightM x with
  | false => simp [chkM, h] at hR
  | true =>
    cases g : fits x with
    | true => exact ⟨rfl, rfl⟩
    | false => simp [chkM, h, g] at hR
end Go.Proofs.Ytjjenpdjmcmgbaa
