/- Numbers read out of bytes, by the reference. No condition. -/
import Derived.Test.YtpmbhjmlghoogaaNi
namespace Go.Proofs.Ytpmbhjmlghoogaa
open Go Ab
set_option linter.unusedSimpArgs false
set_option linter.unusedVariables false
set_option maxRecDepth 20000

theorem wrap_i64a (a j : Nat) (h : a + j < 9223372036854775807) : IntKind.i64.wrap ((a : Int) + (j : Int)) = ((a + j : Nat) : Int) := by
  rw [IntKind.wrap_i64]; omega
end Go.Proofs.Ytpmbhjmlghoogaa
