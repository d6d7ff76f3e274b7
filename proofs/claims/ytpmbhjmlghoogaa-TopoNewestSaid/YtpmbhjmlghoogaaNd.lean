/- The reference's sum of bytes. No condition. -/
import Derived.Test.YtpmbhjmlghoogaaNc
namespace Go.Proofs.Ytpmbhjmlghoogaa
open Go Ab
set_option linter.unusedSimpArgs false
set_option linter.unusedVariables false
set_option maxRecDepth 20000

theorem wrap_i64t (j : Nat) (h : j < 9223372036854775800) : IntKind.i64.wrap ((j : Int) + 2) = ((j + 2 : Nat) : Int) := by
  simp [IntKind.wrap, IntKind.bits, IntKind.signed]; omega
theorem psum_at {l : List Nat} {j : Nat} (h : j < l.length) : psum l (j + 1) = psum l j + l[j] * wgt j := by
  show psum l j + l.getD j 0 * wgt j = _
  simp [List.getD, h]

end Go.Proofs.Ytpmbhjmlghoogaa
