/- The code of the check of messages is as the engine wants it. No condition. -/
import Derived.Test.YtjjenpdjmcmgbaaDFx
namespace Go.Proofs.Ytjjenpdjmcmgbaa
open Go Ab
theorem ok17a : (match Try.prog.funcs[17]? with | some fn => (match fn.body with | some c => codeOk fn.ntmps c | none => false) | none => false) = true := by kernel_rfl
theorem ok17 {fn : Func} {c : Code} (hf : Try.prog.funcs[17]? = some fn) (hb : fn.body = some c) : codeOk fn.ntmps c = true := by
  have h := ok17a
  rw [hf] at h
  simp only [hb] at h
  exact h
end Go.Proofs.Ytjjenpdjmcmgbaa
