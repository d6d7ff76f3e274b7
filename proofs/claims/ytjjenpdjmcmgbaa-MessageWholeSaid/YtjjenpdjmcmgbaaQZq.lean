/- Matches put behind bytes, by the reference: the call. No condition. -/
import Derived.Test.YtjjenpdjmcmgbaaQZo
namespace Go.Proofs.Ytjjenpdjmcmgbaa
open Go Ab
set_option linter.unusedSimpArgs false
set_option linter.unusedVariables false
set_option maxRecDepth 20000
theorem Ke.var {k : Nat} {l : List Nat} {m m' : Mem} {n ty : Nat} {c : List V} (h : Ke k l m m') (hb : Bf m k l) (hm : m[n]? = some (.var ty c)) : m'[n]? = some (.var ty c) :=
  h.2 n _ (fun hl e => by rw [e, hb hl] at hm; cases hm) hm
end Go.Proofs.Ytjjenpdjmcmgbaa
