/- No map knows nothing: by running it. No condition. -/
import Derived.Test.YtpmbhjmlghoogaaTa
namespace Go.Proofs.Ytpmbhjmlghoogaa
open Go Ab
set_option linter.unusedSimpArgs false
set_option linter.unusedVariables false
set_option maxRecDepth 20000

theorem pl30 : plainT Try.prog 9 30 = true := by kernel_rfl
theorem op30 {d : Nat} {l : List V} (h : rdT Try.prog (d + 2) 30 l) : ∃ a : Int × Int, (Lit.int .u16 a.1).wf = true ∧ l = [.int .u16 a.1, .int .u16 a.2] := by
  obtain ⟨ps, rfl, k⟩ := rd_str Try.underlying30 h
  clear h
  have k : rdF (rdT Try.prog (d + 1)) [27, 27] ps := k
  match ps, k with
  | [l1, l2], ⟨h1, h2, _⟩ =>
    obtain ⟨x, rfl, hx⟩ := rd_int Try.underlying27 h1
    obtain ⟨y, rfl, _⟩ := rd_int Try.underlying27 h2
    exact ⟨(x, y), hx, rfl⟩
  | [], h => exact h.elim
  | [_], h => exact h.2.elim
  | _ :: _ :: _ :: _, h => exact h.2.2.elim
theorem ans6n (a : Int × Int) : Ans Try.prog 6 [.agg [.int .u16 a.1, .int .u16 a.2], .unk] (.bool true) := ans_runT (es := [wt]) fol ⟨wt_ok, trivial⟩ 3000 (by kernel_rfl)
end Go.Proofs.Ytpmbhjmlghoogaa
