/- What is written is read as it was, what is read is written as it was: the arguments. No condition. Bytes are read as the message that they are, or refused. No condition. -/
import Derived.Test.YtjjenpdjmcmgbaaDRc
import Derived.Test.YtjjenpdjmcmgbaaDRe
namespace Go.Proofs.Ytjjenpdjmcmgbaa
open Go Ab
set_option linter.unusedSimpArgs false
set_option linter.unusedVariables false
set_option maxRecDepth 20000
theorem pl34 : plainT Try.prog 9 34 = true := by kernel_rfl
end Go.Proofs.Ytjjenpdjmcmgbaa
namespace Go.Proofs.Ytjjenpdjmcmgbaa
open Go Ab
set_option linter.unusedSimpArgs false
set_option linter.unusedVariables false
set_option maxRecDepth 20000
theorem ans13 {b : List Nat} (hb : Byt b) : Ans Try.prog 13 [byV b] (.tup [.agg (msC (decX b)), .int .i64 (decE b)]) := ans_lendW (snd13 hb)
set_option maxHeartbeats 4000000 in
theorem ans4 (b : List Nat) (hb : b.length < lim ∧ ∀ q ∈ b, q < 256) : Ans Try.prog 4 [byV b] (.bool true) := by
  have hB : Byt b := ⟨hb.2, hb.1⟩
  refine Snd_of_W fol rfl rfl (by kernel_rfl) (by kernel_rfl) ?_
  have nby : nfs [byV b] = true := by simp only [nfs, nf_by, Bool.and_self]
  have sp : ∀ y : Ms, splice zM 0 (msC y) = msC y := fun y => splice_all rfl
  have hml : ∀ y : Ms, (msC y).length = 36 := fun _ => rfl
  have wd := decX_wf hB
  simp -implicitDefEqProofs only [sims.1, keeps.1, tick_on, calleeK, Nat.reduceEqDiff]
  refine callD_ans (ans12 hB) en12 nby (by simp only [nf, nfs, nfs_ms, Bool.and_self]) ?_
  simp -implicitDefEqProofs only [sims.1, fx.1, keeps.1, tick_on, calleeK, extractV, Nat.reduceAdd, Nat.reduceEqDiff, storeK_agg, hml, Nat.le_refl]
  simp only [zMx, sp]
  refine callD_ans (ans13 hB) en13 nby (by simp only [nf, nfs, nfs_ms, Bool.and_self]) ?_
  simp -implicitDefEqProofs only [sims.1, fx.1, keeps.1, tick_on, extractV, Nat.reduceAdd, Nat.reduceEqDiff, storeK_agg, hml, Nat.le_refl]
  simp -implicitDefEqProofs only [sims.1, fx.1, keeps.1, tick_on, calleeK, Nat.reduceEqDiff, zMx, sp, part37']
  refine callD_ans (ans14 (decX b) wd) en14 (nfs_cons (nfs_ms _) (nfs_cons (nfs_ms _) rfl)) rfl ?_
  simp -implicitDefEqProofs only [sims.1, keeps.1, tick_on, calleeK, Nat.reduceEqDiff]
  refine callD_ans ans11 en11 rfl rfl ?_
  simp -implicitDefEqProofs only [sims.1, fx.1, keeps.1, tick_on, Nat.reduceEqDiff]
  exact ans_ret rfl
end Go.Proofs.Ytjjenpdjmcmgbaa
