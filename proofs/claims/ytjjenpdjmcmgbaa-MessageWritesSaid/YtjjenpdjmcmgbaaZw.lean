/- The reference's check and its writing of a message: the calls. No condition. -/
import Derived.Test.YtjjenpdjmcmgbaaZv
namespace Go.Proofs.Ytjjenpdjmcmgbaa
open Go Ab
set_option linter.unusedSimpArgs false
set_option linter.unusedVariables false
set_option maxRecDepth 20000

theorem le_i8 (x : Int) : decide (0 ≤ x) = decide (0 ≤ x) := rfl
theorem lenH (x : Ms) : ∀ M, lenV Try.prog M 35 (hesV x.helds) = some (.int .i64 (x.helds.length : Int)) := fun M => by unfold hesV; rw [lni35, List.length_map]
theorem le1 (n : Nat) : decide ((n : Int) ≤ 1) = decide (n ≤ 1) := by rw [Bool.eq_iff_iff]; simp; omega
theorem part37' (x : Ms) : partK true 36 (msC x) 0 = some (.agg (msC x)) := rfl
set_option maxHeartbeats 4000000 in
theorem ans18 (x : Ms) (hx : wfM x) : Ans Try.prog 18 [.agg (msC x)] (.bool (rightM x)) := by
  refine Snd_of_W fol rfl rfl (by kernel_rfl) (by kernel_rfl) ?_
  have q0 : (msC x)[0]? = some (.int .i8 x.ty) := rfl
  have q2 : (msC x)[2]? = some (.int .i8 x.dd) := rfl
  have q3 : partK true 25 (msC x) 3 = some (.agg (ruC x.r)) := rfl
  have q28 : (msC x)[28]? = some (.int .u16 (x.port : Int)) := rfl
  have q34 : (msC x)[34]? = some (hesV x.helds) := rfl
  simp -implicitDefEqProofs only [sims.1, fx.1, keeps.1, tick_on, calleeK, extractV, oneV, faddrK, nonnil, b_shr, b_shl, fieldK, Nat.reduceAdd, Nat.reduceMul, Nat.reduceSub, Nat.reduceEqDiff, Nat.reduceLT, Nat.reduceLeDiff, Nat.reduceBEq, Nat.reduceBNe, reduceIte, Int.reduceEq, Int.reduceLT, Int.reduceLE, Int.reduceNe, Int.reduceToNat, part37']
  refine callD_ans (ans39 x hx) en39 (nfs_cons (nfs_ms x) rfl) rfl ?_
  cases hT : isTy x.ty
  · simp -implicitDefEqProofs only [sims.1, fx.1, keeps.1, tick_on, calleeK, extractV, oneV, faddrK, nonnil, b_shr, b_shl, fieldK, Nat.reduceAdd, Nat.reduceMul, Nat.reduceSub, Nat.reduceEqDiff, Nat.reduceLT, Nat.reduceLeDiff, Nat.reduceBEq, Nat.reduceBNe, reduceIte, Int.reduceEq, Int.reduceLT, Int.reduceLE, Int.reduceNe, Int.reduceToNat]
    exact ans_ret (by rw [right_ty hT])
  cases ho : onlyM x
  · simp -implicitDefEqProofs only [sims.1, fx.1, keeps.1, tick_on, calleeK, extractV, oneV, faddrK, nonnil, b_shr, b_shl, fieldK, Nat.reduceAdd, Nat.reduceMul, Nat.reduceSub, Nat.reduceEqDiff, Nat.reduceLT, Nat.reduceLeDiff, Nat.reduceBEq, Nat.reduceBNe, reduceIte, Int.reduceEq, Int.reduceLT, Int.reduceLE, Int.reduceNe, Int.reduceToNat]
    exact ans_ret (by rw [right_only ho])
  cases h5 : decide (x.ty = 5)
  rotate_left
  · have r5 := right5 (of_decide_eq_true h5) ho
    cases d1 : decide (0 ≤ x.dd)
    · simp -implicitDefEqProofs only [sims.1, fx.1, keeps.1, tick_on, calleeK, extractV, oneV, faddrK, nonnil, b_shr, b_shl, fieldK, Nat.reduceAdd, Nat.reduceMul, Nat.reduceSub, Nat.reduceEqDiff, Nat.reduceLT, Nat.reduceLeDiff, Nat.reduceBEq, Nat.reduceBNe, reduceIte, Int.reduceEq, Int.reduceLT, Int.reduceLE, Int.reduceNe, Int.reduceToNat, q0, q2, h5, d1]
      exact ans_ret (by rw [r5, d1]; rfl)
    cases d2 : decide (x.dd ≤ 3)
    · simp -implicitDefEqProofs only [sims.1, fx.1, keeps.1, tick_on, calleeK, extractV, oneV, faddrK, nonnil, b_shr, b_shl, fieldK, Nat.reduceAdd, Nat.reduceMul, Nat.reduceSub, Nat.reduceEqDiff, Nat.reduceLT, Nat.reduceLeDiff, Nat.reduceBEq, Nat.reduceBNe, reduceIte, Int.reduceEq, Int.reduceLT, Int.reduceLE, Int.reduceNe, Int.reduceToNat, q0, q2, h5, d1, d2]
      exact ans_ret (by rw [r5, d1, d2]; rfl)
    simp -implicitDefEqProofs only [sims.1, fx.1, keeps.1, tick_on, calleeK, extractV, oneV, faddrK, nonnil, b_shr, b_shl, fieldK, Nat.reduceAdd, Nat.reduceMul, Nat.reduceSub, Nat.reduceEqDiff, Nat.reduceLT, Nat.reduceLeDiff, Nat.reduceBEq, Nat.reduceBNe, reduceIte, Int.reduceEq, Int.reduceLT, Int.reduceLE, Int.reduceNe, Int.reduceToNat, q0, q2, q3, h5, d1, d2]
    refine callD_ans (ans40 x.r hx.r) en40 (nfs_cons (nfs_ru x.r) rfl) rfl ?_
    simp -implicitDefEqProofs only [sims.1, fx.1, keeps.1, tick_on, calleeK, extractV, oneV, faddrK, nonnil, b_shr, b_shl, fieldK, Nat.reduceAdd, Nat.reduceMul, Nat.reduceSub, Nat.reduceEqDiff, Nat.reduceLT, Nat.reduceLeDiff, Nat.reduceBEq, Nat.reduceBNe, reduceIte, Int.reduceEq, Int.reduceLT, Int.reduceLE, Int.reduceNe, Int.reduceToNat]
    exact ans_ret (by rw [r5, d1, d2]; rfl)
  cases h11 : decide (x.ty = 11)
  · simp -implicitDefEqProofs only [sims.1, fx.1, keeps.1, tick_on, calleeK, extractV, oneV, faddrK, nonnil, b_shr, b_shl, fieldK, Nat.reduceAdd, Nat.reduceMul, Nat.reduceSub, Nat.reduceEqDiff, Nat.reduceLT, Nat.reduceLeDiff, Nat.reduceBEq, Nat.reduceBNe, reduceIte, Int.reduceEq, Int.reduceLT, Int.reduceLE, Int.reduceNe, Int.reduceToNat, q0, h5, h11]
    exact ans_ret (by rw [right_else hT (of_decide_eq_false h5) (of_decide_eq_false h11) ho])
  have r11 := right11 (of_decide_eq_true h11) ho
  have hlh : x.helds.length < 281474976710656 := hx.helds.1
  simp -implicitDefEqProofs only [sims.1, fx.1, keeps.1, tick_on, calleeK, extractV, oneV, faddrK, nonnil, b_shr, b_shl, fieldK, Nat.reduceAdd, Nat.reduceMul, Nat.reduceSub, Nat.reduceEqDiff, Nat.reduceLT, Nat.reduceLeDiff, Nat.reduceBEq, Nat.reduceBNe, reduceIte, Int.reduceEq, Int.reduceLT, Int.reduceLE, Int.reduceNe, Int.reduceToNat, q0, h5, h11]
  refine W_loopM (fun i : Nat => [(3, V.int .i64 (i : Int)), (1, V.ptr 0 0)]) (fun i M => M[0]? = some (.var 37 (msC x)) ∧ i ≤ x.helds.length ∧ ∀ k, (hk : k < x.helds.length) → k < i → fairR x.helds[k].r = true) (fun i => x.helds.length + 1 - i) 0 (by kernel_rfl) ⟨rfl, by omega, by omega⟩ ?_
  rintro i M ⟨h0, h1, h2⟩
  rcases Nat.lt_or_ge i x.helds.length with hi | hi
  · have c1 : decide (i < x.helds.length) = true := by simpa using hi
    have a1 := add1N i (by omega)
    have ia : ∀ {kk : IntKind}, iaddrS 27 (hesV x.helds) (.int kk (i : Int)) = some (.ip (heC x.helds[i])) := fun {kk} => iaddrS_isl (by simp [hi])
    simp -implicitDefEqProofs only [sims.1, fx.1, keeps.1, tick_on, calleeK, extractV, oneV, faddrK, nonnil, b_shr, b_shl, fieldK, Nat.reduceAdd, Nat.reduceMul, Nat.reduceSub, Nat.reduceEqDiff, Nat.reduceLT, Nat.reduceLeDiff, Nat.reduceBEq, Nat.reduceBNe, reduceIte, Int.reduceEq, Int.reduceLT, Int.reduceLE, Int.reduceNe, Int.reduceToNat, h0, ltNat, c1, q34, lenH x, ia, h0at x.helds[i], hel x.helds[i], h0at' x.helds[i]]
    refine callD_ans (ans40 x.helds[i].r (hx.helds.2 _ (List.getElem_mem hi)).1) en40 (nfs_cons (nfs_ru _) rfl) rfl ?_
    cases hF : fairR x.helds[i].r
    · simp -implicitDefEqProofs only [sims.1, fx.1, keeps.1, tick_on, calleeK, extractV, oneV, faddrK, nonnil, b_shr, b_shl, fieldK, Nat.reduceAdd, Nat.reduceMul, Nat.reduceSub, Nat.reduceEqDiff, Nat.reduceLT, Nat.reduceLeDiff, Nat.reduceBEq, Nat.reduceBNe, reduceIte, Int.reduceEq, Int.reduceLT, Int.reduceLE, Int.reduceNe, Int.reduceToNat]
      exact ans_ret (by rw [right_held hi hF])
    simp -implicitDefEqProofs only [sims.1, fx.1, keeps.1, tick_on, calleeK, extractV, oneV, faddrK, nonnil, b_shr, b_shl, fieldK, Nat.reduceAdd, Nat.reduceMul, Nat.reduceSub, Nat.reduceEqDiff, Nat.reduceLT, Nat.reduceLeDiff, Nat.reduceBEq, Nat.reduceBNe, reduceIte, Int.reduceEq, Int.reduceLT, Int.reduceLE, Int.reduceNe, Int.reduceToNat, h0, a1]
    refine ⟨i + 1, by kernel_rfl, ⟨by first | exact h0 | trivial, by omega, fun k hk hki => ?_⟩, by omega⟩
    rcases Nat.lt_or_ge k i with g | g
    · exact h2 k hk g
    · obtain rfl : k = i := by omega
      exact hF
  · obtain rfl : i = x.helds.length := by omega
    have c1 : decide (x.helds.length < x.helds.length) = false := by simp
    have hall : x.helds.all (fun h => fairR h.r) = true := by
      rw [List.all_eq_true]
      intro q hq
      obtain ⟨k, hk, rfl⟩ := List.getElem_of_mem hq
      exact h2 k hk hk
    simp -implicitDefEqProofs only [sims.1, fx.1, keeps.1, tick_on, calleeK, extractV, oneV, faddrK, nonnil, b_shr, b_shl, fieldK, Nat.reduceAdd, Nat.reduceMul, Nat.reduceSub, Nat.reduceEqDiff, Nat.reduceLT, Nat.reduceLeDiff, Nat.reduceBEq, Nat.reduceBNe, reduceIte, Int.reduceEq, Int.reduceLT, Int.reduceLE, Int.reduceNe, Int.reduceToNat, h0, ltNat, c1, q34, q28, lenH x, le1]
    exact ans_ret (by rw [r11, hall]; rfl)
set_option maxHeartbeats 8000000 in
theorem ans10 (x : Ms) (hx : wfM x) : Ans Try.prog 10 [.agg (msC x)] (.int .i64 (chkM x)) := by
  refine Snd_of_W fol rfl rfl (by kernel_rfl) (by kernel_rfl) ?_
  have q3 : partK true 25 (msC x) 3 = some (.agg (ruC x.r)) := rfl
  have q31 : (msC x)[31]? = some (poV x.ports) := rfl
  have q32 : (msC x)[32]? = some (poV x.edge) := rfl
  have q33 : (msC x)[33]? = some (byV x.frame) := rfl
  have q34 : (msC x)[34]? = some (hesV x.helds) := rfl
  have lnP : ∀ M, lenV Try.prog M 33 (poV x.ports) = some (.int .i64 (x.ports.length : Int)) := fun M => by unfold poV; rw [lni33, List.length_map]
  have lnE : ∀ M, lenV Try.prog M 33 (poV x.edge) = some (.int .i64 (x.edge.length : Int)) := fun M => by unfold poV; rw [lni33, List.length_map]
  have lnF : ∀ M, lenV Try.prog M 34 (byV x.frame) = some (.int .i64 (x.frame.length : Int)) := fun M => by unfold byV; rw [lni34, List.length_map]
  simp -implicitDefEqProofs only [sims.1, fx.1, keeps.1, tick_on, calleeK, extractV, oneV, faddrK, nonnil, b_shr, b_shl, fieldK, Nat.reduceAdd, Nat.reduceMul, Nat.reduceSub, Nat.reduceEqDiff, Nat.reduceLT, Nat.reduceLeDiff, Nat.reduceBEq, Nat.reduceBNe, reduceIte, Int.reduceEq, Int.reduceLT, Int.reduceLE, Int.reduceNe, Int.reduceToNat, part37']
  refine callD_ans (ans18 x hx) en18 (nfs_cons (nfs_ms x) rfl) rfl ?_
  cases hR : rightM x
  · simp -implicitDefEqProofs only [sims.1, fx.1, keeps.1, tick_on, calleeK, extractV, oneV, faddrK, nonnil, b_shr, b_shl, fieldK, Nat.reduceAdd, Nat.reduceMul, Nat.reduceSub, Nat.reduceEqDiff, Nat.reduceLT, Nat.reduceLeDiff, Nat.reduceBEq, Nat.reduceBNe, reduceIte, Int.reduceEq, Int.reduceLT, Int.reduceLE, Int.reduceNe, Int.reduceToNat]
    exact ans_ret (by simp [chkM, hR])
  cases e1 : decide (8192 < x.ports.length)
  rotate_left
  · simp -implicitDefEqProofs only [sims.1, fx.1, keeps.1, tick_on, calleeK, extractV, oneV, faddrK, nonnil, b_shr, b_shl, fieldK, Nat.reduceAdd, Nat.reduceMul, Nat.reduceSub, Nat.reduceEqDiff, Nat.reduceLT, Nat.reduceLeDiff, Nat.reduceBEq, Nat.reduceBNe, reduceIte, Int.reduceEq, Int.reduceLT, Int.reduceLE, Int.reduceNe, Int.reduceToNat, q31, q32, q33, q34, lnP, lnE, lnF, lenH x, ltN8, e1]
    exact ans_ret (by rw [chk3 hR (big_no hR (by simp only [decide_eq_true_eq] at e1; omega))])
  cases e2 : decide (8192 < x.edge.length)
  rotate_left
  · simp -implicitDefEqProofs only [sims.1, fx.1, keeps.1, tick_on, calleeK, extractV, oneV, faddrK, nonnil, b_shr, b_shl, fieldK, Nat.reduceAdd, Nat.reduceMul, Nat.reduceSub, Nat.reduceEqDiff, Nat.reduceLT, Nat.reduceLeDiff, Nat.reduceBEq, Nat.reduceBNe, reduceIte, Int.reduceEq, Int.reduceLT, Int.reduceLE, Int.reduceNe, Int.reduceToNat, q31, q32, q33, q34, lnP, lnE, lnF, lenH x, ltN8, e1, e2]
    exact ans_ret (by rw [chk3 hR (big_no hR (by simp only [decide_eq_true_eq] at e2; omega))])
  cases e3 : decide (8192 < x.frame.length)
  rotate_left
  · simp -implicitDefEqProofs only [sims.1, fx.1, keeps.1, tick_on, calleeK, extractV, oneV, faddrK, nonnil, b_shr, b_shl, fieldK, Nat.reduceAdd, Nat.reduceMul, Nat.reduceSub, Nat.reduceEqDiff, Nat.reduceLT, Nat.reduceLeDiff, Nat.reduceBEq, Nat.reduceBNe, reduceIte, Int.reduceEq, Int.reduceLT, Int.reduceLE, Int.reduceNe, Int.reduceToNat, q31, q32, q33, q34, lnP, lnE, lnF, lenH x, ltN8, e1, e2, e3]
    exact ans_ret (by rw [chk3 hR (big_no hR (by simp only [decide_eq_true_eq] at e3; omega))])
  cases e4 : decide (8192 < x.helds.length)
  rotate_left
  · simp -implicitDefEqProofs only [sims.1, fx.1, keeps.1, tick_on, calleeK, extractV, oneV, faddrK, nonnil, b_shr, b_shl, fieldK, Nat.reduceAdd, Nat.reduceMul, Nat.reduceSub, Nat.reduceEqDiff, Nat.reduceLT, Nat.reduceLeDiff, Nat.reduceBEq, Nat.reduceBNe, reduceIte, Int.reduceEq, Int.reduceLT, Int.reduceLE, Int.reduceNe, Int.reduceToNat, q31, q32, q33, q34, lnP, lnE, lnF, lenH x, ltN8, e1, e2, e3, e4]
    exact ans_ret (by rw [chk3 hR (big_no hR (by simp only [decide_eq_true_eq] at e4; omega))])
  simp -implicitDefEqProofs only [sims.1, fx.1, keeps.1, tick_on, calleeK, extractV, oneV, faddrK, nonnil, b_shr, b_shl, fieldK, Nat.reduceAdd, Nat.reduceMul, Nat.reduceSub, Nat.reduceEqDiff, Nat.reduceLT, Nat.reduceLeDiff, Nat.reduceBEq, Nat.reduceBNe, reduceIte, Int.reduceEq, Int.reduceLT, Int.reduceLE, Int.reduceNe, Int.reduceToNat, q3, q31, q32, q33, q34, lnP, lnE, lnF, lenH x, ltN8, e1, e2, e3, e4]
  refine callD_ans (ans19 x.r hx.r) en19 (nfs_cons (nfs_ru x.r) rfl) rfl ?_
  cases e5 : greatR x.r
  rotate_left
  · simp -implicitDefEqProofs only [sims.1, fx.1, keeps.1, tick_on, calleeK, extractV, oneV, faddrK, nonnil, b_shr, b_shl, fieldK, Nat.reduceAdd, Nat.reduceMul, Nat.reduceSub, Nat.reduceEqDiff, Nat.reduceLT, Nat.reduceLeDiff, Nat.reduceBEq, Nat.reduceBNe, reduceIte, Int.reduceEq, Int.reduceLT, Int.reduceLE, Int.reduceNe, Int.reduceToNat]
    exact ans_ret (by rw [chk3 hR (big_no hR (.inr (.inr (.inr (.inr (.inl e5))))))])
  have hlh : x.helds.length < 281474976710656 := hx.helds.1
  simp -implicitDefEqProofs only [sims.1, fx.1, keeps.1, tick_on, calleeK, extractV, oneV, faddrK, nonnil, b_shr, b_shl, fieldK, Nat.reduceAdd, Nat.reduceMul, Nat.reduceSub, Nat.reduceEqDiff, Nat.reduceLT, Nat.reduceLeDiff, Nat.reduceBEq, Nat.reduceBNe, reduceIte, Int.reduceEq, Int.reduceLT, Int.reduceLE, Int.reduceNe, Int.reduceToNat]
  refine W_loopM (fun i : Nat => [(3, V.int .i64 (i : Int)), (1, V.ptr 0 0)]) (fun i M => M[0]? = some (.var 37 (msC x)) ∧ i ≤ x.helds.length ∧ ∀ k, (hk : k < x.helds.length) → k < i → greatR x.helds[k].r = false) (fun i => x.helds.length + 1 - i) 0 (by kernel_rfl) ⟨rfl, by omega, by omega⟩ ?_
  rintro i M ⟨h0, h1, h2⟩
  rcases Nat.lt_or_ge i x.helds.length with hi | hi
  · have c1 : decide (i < x.helds.length) = true := by simpa using hi
    have a1 := add1N i (by omega)
    have ia : ∀ {kk : IntKind}, iaddrS 27 (hesV x.helds) (.int kk (i : Int)) = some (.ip (heC x.helds[i])) := fun {kk} => iaddrS_isl (by simp [hi])
    simp -implicitDefEqProofs only [sims.1, fx.1, keeps.1, tick_on, calleeK, extractV, oneV, faddrK, nonnil, b_shr, b_shl, fieldK, Nat.reduceAdd, Nat.reduceMul, Nat.reduceSub, Nat.reduceEqDiff, Nat.reduceLT, Nat.reduceLeDiff, Nat.reduceBEq, Nat.reduceBNe, reduceIte, Int.reduceEq, Int.reduceLT, Int.reduceLE, Int.reduceNe, Int.reduceToNat, h0, ltNat, c1, q34, lenH x, ia, h0at x.helds[i], hel x.helds[i], h0at' x.helds[i]]
    refine callD_ans (ans19 x.helds[i].r (hx.helds.2 _ (List.getElem_mem hi)).1) en19 (nfs_cons (nfs_ru _) rfl) rfl ?_
    cases hF : greatR x.helds[i].r
    rotate_left
    · simp -implicitDefEqProofs only [sims.1, fx.1, keeps.1, tick_on, calleeK, extractV, oneV, faddrK, nonnil, b_shr, b_shl, fieldK, Nat.reduceAdd, Nat.reduceMul, Nat.reduceSub, Nat.reduceEqDiff, Nat.reduceLT, Nat.reduceLeDiff, Nat.reduceBEq, Nat.reduceBNe, reduceIte, Int.reduceEq, Int.reduceLT, Int.reduceLE, Int.reduceNe, Int.reduceToNat]
      exact ans_ret (by rw [chk3 hR (big_no hR (.inr (.inr (.inr (.inr (.inr ⟨_, List.getElem_mem hi, hF⟩))))))])
    simp -implicitDefEqProofs only [sims.1, fx.1, keeps.1, tick_on, calleeK, extractV, oneV, faddrK, nonnil, b_shr, b_shl, fieldK, Nat.reduceAdd, Nat.reduceMul, Nat.reduceSub, Nat.reduceEqDiff, Nat.reduceLT, Nat.reduceLeDiff, Nat.reduceBEq, Nat.reduceBNe, reduceIte, Int.reduceEq, Int.reduceLT, Int.reduceLE, Int.reduceNe, Int.reduceToNat, h0, a1]
    refine ⟨i + 1, by kernel_rfl, ⟨by first | exact h0 | trivial, by omega, fun k hk hki => ?_⟩, by omega⟩
    rcases Nat.lt_or_ge k i with g | g
    · exact h2 k hk g
    · obtain rfl : k = i := by omega
      exact hF
  · obtain rfl : i = x.helds.length := by omega
    have c1 : decide (x.helds.length < x.helds.length) = false := by simp
    have hb : (body x).length + 2000 ≤ bnd := by
      simp only [decide_eq_false_iff_not] at e1 e2 e3 e4
      refine small (by omega) (by omega) (by omega) (by omega) e5 fun q hq => ?_
      obtain ⟨k, hk, rfl⟩ := List.getElem_of_mem hq
      exact h2 k hk hk
    have lnW : ∀ M, lenV Try.prog M 34 (byV (whole x)) = some (.int .i64 ((whole x).length : Int)) := fun M => by unfold byV; rw [lni34, List.length_map]
    simp -implicitDefEqProofs only [sims.1, fx.1, keeps.1, tick_on, calleeK, extractV, oneV, faddrK, nonnil, b_shr, b_shl, fieldK, Nat.reduceAdd, Nat.reduceMul, Nat.reduceSub, Nat.reduceEqDiff, Nat.reduceLT, Nat.reduceLeDiff, Nat.reduceBEq, Nat.reduceBNe, reduceIte, Int.reduceEq, Int.reduceLT, Int.reduceLE, Int.reduceNe, Int.reduceToNat, h0, ltNat, c1, q34, lenH x, part37']
    refine callD_ans (ans16 hx (right_fair hR).2 hb) en16 (nfs_cons (nfs_ms x) rfl) (nf_by _) ?_
    have e6 : decide (8192 < (whole x).length) = !fits x := by
      rw [Bool.eq_iff_iff, whole_len]
      simp [fits]
      omega
    cases hf : fits x
    · rw [hf] at e6
      simp -implicitDefEqProofs only [sims.1, fx.1, keeps.1, tick_on, calleeK, extractV, oneV, faddrK, nonnil, b_shr, b_shl, fieldK, Nat.reduceAdd, Nat.reduceMul, Nat.reduceSub, Nat.reduceEqDiff, Nat.reduceLT, Nat.reduceLeDiff, Nat.reduceBEq, Nat.reduceBNe, reduceIte, Int.reduceEq, Int.reduceLT, Int.reduceLE, Int.reduceNe, Int.reduceToNat, lnW, ltN8, e6]
      exact ans_ret (by rw [chk3 hR hf])
    · rw [hf] at e6
      simp -implicitDefEqProofs only [sims.1, fx.1, keeps.1, tick_on, calleeK, extractV, oneV, faddrK, nonnil, b_shr, b_shl, fieldK, Nat.reduceAdd, Nat.reduceMul, Nat.reduceSub, Nat.reduceEqDiff, Nat.reduceLT, Nat.reduceLeDiff, Nat.reduceBEq, Nat.reduceBNe, reduceIte, Int.reduceEq, Int.reduceLT, Int.reduceLE, Int.reduceNe, Int.reduceToNat, lnW, ltN8, e6]
      exact ans_ret (by rw [chk0 hR hf])
theorem small_if {x : Ms} (hR : rightM x = true) (hf : fits x = true) : (body x).length + 2000 ≤ bnd := by
  have : (body x).length + 8 ≤ 8192 := of_decide_eq_true hf
  unfold bnd
  omega
theorem ans8 (x : Ms) (hx : wfM x) : Ans Try.prog 8 [.agg (msC x)] (.tup [byV (encX x), .int .i64 (chkM x)]) := by
  cases e : decide (chkM x = 0)
  · have he : ¬ chkM x = 0 := of_decide_eq_false e
    have hn : encX x = [] := by simp [encX, he]
    rw [hn]
    refine ans_nil (v := .tup [.nils, .int .i64 (chkM x)]) 1 ?_
    refine Snd_of_W fol rfl rfl (by kernel_rfl) (by kernel_rfl) ?_
    have ev : ∀ env, evO env (.const (.slice none 0 0)) = .nils := fun _ => rfl
    simp -implicitDefEqProofs only [sims.1, fx.1, keeps.1, tick_on, calleeK, extractV, oneV, faddrK, nonnil, b_shr, b_shl, fieldK, Nat.reduceAdd, Nat.reduceMul, Nat.reduceSub, Nat.reduceEqDiff, Nat.reduceLT, Nat.reduceLeDiff, Nat.reduceBEq, Nat.reduceBNe, reduceIte, Int.reduceEq, Int.reduceLT, Int.reduceLE, Int.reduceNe, Int.reduceToNat, part37, ev]
    refine callD_ans (ans10 x hx) en10 (nfs_cons (nfs_ms x) rfl) rfl ?_
    simp -implicitDefEqProofs only [sims.1, fx.1, keeps.1, tick_on, calleeK, extractV, oneV, faddrK, nonnil, b_shr, b_shl, fieldK, Nat.reduceAdd, Nat.reduceMul, Nat.reduceSub, Nat.reduceEqDiff, Nat.reduceLT, Nat.reduceLeDiff, Nat.reduceBEq, Nat.reduceBNe, reduceIte, Int.reduceEq, Int.reduceLT, Int.reduceLE, Int.reduceNe, Int.reduceToNat, e, ev]
    exact ans_ret rfl
  · have he : chkM x = 0 := of_decide_eq_true e
    obtain ⟨hR, hF⟩ := right_if he
    refine Snd_of_W fol rfl rfl (by kernel_rfl) (by kernel_rfl) ?_
    have ev : ∀ env, evO env (.const (.slice none 0 0)) = .nils := fun _ => rfl
    simp -implicitDefEqProofs only [sims.1, fx.1, keeps.1, tick_on, calleeK, extractV, oneV, faddrK, nonnil, b_shr, b_shl, fieldK, Nat.reduceAdd, Nat.reduceMul, Nat.reduceSub, Nat.reduceEqDiff, Nat.reduceLT, Nat.reduceLeDiff, Nat.reduceBEq, Nat.reduceBNe, reduceIte, Int.reduceEq, Int.reduceLT, Int.reduceLE, Int.reduceNe, Int.reduceToNat, part37, ev]
    refine callD_ans (ans10 x hx) en10 (nfs_cons (nfs_ms x) rfl) rfl ?_
    simp -implicitDefEqProofs only [sims.1, fx.1, keeps.1, tick_on, calleeK, extractV, oneV, faddrK, nonnil, b_shr, b_shl, fieldK, Nat.reduceAdd, Nat.reduceMul, Nat.reduceSub, Nat.reduceEqDiff, Nat.reduceLT, Nat.reduceLeDiff, Nat.reduceBEq, Nat.reduceBNe, reduceIte, Int.reduceEq, Int.reduceLT, Int.reduceLE, Int.reduceNe, Int.reduceToNat, e, part37]
    refine callD_ans (ans16 hx (right_fair hR).2 (small_if hR hF)) en16 (nfs_cons (nfs_ms x) rfl) (nf_by _) ?_
    simp -implicitDefEqProofs only [sims.1, fx.1, keeps.1, tick_on, calleeK, extractV, oneV, faddrK, nonnil, b_shr, b_shl, fieldK, Nat.reduceAdd, Nat.reduceMul, Nat.reduceSub, Nat.reduceEqDiff, Nat.reduceLT, Nat.reduceLeDiff, Nat.reduceBEq, Nat.reduceBNe, reduceIte, Int.reduceEq, Int.reduceLT, Int.reduceLE, Int.reduceNe, Int.reduceToNat]
    refine ans_ret ?_
    simp [encX, he]
end Go.Proofs.Ytjjenpdjmcmgbaa
