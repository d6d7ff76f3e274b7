/- Which messages are right, but for their length: the call. No condition. -/
import Derived.Test.YtjjenpdjmcmgbaaDZl
import Derived.Test.YtjjenpdjmcmgbaaDZok
namespace Go.Proofs.Ytjjenpdjmcmgbaa
open Go Ab
set_option linter.unusedSimpArgs false
set_option linter.unusedVariables false
set_option maxRecDepth 20000
set_option maxHeartbeats 16000000 in
theorem ans17 (x : Ms) (hx : wfM x) : Ans Try.prog 17 [.ip (msC x)] (.bool (rightM x)) := by
  refine Snd_of_W fol rfl rfl (ok17 rfl rfl) (by kernel_rfl) ?_
  have hl : (msC x).length = 36 := rfl
  have nb : newV 54 [] (.ip (msC x)) = some (.ptr 0 0, [.var 54 [.ip (msC x)]]) := rfl
  have q0 : (List.drop 0 (msC x))[0]? = some (.int .i8 x.ty) := rfl
  have q2 : (List.drop 2 (msC x))[0]? = some (.int .i8 x.dd) := rfl
  have q3 : (List.drop 3 (msC x))[0]? = some (.int .i64 x.r.rank) := rfl
  have q4 : partK true 22 (List.drop 4 (msC x)) 0 = some (.agg (mC x.r.w)) := rfl
  have q26 : (List.drop 26 (msC x))[0]? = some (cpsV x.r.l) := rfl
  have q27 : (List.drop 27 (msC x))[0]? = some (.int .u64 (x.r.ck : Int)) := rfl
  have q28 : (List.drop 28 (msC x))[0]? = some (.int .u16 (x.port : Int)) := rfl
  have q29 : (List.drop 29 (msC x))[0]? = some (.bool x.up) := rfl
  have q30 : (List.drop 30 (msC x))[0]? = some (.int .u16 (x.sw : Int)) := rfl
  have q31 : (List.drop 31 (msC x))[0]? = some (poV x.ports) := rfl
  have q32 : (List.drop 32 (msC x))[0]? = some (poV x.edge) := rfl
  have q33 : (List.drop 33 (msC x))[0]? = some (byV x.frame) := rfl
  have q34 : (List.drop 34 (msC x))[0]? = some (hesV x.helds) := rfl
  have q35 : (List.drop 35 (msC x))[0]? = some (.int .u16 (x.code : Int)) := rfl
  have le36 : ∀ k, k ≤ 36 → k ≤ (msC x).length := fun k h => by rw [hl]; exact h
  simp -implicitDefEqProofs only [sims.1, fx.1, keeps.1, tick_on, calleeK, faddrK, nonnil, Nat.reduceEqDiff, Nat.reduceLeDiff, nb, hl, q0]
  refine callD_q (snd21 x.ty _) en21 ?_ ?_
  rotate_left
  · rintro v m1 ⟨ex, a, b, h, _⟩
    cases h
  rintro v m1 ⟨ex, a, b, h, ha, hb⟩
  cases h
  generalize hM : ([B.var 54 [.ip (msC x)]] ++ ex : Mem) = M at ha hb ⊢
  have g0 : M[0]? = some (.var 54 [.ip (msC x)]) := by rw [← hM]; rfl
  clear hM
  have e0 : ∀ {n : Nat} {b : B} {ex : Mem}, M[n]? = some b → (M ++ ex)[n]? = some b := fun h => by rw [List.getElem?_append_left (List.getElem?_eq_some_iff.1 h).1]; exact h
  cases hT : isTy x.ty
  · simp -implicitDefEqProofs only [sims.1, fx.1, keeps.1, tick_on, extractV, Nat.reduceEqDiff, Nat.reduceLeDiff, storeK_agg, splice_all, at_app0, set_app0]
    exact ans_ret (by rw [right_ty hT])
  have g1 : ∀ ex : Mem, (M ++ ex)[0]? = some (.var 54 [.ip (msC x)]) := fun ex => e0 g0
  simp -implicitDefEqProofs only [sims.1, fx.1, keeps.1, tick_on, extractV, faddrK, nonnil, Nat.reduceSub, Nat.reduceEqDiff, Nat.reduceLeDiff, storeK_agg, splice_all, at_app0, set_app0, g1, hl, List.drop_drop, List.length_drop, q3]
  refine cutTest (fun e m' => e 1 = .ptr 0 0 ∧ e 5 = .fn 36 [] [.ptr 0 0] ∧ e 6 = .bool (zeroR x.r) ∧ m' = M ++ [.var 66 [goV x.ty a b]]) (fun t1 => ?_) (fun t1 => ?_) ?_
  · have c2 := eqC0 x.r.ck
    cases t2 : decide (x.r.ck = 0)
    · rw [t2] at c2
      have hz : zeroR x.r = false := by simp [zeroR, t2]
      simp -implicitDefEqProofs only [sims.1, fx.1, keeps.1, tick_on, faddrK, nonnil, Nat.reduceAdd, Nat.reduceSub, Nat.reduceEqDiff, Nat.reduceLeDiff, t1, c2, hz, and_self, g1, hl, List.drop_drop, List.length_drop, q27]
    · rw [t2] at c2
      have c3 : decide (((x.r.l.length : Nat) : Int) = 0) = decide (x.r.l.length = 0) := eqC0 _
      have lnl : ∀ M, lenV Try.prog M 29 (cpsV x.r.l) = some (.int .i64 (x.r.l.length : Int)) := fun M => by unfold cpsV; rw [lni29, List.length_map]
      cases t3 : decide (x.r.l.length = 0)
      · rw [t3] at c3
        have hz : zeroR x.r = false := by simp only [zeroR, t3, Bool.false_and, Bool.and_false]
        simp -implicitDefEqProofs only [sims.1, fx.1, keeps.1, tick_on, faddrK, nonnil, Nat.reduceAdd, Nat.reduceSub, Nat.reduceEqDiff, Nat.reduceLeDiff, t1, c2, c3, hz, and_self, lnl, g1, hl, List.drop_drop, List.length_drop, q26, q27]
      · rw [t3] at c3
        have hz : zeroR x.r = eqM x.r.w fun _ => 0 := by simp only [zeroR, t1, t2, t3, Bool.true_and]
        simp -implicitDefEqProofs only [sims.1, fx.1, keeps.1, tick_on, faddrK, nonnil, Nat.reduceAdd, Nat.reduceSub, Nat.reduceEqDiff, Nat.reduceLeDiff, t1, c2, c3, hz, and_self, lnl, g1, eq28z hx.r.2.1, hl, List.drop_drop, List.length_drop, q4, q26, q27]
  · have hz : zeroR x.r = false := by simp [zeroR, t1]
    simp -implicitDefEqProofs only [sims.1, keeps.1, tick_on, Nat.reduceEqDiff, t1, hz, and_self]
  rintro e m' ⟨h1, h5, h6, rfl⟩
  have g2 : ∀ ex : Mem, (M ++ [B.var 66 [goV x.ty a b]] ++ ex)[0]? = some (.var 54 [.ip (msC x)]) := fun ex => by rw [List.append_assoc]; exact g1 _
  have g3 := g1 [B.var 66 [goV x.ty a b]]
  generalize M ++ [B.var 66 [goV x.ty a b]] = M2 at g2 g3 ⊢
  clear g1 e0 ha hb g0
  simp -implicitDefEqProofs only [sims.1, tick_on]
  refine w_cut (fun e m' => e 1 = .ptr 0 0 ∧ e 137 = zV (zs x) ∧ e 138 = .int .i64 7 ∧ e 139 = .int .i64 0 ∧ m' = M2) ?_ ?_
  · have ln33a : ∀ M, lenV Try.prog M 33 (poV x.ports) = some (.int .i64 (x.ports.length : Int)) := fun M => by unfold poV; rw [lni33, List.length_map]
    have ln33b : ∀ M, lenV Try.prog M 33 (poV x.edge) = some (.int .i64 (x.edge.length : Int)) := fun M => by unfold poV; rw [lni33, List.length_map]
    have ln34 : ∀ M, lenV Try.prog M 34 (byV x.frame) = some (.int .i64 (x.frame.length : Int)) := fun M => by unfold byV; rw [lni34, List.length_map]
    have ln35 : ∀ M, lenV Try.prog M 35 (hesV x.helds) = some (.int .i64 (x.helds.length : Int)) := fun M => by unfold hesV; rw [lni35, List.length_map]
    have lnz : ∀ M l, lenV Try.prog M 96 (zV l) = some (.int .i64 (l.length : Int)) := fun M l => by unfold zV; rw [lni96, List.length_map]
    have d1 := eqC0 x.port
    have d2 := eqC0 x.sw
    have d3 := eqC0 x.ports.length
    have d4 := eqC0 x.edge.length
    have d5 := eqC0 x.frame.length
    have d6 := eqC0 x.helds.length
    have d7 := eqC0 x.code
    refine w_quietL (by simp only [List.append_eq, List.cons_append, List.nil_append]; rfl) ?_
    cases t1 : decide (x.dd = 0)
    · cases t2 : decide (x.sw = 0)
      · rw [t2] at d2
        simp -implicitDefEqProofs only [sims.1, fx.1, keeps.1, tick_on, faddrK, nonnil, Nat.reduceEqDiff, Nat.reduceLeDiff, h1, h5, g3, hl, q2, t1]
        refine q_buildSlice (v := i8V [5]) ?_ ?_
        · exact lit92_1 5
        simp -implicitDefEqProofs only [sims.1, keeps.1, tick_on, calleeK, Nat.reduceEqDiff]
        refine callQ_is [5] rfl x (by decide) g3 ?_
        simp -implicitDefEqProofs only [sims.1, fx.1, keeps.1, tick_on, faddrK, nonnil, Nat.reduceEqDiff, Nat.reduceLeDiff, h1, h5, g3, hl, q28, d1, bu95]
        refine q_buildSlice (v := i8V [6, 7, 11, 12]) ?_ ?_
        · exact lit92_4 6 7 11 12
        simp -implicitDefEqProofs only [sims.1, keeps.1, tick_on, calleeK, Nat.reduceEqDiff]
        refine callQ_is [6, 7, 11, 12] rfl x (by decide) g3 ?_
        simp -implicitDefEqProofs only [sims.1, fx.1, keeps.1, tick_on, faddrK, nonnil, Nat.reduceEqDiff, Nat.reduceLeDiff, h1, h5, g3, hl, q29, bu95]
        refine q_buildSlice (v := i8V [12]) ?_ ?_
        · exact lit92_1 12
        simp -implicitDefEqProofs only [sims.1, keeps.1, tick_on, calleeK, Nat.reduceEqDiff]
        refine callQ_is [12] rfl x (by decide) g3 ?_
        simp -implicitDefEqProofs only [sims.1, fx.1, keeps.1, tick_on, faddrK, nonnil, Nat.reduceEqDiff, Nat.reduceLeDiff, h1, h5, g3, hl, q30, bu95, d2]
        refine q_buildSlice (v := i8V [4]) ?_ ?_
        · exact lit92_1 4
        simp -implicitDefEqProofs only [sims.1, keeps.1, tick_on, calleeK, Nat.reduceEqDiff]
        refine callQ_is [4] rfl x (by decide) g3 ?_
        simp -implicitDefEqProofs only [sims.1, fx.1, keeps.1, tick_on, faddrK, nonnil, Nat.reduceEqDiff, Nat.reduceLeDiff, h1, h5, g3, hl, q33, ln34, d5, bu95]
        refine q_buildSlice (v := i8V [6, 7]) ?_ ?_
        · exact lit92_2 6 7
        simp -implicitDefEqProofs only [sims.1, keeps.1, tick_on, calleeK, Nat.reduceEqDiff]
        refine callQ_is [6, 7] rfl x (by decide) g3 ?_
        simp -implicitDefEqProofs only [sims.1, fx.1, keeps.1, tick_on, faddrK, nonnil, Nat.reduceEqDiff, Nat.reduceLeDiff, h1, h5, g3, hl, q34, ln35, d6, bu95]
        refine q_buildSlice (v := i8V [11]) ?_ ?_
        · exact lit92_1 11
        simp -implicitDefEqProofs only [sims.1, keeps.1, tick_on, calleeK, Nat.reduceEqDiff]
        refine callQ_is [11] rfl x (by decide) g3 ?_
        simp -implicitDefEqProofs only [sims.1, fx.1, keeps.1, tick_on, faddrK, nonnil, Nat.reduceEqDiff, Nat.reduceLeDiff, h1, h5, g3, hl, q35, d7, bu95]
        refine q_buildSlice (v := i8V [13]) ?_ ?_
        · exact lit92_1 13
        simp -implicitDefEqProofs only [sims.1, keeps.1, tick_on, calleeK, Nat.reduceEqDiff]
        refine callQ_is [13] rfl x (by decide) g3 ?_
        simp -implicitDefEqProofs only [sims.1, keeps.1, tick_on, Nat.reduceEqDiff, bu95]
        apply q_buildSlice
        · exact lit96 _ _ _ _ _ _ _ _ _ _ _ _ _ _
        simp -implicitDefEqProofs only [sims.1, keeps.1, tick_on, Nat.reduceAdd, Nat.reduceEqDiff, t1, t2, lnz, h1, zs, and_self]
        exact ⟨trivial, trivial, rfl, trivial⟩
      · rw [t2] at d2
        cases t3 : decide (x.ports.length = 0)
        · rw [t3] at d3
          simp -implicitDefEqProofs only [sims.1, fx.1, keeps.1, tick_on, faddrK, nonnil, Nat.reduceEqDiff, Nat.reduceLeDiff, h1, h5, g3, hl, q2, t1]
          refine q_buildSlice (v := i8V [5]) ?_ ?_
          · exact lit92_1 5
          simp -implicitDefEqProofs only [sims.1, keeps.1, tick_on, calleeK, Nat.reduceEqDiff]
          refine callQ_is [5] rfl x (by decide) g3 ?_
          simp -implicitDefEqProofs only [sims.1, fx.1, keeps.1, tick_on, faddrK, nonnil, Nat.reduceEqDiff, Nat.reduceLeDiff, h1, h5, g3, hl, q28, d1, bu95]
          refine q_buildSlice (v := i8V [6, 7, 11, 12]) ?_ ?_
          · exact lit92_4 6 7 11 12
          simp -implicitDefEqProofs only [sims.1, keeps.1, tick_on, calleeK, Nat.reduceEqDiff]
          refine callQ_is [6, 7, 11, 12] rfl x (by decide) g3 ?_
          simp -implicitDefEqProofs only [sims.1, fx.1, keeps.1, tick_on, faddrK, nonnil, Nat.reduceEqDiff, Nat.reduceLeDiff, h1, h5, g3, hl, q29, bu95]
          refine q_buildSlice (v := i8V [12]) ?_ ?_
          · exact lit92_1 12
          simp -implicitDefEqProofs only [sims.1, keeps.1, tick_on, calleeK, Nat.reduceEqDiff]
          refine callQ_is [12] rfl x (by decide) g3 ?_
          simp -implicitDefEqProofs only [sims.1, fx.1, keeps.1, tick_on, faddrK, nonnil, Nat.reduceEqDiff, Nat.reduceLeDiff, h1, h5, g3, hl, q30, q31, ln33a, bu95, d2, d3]
          refine q_buildSlice (v := i8V [4]) ?_ ?_
          · exact lit92_1 4
          simp -implicitDefEqProofs only [sims.1, keeps.1, tick_on, calleeK, Nat.reduceEqDiff]
          refine callQ_is [4] rfl x (by decide) g3 ?_
          simp -implicitDefEqProofs only [sims.1, fx.1, keeps.1, tick_on, faddrK, nonnil, Nat.reduceEqDiff, Nat.reduceLeDiff, h1, h5, g3, hl, q33, ln34, d5, bu95]
          refine q_buildSlice (v := i8V [6, 7]) ?_ ?_
          · exact lit92_2 6 7
          simp -implicitDefEqProofs only [sims.1, keeps.1, tick_on, calleeK, Nat.reduceEqDiff]
          refine callQ_is [6, 7] rfl x (by decide) g3 ?_
          simp -implicitDefEqProofs only [sims.1, fx.1, keeps.1, tick_on, faddrK, nonnil, Nat.reduceEqDiff, Nat.reduceLeDiff, h1, h5, g3, hl, q34, ln35, d6, bu95]
          refine q_buildSlice (v := i8V [11]) ?_ ?_
          · exact lit92_1 11
          simp -implicitDefEqProofs only [sims.1, keeps.1, tick_on, calleeK, Nat.reduceEqDiff]
          refine callQ_is [11] rfl x (by decide) g3 ?_
          simp -implicitDefEqProofs only [sims.1, fx.1, keeps.1, tick_on, faddrK, nonnil, Nat.reduceEqDiff, Nat.reduceLeDiff, h1, h5, g3, hl, q35, d7, bu95]
          refine q_buildSlice (v := i8V [13]) ?_ ?_
          · exact lit92_1 13
          simp -implicitDefEqProofs only [sims.1, keeps.1, tick_on, calleeK, Nat.reduceEqDiff]
          refine callQ_is [13] rfl x (by decide) g3 ?_
          simp -implicitDefEqProofs only [sims.1, keeps.1, tick_on, Nat.reduceEqDiff, bu95]
          apply q_buildSlice
          · exact lit96 _ _ _ _ _ _ _ _ _ _ _ _ _ _
          simp -implicitDefEqProofs only [sims.1, keeps.1, tick_on, Nat.reduceAdd, Nat.reduceEqDiff, t1, t2, t3, lnz, h1, zs, and_self]
          exact ⟨trivial, trivial, rfl, trivial⟩
        · rw [t3] at d3
          simp -implicitDefEqProofs only [sims.1, fx.1, keeps.1, tick_on, faddrK, nonnil, Nat.reduceEqDiff, Nat.reduceLeDiff, h1, h5, g3, hl, q2, t1]
          refine q_buildSlice (v := i8V [5]) ?_ ?_
          · exact lit92_1 5
          simp -implicitDefEqProofs only [sims.1, keeps.1, tick_on, calleeK, Nat.reduceEqDiff]
          refine callQ_is [5] rfl x (by decide) g3 ?_
          simp -implicitDefEqProofs only [sims.1, fx.1, keeps.1, tick_on, faddrK, nonnil, Nat.reduceEqDiff, Nat.reduceLeDiff, h1, h5, g3, hl, q28, d1, bu95]
          refine q_buildSlice (v := i8V [6, 7, 11, 12]) ?_ ?_
          · exact lit92_4 6 7 11 12
          simp -implicitDefEqProofs only [sims.1, keeps.1, tick_on, calleeK, Nat.reduceEqDiff]
          refine callQ_is [6, 7, 11, 12] rfl x (by decide) g3 ?_
          simp -implicitDefEqProofs only [sims.1, fx.1, keeps.1, tick_on, faddrK, nonnil, Nat.reduceEqDiff, Nat.reduceLeDiff, h1, h5, g3, hl, q29, bu95]
          refine q_buildSlice (v := i8V [12]) ?_ ?_
          · exact lit92_1 12
          simp -implicitDefEqProofs only [sims.1, keeps.1, tick_on, calleeK, Nat.reduceEqDiff]
          refine callQ_is [12] rfl x (by decide) g3 ?_
          simp -implicitDefEqProofs only [sims.1, fx.1, keeps.1, tick_on, faddrK, nonnil, Nat.reduceEqDiff, Nat.reduceLeDiff, h1, h5, g3, hl, q30, q31, q32, ln33a, ln33b, bu95, d2, d3, d4]
          refine q_buildSlice (v := i8V [4]) ?_ ?_
          · exact lit92_1 4
          simp -implicitDefEqProofs only [sims.1, keeps.1, tick_on, calleeK, Nat.reduceEqDiff]
          refine callQ_is [4] rfl x (by decide) g3 ?_
          simp -implicitDefEqProofs only [sims.1, fx.1, keeps.1, tick_on, faddrK, nonnil, Nat.reduceEqDiff, Nat.reduceLeDiff, h1, h5, g3, hl, q33, ln34, d5, bu95]
          refine q_buildSlice (v := i8V [6, 7]) ?_ ?_
          · exact lit92_2 6 7
          simp -implicitDefEqProofs only [sims.1, keeps.1, tick_on, calleeK, Nat.reduceEqDiff]
          refine callQ_is [6, 7] rfl x (by decide) g3 ?_
          simp -implicitDefEqProofs only [sims.1, fx.1, keeps.1, tick_on, faddrK, nonnil, Nat.reduceEqDiff, Nat.reduceLeDiff, h1, h5, g3, hl, q34, ln35, d6, bu95]
          refine q_buildSlice (v := i8V [11]) ?_ ?_
          · exact lit92_1 11
          simp -implicitDefEqProofs only [sims.1, keeps.1, tick_on, calleeK, Nat.reduceEqDiff]
          refine callQ_is [11] rfl x (by decide) g3 ?_
          simp -implicitDefEqProofs only [sims.1, fx.1, keeps.1, tick_on, faddrK, nonnil, Nat.reduceEqDiff, Nat.reduceLeDiff, h1, h5, g3, hl, q35, d7, bu95]
          refine q_buildSlice (v := i8V [13]) ?_ ?_
          · exact lit92_1 13
          simp -implicitDefEqProofs only [sims.1, keeps.1, tick_on, calleeK, Nat.reduceEqDiff]
          refine callQ_is [13] rfl x (by decide) g3 ?_
          simp -implicitDefEqProofs only [sims.1, keeps.1, tick_on, Nat.reduceEqDiff, bu95]
          apply q_buildSlice
          · exact lit96 _ _ _ _ _ _ _ _ _ _ _ _ _ _
          simp -implicitDefEqProofs only [sims.1, keeps.1, tick_on, Nat.reduceAdd, Nat.reduceEqDiff, t1, t2, t3, lnz, h1, zs, and_self]
          exact ⟨trivial, trivial, rfl, trivial⟩
    · cases t2 : decide (x.sw = 0)
      · rw [t2] at d2
        simp -implicitDefEqProofs only [sims.1, fx.1, keeps.1, tick_on, faddrK, nonnil, Nat.reduceEqDiff, Nat.reduceLeDiff, h1, h5, h6, g3, hl, q2, t1]
        refine q_buildSlice (v := i8V [5]) ?_ ?_
        · exact lit92_1 5
        simp -implicitDefEqProofs only [sims.1, keeps.1, tick_on, calleeK, Nat.reduceEqDiff]
        refine callQ_is [5] rfl x (by decide) g3 ?_
        simp -implicitDefEqProofs only [sims.1, fx.1, keeps.1, tick_on, faddrK, nonnil, Nat.reduceEqDiff, Nat.reduceLeDiff, h1, h5, g3, hl, q28, d1, bu95]
        refine q_buildSlice (v := i8V [6, 7, 11, 12]) ?_ ?_
        · exact lit92_4 6 7 11 12
        simp -implicitDefEqProofs only [sims.1, keeps.1, tick_on, calleeK, Nat.reduceEqDiff]
        refine callQ_is [6, 7, 11, 12] rfl x (by decide) g3 ?_
        simp -implicitDefEqProofs only [sims.1, fx.1, keeps.1, tick_on, faddrK, nonnil, Nat.reduceEqDiff, Nat.reduceLeDiff, h1, h5, g3, hl, q29, bu95]
        refine q_buildSlice (v := i8V [12]) ?_ ?_
        · exact lit92_1 12
        simp -implicitDefEqProofs only [sims.1, keeps.1, tick_on, calleeK, Nat.reduceEqDiff]
        refine callQ_is [12] rfl x (by decide) g3 ?_
        simp -implicitDefEqProofs only [sims.1, fx.1, keeps.1, tick_on, faddrK, nonnil, Nat.reduceEqDiff, Nat.reduceLeDiff, h1, h5, g3, hl, q30, bu95, d2]
        refine q_buildSlice (v := i8V [4]) ?_ ?_
        · exact lit92_1 4
        simp -implicitDefEqProofs only [sims.1, keeps.1, tick_on, calleeK, Nat.reduceEqDiff]
        refine callQ_is [4] rfl x (by decide) g3 ?_
        simp -implicitDefEqProofs only [sims.1, fx.1, keeps.1, tick_on, faddrK, nonnil, Nat.reduceEqDiff, Nat.reduceLeDiff, h1, h5, g3, hl, q33, ln34, d5, bu95]
        refine q_buildSlice (v := i8V [6, 7]) ?_ ?_
        · exact lit92_2 6 7
        simp -implicitDefEqProofs only [sims.1, keeps.1, tick_on, calleeK, Nat.reduceEqDiff]
        refine callQ_is [6, 7] rfl x (by decide) g3 ?_
        simp -implicitDefEqProofs only [sims.1, fx.1, keeps.1, tick_on, faddrK, nonnil, Nat.reduceEqDiff, Nat.reduceLeDiff, h1, h5, g3, hl, q34, ln35, d6, bu95]
        refine q_buildSlice (v := i8V [11]) ?_ ?_
        · exact lit92_1 11
        simp -implicitDefEqProofs only [sims.1, keeps.1, tick_on, calleeK, Nat.reduceEqDiff]
        refine callQ_is [11] rfl x (by decide) g3 ?_
        simp -implicitDefEqProofs only [sims.1, fx.1, keeps.1, tick_on, faddrK, nonnil, Nat.reduceEqDiff, Nat.reduceLeDiff, h1, h5, g3, hl, q35, d7, bu95]
        refine q_buildSlice (v := i8V [13]) ?_ ?_
        · exact lit92_1 13
        simp -implicitDefEqProofs only [sims.1, keeps.1, tick_on, calleeK, Nat.reduceEqDiff]
        refine callQ_is [13] rfl x (by decide) g3 ?_
        simp -implicitDefEqProofs only [sims.1, keeps.1, tick_on, Nat.reduceEqDiff, bu95]
        apply q_buildSlice
        · exact lit96 _ _ _ _ _ _ _ _ _ _ _ _ _ _
        simp -implicitDefEqProofs only [sims.1, keeps.1, tick_on, Nat.reduceAdd, Nat.reduceEqDiff, t1, t2, lnz, h1, zs, and_self]
        exact ⟨trivial, trivial, rfl, trivial⟩
      · rw [t2] at d2
        cases t3 : decide (x.ports.length = 0)
        · rw [t3] at d3
          simp -implicitDefEqProofs only [sims.1, fx.1, keeps.1, tick_on, faddrK, nonnil, Nat.reduceEqDiff, Nat.reduceLeDiff, h1, h5, h6, g3, hl, q2, t1]
          refine q_buildSlice (v := i8V [5]) ?_ ?_
          · exact lit92_1 5
          simp -implicitDefEqProofs only [sims.1, keeps.1, tick_on, calleeK, Nat.reduceEqDiff]
          refine callQ_is [5] rfl x (by decide) g3 ?_
          simp -implicitDefEqProofs only [sims.1, fx.1, keeps.1, tick_on, faddrK, nonnil, Nat.reduceEqDiff, Nat.reduceLeDiff, h1, h5, g3, hl, q28, d1, bu95]
          refine q_buildSlice (v := i8V [6, 7, 11, 12]) ?_ ?_
          · exact lit92_4 6 7 11 12
          simp -implicitDefEqProofs only [sims.1, keeps.1, tick_on, calleeK, Nat.reduceEqDiff]
          refine callQ_is [6, 7, 11, 12] rfl x (by decide) g3 ?_
          simp -implicitDefEqProofs only [sims.1, fx.1, keeps.1, tick_on, faddrK, nonnil, Nat.reduceEqDiff, Nat.reduceLeDiff, h1, h5, g3, hl, q29, bu95]
          refine q_buildSlice (v := i8V [12]) ?_ ?_
          · exact lit92_1 12
          simp -implicitDefEqProofs only [sims.1, keeps.1, tick_on, calleeK, Nat.reduceEqDiff]
          refine callQ_is [12] rfl x (by decide) g3 ?_
          simp -implicitDefEqProofs only [sims.1, fx.1, keeps.1, tick_on, faddrK, nonnil, Nat.reduceEqDiff, Nat.reduceLeDiff, h1, h5, g3, hl, q30, q31, ln33a, bu95, d2, d3]
          refine q_buildSlice (v := i8V [4]) ?_ ?_
          · exact lit92_1 4
          simp -implicitDefEqProofs only [sims.1, keeps.1, tick_on, calleeK, Nat.reduceEqDiff]
          refine callQ_is [4] rfl x (by decide) g3 ?_
          simp -implicitDefEqProofs only [sims.1, fx.1, keeps.1, tick_on, faddrK, nonnil, Nat.reduceEqDiff, Nat.reduceLeDiff, h1, h5, g3, hl, q33, ln34, d5, bu95]
          refine q_buildSlice (v := i8V [6, 7]) ?_ ?_
          · exact lit92_2 6 7
          simp -implicitDefEqProofs only [sims.1, keeps.1, tick_on, calleeK, Nat.reduceEqDiff]
          refine callQ_is [6, 7] rfl x (by decide) g3 ?_
          simp -implicitDefEqProofs only [sims.1, fx.1, keeps.1, tick_on, faddrK, nonnil, Nat.reduceEqDiff, Nat.reduceLeDiff, h1, h5, g3, hl, q34, ln35, d6, bu95]
          refine q_buildSlice (v := i8V [11]) ?_ ?_
          · exact lit92_1 11
          simp -implicitDefEqProofs only [sims.1, keeps.1, tick_on, calleeK, Nat.reduceEqDiff]
          refine callQ_is [11] rfl x (by decide) g3 ?_
          simp -implicitDefEqProofs only [sims.1, fx.1, keeps.1, tick_on, faddrK, nonnil, Nat.reduceEqDiff, Nat.reduceLeDiff, h1, h5, g3, hl, q35, d7, bu95]
          refine q_buildSlice (v := i8V [13]) ?_ ?_
          · exact lit92_1 13
          simp -implicitDefEqProofs only [sims.1, keeps.1, tick_on, calleeK, Nat.reduceEqDiff]
          refine callQ_is [13] rfl x (by decide) g3 ?_
          simp -implicitDefEqProofs only [sims.1, keeps.1, tick_on, Nat.reduceEqDiff, bu95]
          apply q_buildSlice
          · exact lit96 _ _ _ _ _ _ _ _ _ _ _ _ _ _
          simp -implicitDefEqProofs only [sims.1, keeps.1, tick_on, Nat.reduceAdd, Nat.reduceEqDiff, t1, t2, t3, lnz, h1, zs, and_self]
          exact ⟨trivial, trivial, rfl, trivial⟩
        · rw [t3] at d3
          simp -implicitDefEqProofs only [sims.1, fx.1, keeps.1, tick_on, faddrK, nonnil, Nat.reduceEqDiff, Nat.reduceLeDiff, h1, h5, h6, g3, hl, q2, t1]
          refine q_buildSlice (v := i8V [5]) ?_ ?_
          · exact lit92_1 5
          simp -implicitDefEqProofs only [sims.1, keeps.1, tick_on, calleeK, Nat.reduceEqDiff]
          refine callQ_is [5] rfl x (by decide) g3 ?_
          simp -implicitDefEqProofs only [sims.1, fx.1, keeps.1, tick_on, faddrK, nonnil, Nat.reduceEqDiff, Nat.reduceLeDiff, h1, h5, g3, hl, q28, d1, bu95]
          refine q_buildSlice (v := i8V [6, 7, 11, 12]) ?_ ?_
          · exact lit92_4 6 7 11 12
          simp -implicitDefEqProofs only [sims.1, keeps.1, tick_on, calleeK, Nat.reduceEqDiff]
          refine callQ_is [6, 7, 11, 12] rfl x (by decide) g3 ?_
          simp -implicitDefEqProofs only [sims.1, fx.1, keeps.1, tick_on, faddrK, nonnil, Nat.reduceEqDiff, Nat.reduceLeDiff, h1, h5, g3, hl, q29, bu95]
          refine q_buildSlice (v := i8V [12]) ?_ ?_
          · exact lit92_1 12
          simp -implicitDefEqProofs only [sims.1, keeps.1, tick_on, calleeK, Nat.reduceEqDiff]
          refine callQ_is [12] rfl x (by decide) g3 ?_
          simp -implicitDefEqProofs only [sims.1, fx.1, keeps.1, tick_on, faddrK, nonnil, Nat.reduceEqDiff, Nat.reduceLeDiff, h1, h5, g3, hl, q30, q31, q32, ln33a, ln33b, bu95, d2, d3, d4]
          refine q_buildSlice (v := i8V [4]) ?_ ?_
          · exact lit92_1 4
          simp -implicitDefEqProofs only [sims.1, keeps.1, tick_on, calleeK, Nat.reduceEqDiff]
          refine callQ_is [4] rfl x (by decide) g3 ?_
          simp -implicitDefEqProofs only [sims.1, fx.1, keeps.1, tick_on, faddrK, nonnil, Nat.reduceEqDiff, Nat.reduceLeDiff, h1, h5, g3, hl, q33, ln34, d5, bu95]
          refine q_buildSlice (v := i8V [6, 7]) ?_ ?_
          · exact lit92_2 6 7
          simp -implicitDefEqProofs only [sims.1, keeps.1, tick_on, calleeK, Nat.reduceEqDiff]
          refine callQ_is [6, 7] rfl x (by decide) g3 ?_
          simp -implicitDefEqProofs only [sims.1, fx.1, keeps.1, tick_on, faddrK, nonnil, Nat.reduceEqDiff, Nat.reduceLeDiff, h1, h5, g3, hl, q34, ln35, d6, bu95]
          refine q_buildSlice (v := i8V [11]) ?_ ?_
          · exact lit92_1 11
          simp -implicitDefEqProofs only [sims.1, keeps.1, tick_on, calleeK, Nat.reduceEqDiff]
          refine callQ_is [11] rfl x (by decide) g3 ?_
          simp -implicitDefEqProofs only [sims.1, fx.1, keeps.1, tick_on, faddrK, nonnil, Nat.reduceEqDiff, Nat.reduceLeDiff, h1, h5, g3, hl, q35, d7, bu95]
          refine q_buildSlice (v := i8V [13]) ?_ ?_
          · exact lit92_1 13
          simp -implicitDefEqProofs only [sims.1, keeps.1, tick_on, calleeK, Nat.reduceEqDiff]
          refine callQ_is [13] rfl x (by decide) g3 ?_
          simp -implicitDefEqProofs only [sims.1, keeps.1, tick_on, Nat.reduceEqDiff, bu95]
          apply q_buildSlice
          · exact lit96 _ _ _ _ _ _ _ _ _ _ _ _ _ _
          simp -implicitDefEqProofs only [sims.1, keeps.1, tick_on, Nat.reduceAdd, Nat.reduceEqDiff, t1, t2, t3, lnz, h1, zs, and_self]
          exact ⟨trivial, trivial, rfl, trivial⟩
  · rintro e m' ⟨h1, h137, h138, h139, rfl⟩
    simp -implicitDefEqProofs only [sims.1, tick_on]
    refine W_loopM (fun j : Nat => [(138, V.int .i64 7), (137, zV (zs x)), (139, V.int .i64 (j : Int)), (1, V.ptr 0 0)]) (fun j M => M[0]? = some (.var 54 [.ip (msC x)]) ∧ j ≤ 7 ∧ ∀ p ∈ (zs x).take j, (p.1 || p.2) = true) (fun j => 8 - j) 0
      (Eq.trans (b := [(138, e 138), (137, e 137), (139, e 139), (1, e 1)]) (by kernel_rfl) (by rw [h1, h137, h138, h139]; rfl)) ⟨g3, by omega, by simp⟩ ?_
    rintro j M ⟨h0, h2, h3⟩
    have z7 : (zs x).length = 7 := rfl
    rcases Nat.lt_or_ge j 7 with hj | hj
    · have c1 : decide ((j : Int) < 7) = true := by simp; omega
      have w1 := add1N j (by omega)
      have hj' : j < (zs x).length := hj
      have ia : ∀ {kk : IntKind}, iaddrS 2 (zV (zs x)) (.int kk (j : Int)) = some (.ip (zC (zs x)[j])) := fun {kk} => iaddrS_isl (by simp [hj'])
      have hmem : (zs x)[j] ∈ zs x := List.getElem_mem hj'
      have htk : ∀ (P : Bool × Bool → Prop), P (zs x)[j] → (∀ p ∈ (zs x).take j, P p) → ∀ p ∈ (zs x).take (j + 1), P p := fun P h h' p hp => by
        rw [List.take_add_one, List.getElem?_eq_getElem hj', List.mem_append] at hp
        rcases hp with hp | hp
        · exact h' p hp
        · simp at hp; subst hp; exact h
      generalize hp : (zs x)[j] = p at ia hmem htk
      obtain ⟨b1, b2⟩ := p
      have l2 : partK true 2 [V.bool b1, V.bool b2] 0 = some (.agg [.bool b1, .bool b2]) := rfl
      have eM : ∀ ex : Mem, (M ++ ex)[0]? = some (.var 54 [.ip (msC x)]) := fun ex => by rw [List.getElem?_append_left (List.getElem?_eq_some_iff.1 h0).1]; exact h0
      cases b1
      · cases b2
        · have hno : onlyM x = false := by
            unfold onlyM
            rw [List.all_eq_false]
            exact ⟨_, hmem, by simp⟩
          simp -implicitDefEqProofs only [sims.1, fx.1, keeps.1, tick_on, faddrK, Nat.reduceAdd, Nat.reduceEqDiff, Nat.reduceLeDiff, c1, ia, zC, l2, storeK_agg, splice_all, at_app0, set_app0]
          exact ans_ret (by rw [right_only hno])
        · simp -implicitDefEqProofs only [sims.1, fx.1, keeps.1, tick_on, faddrK, Nat.reduceAdd, Nat.reduceEqDiff, Nat.reduceLeDiff, c1, ia, zC, l2, storeK_agg, splice_all, at_app0, set_app0, w1]
          exact ⟨j + 1, by kernel_rfl, ⟨eM _, by omega, htk _ rfl h3⟩, by omega⟩
      · simp -implicitDefEqProofs only [sims.1, fx.1, keeps.1, tick_on, faddrK, Nat.reduceAdd, Nat.reduceEqDiff, Nat.reduceLeDiff, c1, ia, zC, l2, storeK_agg, splice_all, at_app0, set_app0, w1]
        exact ⟨j + 1, by kernel_rfl, ⟨eM _, by omega, htk _ rfl h3⟩, by omega⟩
    obtain rfl : j = 7 := by omega
    have hon : onlyM x = true := by
      unfold onlyM
      rw [List.all_eq_true]
      exact h3
    have c1 : decide ((7 : Int) < 7) = false := rfl
    have ln35 : ∀ M, lenV Try.prog M 35 (hesV x.helds) = some (.int .i64 (x.helds.length : Int)) := fun M => by unfold hesV; rw [lni35, List.length_map]
    simp -implicitDefEqProofs only [sims.1, fx.1, keeps.1, tick_on, faddrK, nonnil, Nat.reduceEqDiff, Nat.reduceLeDiff, Int.reduceLT, Int.cast_ofNat_Int, h0, hl, q34, ln35]
    have hhl : x.helds.length < 281474976710656 := hx.helds.1
    refine W_loopM (fun j : Nat => [(156, V.int .i64 (x.helds.length : Int)), (157, V.int .i64 (j : Int)), (1, V.ptr 0 0)]) (fun j M => M[0]? = some (.var 54 [.ip (msC x)]) ∧ j ≤ x.helds.length ∧ ∀ k, (hk : k < x.helds.length) → k < j → fairR x.helds[k].r = true) (fun j => x.helds.length + 1 - j) 0
      (by kernel_rfl) ⟨by first | exact h0 | trivial, by omega, fun k hk h => by omega⟩ ?_
    rintro j M ⟨h0, h2, h4⟩
    rcases Nat.lt_or_ge j x.helds.length with hj | hj
    · have d1 : decide (j < x.helds.length) = true := by simpa using hj
      have w1 := add1N j (by omega)
      have ia : ∀ {kk : IntKind}, iaddrS 27 (hesV x.helds) (.int kk (j : Int)) = some (.ip (heC x.helds[j])) := fun {kk} => iaddrS_isl (by simp [hj])
      have hl2 : (heC x.helds[j]).length = 27 := rfl
      simp -implicitDefEqProofs only [sims.1, fx.1, keeps.1, tick_on, calleeK, faddrK, nonnil, Nat.reduceEqDiff, Nat.reduceLeDiff, ltNat, d1, h0, hl, q34, ia, hl2]
      refine callD_ans (v := .bool (fairR x.helds[j].r)) (ans38 x.helds[j].r [.int .u64 (x.helds[j].p : Int), .int .u64 (x.helds[j].b : Int)] (hx.helds.2 _ (List.getElem_mem hj)).1) en38 (nfs_cons (nfs_he x.helds[j]) rfl) rfl ?_
      cases e1 : fairR x.helds[j].r
      · simp -implicitDefEqProofs only [sims.1, fx.1, keeps.1, tick_on, Nat.reduceEqDiff]
        exact ans_ret (by rw [right_held hj e1])
      · simp -implicitDefEqProofs only [sims.1, keeps.1, tick_on, Nat.reduceEqDiff, w1]
        refine ⟨j + 1, by kernel_rfl, ⟨by first | exact h0 | trivial, by omega, fun k hk hk2 => ?_⟩, by omega⟩
        rcases Nat.lt_or_ge k j with h | h
        · exact h4 k hk h
        · obtain rfl : k = j := by omega
          exact e1
    obtain rfl : j = x.helds.length := by omega
    have d1 : decide (x.helds.length < x.helds.length) = false := by simp
    have hall : x.helds.all (fun h => fairR h.r) = true := by
      rw [List.all_eq_true]
      exact row_all fun q hq _ => h4 q hq hq
    have hR : rightM x = ((!decide (x.ty = 11) || decide (x.port ≤ 1)) && (!decide (x.ty = 5) || (decide (0 ≤ x.dd) && (decide (x.dd ≤ 3) && fairR x.r)))) := by simp only [rightM, hT, hon, hall, Bool.true_and]
    have hp1 : decide ((x.port : Int) ≤ 1) = decide (x.port ≤ 1) := by rw [Bool.eq_iff_iff]; simp; omega
    simp -implicitDefEqProofs only [sims.1, fx.1, keeps.1, tick_on, faddrK, nonnil, Nat.reduceEqDiff, Nat.reduceLeDiff, ltNat, d1, h0, hl, q0]
    cases e1 : decide (x.ty = 11)
    · cases e3 : decide (x.ty = 5)
      · rw [e1, e3] at hR
        simp -implicitDefEqProofs only [sims.1, fx.1, keeps.1, tick_on, faddrK, nonnil, Nat.reduceEqDiff, Nat.reduceLeDiff, e3, h0, hl, q0]
        exact ans_ret (by rw [hR]; rfl)
      · cases e4 : decide (0 ≤ x.dd)
        · rw [e1, e3, e4] at hR
          simp -implicitDefEqProofs only [sims.1, fx.1, keeps.1, tick_on, faddrK, nonnil, Nat.reduceEqDiff, Nat.reduceLeDiff, e3, e4, h0, hl, q0, q2]
          exact ans_ret (by rw [hR]; rfl)
        · cases e5 : decide (x.dd ≤ 3)
          · rw [e1, e3, e4, e5] at hR
            simp -implicitDefEqProofs only [sims.1, fx.1, keeps.1, tick_on, faddrK, nonnil, Nat.reduceEqDiff, Nat.reduceLeDiff, e3, e4, e5, h0, hl, q0, q2]
            exact ans_ret (by rw [hR]; rfl)
          · rw [e1, e3, e4, e5] at hR
            simp -implicitDefEqProofs only [sims.1, fx.1, keeps.1, tick_on, calleeK, faddrK, nonnil, Nat.reduceEqDiff, Nat.reduceLeDiff, e3, e4, e5, h0, hl, q0, q2]
            refine callD_ans (v := .bool (fairR x.r)) (ans38 x.r ((msC x).drop 28) hx.r) en38 (nfs_cons (by show nfs ((msC x).drop 3) = true; exact nfs_app (nfs_ru x.r) (by simp only [nfs, nf, nf_po, nf_by, nf_hes, Bool.and_self])) rfl) rfl ?_
            simp -implicitDefEqProofs only [sims.1, fx.1, keeps.1, tick_on, Nat.reduceEqDiff]
            exact ans_ret (by rw [hR]; rfl)
    · cases e2 : decide (x.port ≤ 1)
      · rw [e2] at hp1
        rw [e1, e2] at hR
        simp -implicitDefEqProofs only [sims.1, fx.1, keeps.1, tick_on, faddrK, nonnil, Nat.reduceEqDiff, Nat.reduceLeDiff, hp1, h0, hl, q28]
        exact ans_ret (by rw [hR]; rfl)
      · rw [e2] at hp1
        have e3 : decide (x.ty = 5) = false := by have := of_decide_eq_true e1; simp [this]
        rw [e1, e2, e3] at hR
        simp -implicitDefEqProofs only [sims.1, fx.1, keeps.1, tick_on, faddrK, nonnil, Nat.reduceEqDiff, Nat.reduceLeDiff, hp1, e3, h0, hl, q0, q28]
        exact ans_ret (by rw [hR]; rfl)
end Go.Proofs.Ytjjenpdjmcmgbaa
