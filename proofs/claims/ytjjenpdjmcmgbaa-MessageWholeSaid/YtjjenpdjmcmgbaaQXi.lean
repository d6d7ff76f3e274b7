/- A match, read. No condition. -/
import Derived.Test.YtjjenpdjmcmgbaaQXh
namespace Go.Proofs.Ytjjenpdjmcmgbaa
open Go Ab
set_option linter.unusedSimpArgs false
set_option linter.unusedVariables false
set_option maxRecDepth 20000
def w0 : Nat → Nat := fun _ => 0
def loop69a (c q o n : Nat) (j : Nat) : List (Nat × V) := [(12, .agg (cl .u64 11 fun _ => 0)), (13, .int .i64 (j : Int)), (4, .ptr n 0), (0, .ptr c 0), (1, .ptr q o)]
theorem rdFs_none {bits : Nat} {rest : List Nat} : ∀ {j n : Nat}, j ≤ n → rdFs bits rest j = none → rdFs bits rest n = none
  | j, 0, h, e => by
    obtain rfl : j = 0 := by omega
    exact e
  | j, n + 1, h, e => by
    rcases Nat.lt_or_ge n j with g | g
    · obtain rfl : j = n + 1 := by omega
      exact e
    · simp only [rdFs, rdFs_none g e, Option.bind_none]
set_option maxHeartbeats 2000000 in
theorem snd69r {m : Mem} {c q ty o : Nat} {l : List V} {rest : List Nat} (hc : Cr m c rest) (hB : Byt rest) (ho : o + 22 ≤ l.length) (hq : m[q]? = some (.var ty (putM l o w0))) (hqc : q ≠ c) :
    Snd Try.prog 69 [.ptr c 0, .ptr q o] m (RQ c q ty (putM l o w0) m ((rdM rest).map fun t => (putM l o t.1, t.2))) := by
  refine Snd_of_W fol rfl rfl (by kernel_rfl) (by kernel_rfl) ?_
  have hnn : ∀ k o, nonnil (.ptr k o) = true := fun _ _ => rfl
  have hql := (List.getElem?_eq_some_iff.1 hq).1
  have hs : ∀ (b : B), (m ++ [b])[m.length]? = some b := fun b => by simp
  have hset : ∀ b b' : B, (m ++ [b]).set m.length b' = m ++ [b'] := fun b b' => by simp
  have hq1 : ∀ b, (m ++ [b])[q]? = some (.var ty (putM l o w0)) := fun b => by rw [List.getElem?_append_left hql]; exact hq
  have pk : partK true 11 (putM l o w0) (o + 11) = some (.agg (cl .u64 11 fun _ => 0)) := by
    simp only [partK, cond_true]
    rw [if_pos (by rw [putM_len ho]; omega)]
    congr 2
    apply List.ext_getElem?
    intro i
    rcases Nat.lt_or_ge i 11 with hi | hi
    · rw [List.getElem?_take_of_lt hi, List.getElem?_drop, Nat.add_assoc, putM_at (by omega) (by omega), cl_get hi]
      rfl
    · rw [List.getElem?_eq_none (by simp; omega), List.getElem?_eq_none (by simp; omega)]
  simp -implicitDefEqProofs only [sims.1, fx.1, keeps.1, tick_on, calleeK, extractV, oneV, faddrK, nonnil, b_shr, b_shl, fieldK, Nat.reduceAdd, Nat.reduceMul, Nat.reduceSub, Nat.reduceEqDiff, Nat.reduceLT, Nat.reduceLeDiff, Nat.reduceBEq, Nat.reduceBNe, reduceIte, Int.reduceEq, Int.reduceLT, Int.reduceLE, Int.reduceNe, Int.reduceToNat, hs, hset, hnn, hq1, pk]
  refine W_loopM (loop69a c q o m.length) (fun j M => j ≤ 11 ∧ M = m ++ [.var 24 [.int .u64 0]]) (fun j => 12 - j) 0 (by kernel_rfl) ⟨by omega, rfl⟩ ?_
  rintro j M ⟨h1, rfl⟩
  rcases Nat.lt_or_ge j 11 with hj | hj
  · have c1 : decide (j < 11) = true := by simpa using hj
    have w2 := add1N j (by omega)
    simp -implicitDefEqProofs only [sims.1, fx.1, keeps.1, tick_on, calleeK, extractV, oneV, faddrK, nonnil, b_shr, b_shl, fieldK, Nat.reduceAdd, Nat.reduceMul, Nat.reduceSub, Nat.reduceEqDiff, Nat.reduceLT, Nat.reduceLeDiff, Nat.reduceBEq, Nat.reduceBNe, reduceIte, Int.reduceEq, Int.reduceLT, Int.reduceLE, Int.reduceNe, Int.reduceToNat, loop69a, lt11, c1, hj, cl_get, hs, hset, w2]
    exact ⟨j + 1, by kernel_rfl, by first | exact ⟨by omega, rfl⟩ | exact ⟨by omega, trivial⟩ | simp <;> omega, by omega⟩
  · obtain rfl : j = 11 := by omega
    have c1 : decide ((11 : Int) < 11) = false := rfl
    simp -implicitDefEqProofs only [sims.1, fx.1, keeps.1, tick_on, calleeK, extractV, oneV, faddrK, nonnil, b_shr, b_shl, fieldK, Nat.reduceAdd, Nat.reduceMul, Nat.reduceSub, Nat.reduceEqDiff, Nat.reduceLT, Nat.reduceLeDiff, Nat.reduceBEq, Nat.reduceBNe, reduceIte, Int.reduceEq, Int.reduceLT, Int.reduceLE, Int.reduceNe, Int.reduceToNat, loop69a, Int.cast_ofNat_Int, c1]
    refine callD_r (snd31q (n := 2) (a := 0) (o := 0) (hc.app _) (hs _) (by have := hc.lt; omega) rfl hB.1 hB.2 (by omega) (by omega)) en31 ?_ ?_
    rotate_left
    · intro l' M1 e k1 q1 hl
      cases d : rdN 2 rest with
      | some a => rw [d] at e; cases e
      | none =>
      have e : rdM rest = none := by simp only [rdM, d, Option.bind_none]
      rw [e]
      exact ⟨M1, _, rfl, k1.new (Nat.le_refl _), k1.2 q _ hqc (by omega) (hq1 _), rfl⟩
    intro l' r' M1 e k1 c1' q1
    cases d : rdN 2 rest with
    | none => rw [d] at e; cases e
    | some n =>
    rw [d] at e
    cases e
    have q1 : M1[m.length]? = some (.var 24 [.int .u64 (n.1 : Int)]) := q1
    have hn16 : n.1 < 256 ^ 2 := by
      unfold rdN at d
      split at d
      · cases d; exact beV_lt hB.1 2
      · cases d
    have B1 : Byt n.2 := rdN_byt hB d
    have qq : M1[q]? = some (.var ty (putM l o w0)) := k1.2 q _ hqc (by omega) (hq1 _)
    have kk : K2 c q m M1 := k1.new (Nat.le_refl _)
    have s11 := shrW n.1 11 (by omega)
    have z11 := eqC0 (n.1 / 2 ^ 11)
    cases e11 : decide (n.1 / 2 ^ 11 = 0)
    · rw [e11] at z11
      simp -implicitDefEqProofs only [sims.1, fx.1, keeps.1, tick_on, calleeK, extractV, oneV, faddrK, nonnil, b_shr, b_shl, fieldK, Nat.reduceAdd, Nat.reduceMul, Nat.reduceSub, Nat.reduceEqDiff, Nat.reduceLT, Nat.reduceLeDiff, Nat.reduceBEq, Nat.reduceBNe, reduceIte, Int.reduceEq, Int.reduceLT, Int.reduceLE, Int.reduceNe, Int.reduceToNat, q1, s11, z11, b62, co62]
      have e : rdM rest = none := by simp only [rdM, d, Option.bind_some, if_neg (of_decide_eq_false e11)]
      rw [e]
      exact ⟨M1, _, rfl, kk, qq, rfl⟩
    rw [e11] at z11
    simp -implicitDefEqProofs only [sims.1, fx.1, keeps.1, tick_on, calleeK, extractV, oneV, faddrK, nonnil, b_shr, b_shl, fieldK, Nat.reduceAdd, Nat.reduceMul, Nat.reduceSub, Nat.reduceEqDiff, Nat.reduceLT, Nat.reduceLeDiff, Nat.reduceBEq, Nat.reduceBNe, reduceIte, Int.reduceEq, Int.reduceLT, Int.reduceLE, Int.reduceNe, Int.reduceToNat, q1, s11, z11]
    have eM : rdM rest = rdFs n.1 n.2 11 := by simp only [rdM, d, Option.bind_some, if_pos (of_decide_eq_true e11)]
    rw [eM]
    refine W_loopM (loopM2 c m.length (.ptr q o)) (fun j M => j ≤ 11 ∧ ∃ w r', rdFs n.1 n.2 j = some (w, r') ∧ K2 c q m M ∧ Cr M c r' ∧ Byt r' ∧ M[q]? = some (.var ty (putM l o w)) ∧ M[m.length]? = some (.var 24 [.int .u64 (n.1 : Int)])) (fun j => 12 - j) 0 (by kernel_rfl) ⟨by omega, w0, n.2, rfl, kk, c1', B1, qq, q1⟩ ?_
    rintro j M ⟨h1, w, r', h2, h3, h4, h5, h6, h7⟩
    rcases Nat.lt_or_ge j 11 with hj | hj
    rotate_left
    · obtain rfl : j = 11 := by omega
      have c1 : decide ((11 : Int) < 11) = false := rfl
      simp -implicitDefEqProofs only [sims.1, fx.1, keeps.1, tick_on, calleeK, extractV, oneV, faddrK, nonnil, b_shr, b_shl, fieldK, Nat.reduceAdd, Nat.reduceMul, Nat.reduceSub, Nat.reduceEqDiff, Nat.reduceLT, Nat.reduceLeDiff, Nat.reduceBEq, Nat.reduceBNe, reduceIte, Int.reduceEq, Int.reduceLT, Int.reduceLE, Int.reduceNe, Int.reduceToNat, loopM2, Int.cast_ofNat_Int, c1]
      rw [h2]
      exact ⟨M, rfl, h3, h4, h6⟩
    have c1 : decide (j < 11) = true := by simpa using hj
    have w2 := add1N j (by omega)
    have w1 := wrapU j (by omega)
    have s1 := shrW n.1 j (by omega)
    have n1 : ¬ ((j : Int) < 0) := by omega
    have a1 := and1 (n.1 / 2 ^ j) (Nat.lt_of_le_of_lt (Nat.div_le_self _ _) (by omega))
    have z1 := eqC0 (n.1 / 2 ^ j % 2)
    cases e1 : decide (n.1 / 2 ^ j % 2 = 0)
    rotate_left
    · rw [e1] at z1
      simp -implicitDefEqProofs only [sims.1, fx.1, keeps.1, tick_on, calleeK, extractV, oneV, faddrK, nonnil, b_shr, b_shl, fieldK, Nat.reduceAdd, Nat.reduceMul, Nat.reduceSub, Nat.reduceEqDiff, Nat.reduceLT, Nat.reduceLeDiff, Nat.reduceBEq, Nat.reduceBNe, reduceIte, Int.reduceEq, Int.reduceLT, Int.reduceLE, Int.reduceNe, Int.reduceToNat, loopM2, lt11, c1, h7, w1, s1, n1, a1, z1, w2, Int.toNat_natCast]
      exact ⟨j + 1, by kernel_rfl, ⟨by omega, w, r', by simp only [rdFs, h2, Option.bind_some, if_pos (of_decide_eq_true e1)], h3, h4, h5, h6, by first | exact h7 | trivial⟩, by omega⟩
    rw [e1] at z1
    simp -implicitDefEqProofs only [sims.1, fx.1, keeps.1, tick_on, calleeK, extractV, oneV, faddrK, nonnil, b_shr, b_shl, fieldK, Nat.reduceAdd, Nat.reduceMul, Nat.reduceSub, Nat.reduceEqDiff, Nat.reduceLT, Nat.reduceLeDiff, Nat.reduceBEq, Nat.reduceBNe, reduceIte, Int.reduceEq, Int.reduceLT, Int.reduceLE, Int.reduceNe, Int.reduceToNat, loopM2, lt11, c1, h7, w1, s1, n1, a1, z1, w2, Int.toNat_natCast]
    have w8 := w8j j hj
    rw [w8]
    refine callD_ans (ans75 j hj) en75 rfl rfl ?_
    have sq := szq hj
    obtain ⟨z1, z2, _⟩ := sz_ok hj
    have i1 : iaddrA 11 1 (.ptr q o) (.int .i64 (j : Int)) = some (.ptr q (o + j)) := by rw [iaddrA_nat hj, Nat.mul_one]
    have i2 : iaddrA 11 1 (.ptr q (o + 11)) (.int .i64 (j : Int)) = some (.ptr q (o + 11 + j)) := by rw [iaddrA_nat hj, Nat.mul_one]
    simp -implicitDefEqProofs only [sims.1, fx.1, keeps.1, tick_on, calleeK, extractV, oneV, faddrK, nonnil, b_shr, b_shl, fieldK, Nat.reduceAdd, Nat.reduceMul, Nat.reduceSub, Nat.reduceEqDiff, Nat.reduceLT, Nat.reduceLeDiff, Nat.reduceBEq, Nat.reduceBNe, reduceIte, Int.reduceEq, Int.reduceLT, Int.reduceLE, Int.reduceNe, Int.reduceToNat, hnn, h6, faddrK, Nat.add_zero, sq, i1]
    refine callD_r (snd31q (n := sz j) (o := o + j) h4 h6 hqc (putM_at (by omega) (by omega)) h5.1 h5.2 z1 (by omega)) en31 ?_ ?_
    rotate_left
    · intro l1 M2 e k2 q2 hl
      cases da : rdN (sz j) r' with
      | some a => rw [da] at e; cases e
      | none =>
      have e5 : rdFs n.1 n.2 11 = none := rdFs_none (j := j + 1) (by omega) (by simp only [rdFs, h2, Option.bind_some, if_neg (of_decide_eq_false e1), da, Option.bind_none])
      rw [e5]
      exact ⟨M2, l1, rfl, h3.trans k2, q2, by rw [hl, putM_len ho, putM_len ho]⟩
    intro l1 r1 M2 e k2 c2 q2
    cases da : rdN (sz j) r' with
    | none => rw [da] at e; cases e
    | some a =>
    rw [da] at e
    cases e
    rw [putM_set (by omega) (by omega)] at q2
    have B2 := rdN_byt h5 da
    simp -implicitDefEqProofs only [sims.1, fx.1, keeps.1, tick_on, calleeK, extractV, oneV, faddrK, nonnil, b_shr, b_shl, fieldK, Nat.reduceAdd, Nat.reduceMul, Nat.reduceSub, Nat.reduceEqDiff, Nat.reduceLT, Nat.reduceLeDiff, Nat.reduceBEq, Nat.reduceBNe, reduceIte, Int.reduceEq, Int.reduceLT, Int.reduceLE, Int.reduceNe, Int.reduceToNat, hnn, faddrK, i2]
    refine callD_r (snd31q (n := sz j) (o := o + 11 + j) c2 q2 hqc (by rw [Nat.add_assoc]; exact putM_at (by omega) (by omega)) B2.1 B2.2 z1 (by omega)) en31 ?_ ?_
    rotate_left
    · intro l1 M3 e k3 q3 hl
      cases db : rdN (sz j) a.2 with
      | some b => rw [db] at e; cases e
      | none =>
      have e5 : rdFs n.1 n.2 11 = none := rdFs_none (j := j + 1) (by omega) (by simp only [rdFs, h2, Option.bind_some, if_neg (of_decide_eq_false e1), da, db, Option.bind_none])
      rw [e5]
      exact ⟨M3, l1, rfl, h3.trans (k2.trans k3), q3, by rw [hl, putM_len ho, putM_len ho]⟩
    intro l1 r1 M3 e k3 c3 q3
    cases db : rdN (sz j) a.2 with
    | none => rw [db] at e; cases e
    | some b =>
    rw [db] at e
    cases e
    rw [Nat.add_assoc, putM_set (by omega) (by omega)] at q3
    have at3 : (putM l o (updN (updN w j a.1) (11 + j) b.1))[o + 11 + j]? = some (.int .u64 (b.1 : Int)) := by
      rw [Nat.add_assoc, putM_at (by omega) (by omega)]
      simp [updN]
    have zb := eqC0 b.1
    cases eb : decide (b.1 = 0)
    rotate_left
    · rw [eb] at zb
      simp -implicitDefEqProofs only [sims.1, fx.1, keeps.1, tick_on, calleeK, extractV, oneV, faddrK, nonnil, b_shr, b_shl, fieldK, Nat.reduceAdd, Nat.reduceMul, Nat.reduceSub, Nat.reduceEqDiff, Nat.reduceLT, Nat.reduceLeDiff, Nat.reduceBEq, Nat.reduceBNe, reduceIte, Int.reduceEq, Int.reduceLT, Int.reduceLE, Int.reduceNe, Int.reduceToNat, hnn, faddrK, i2, q3, at3, zb, b62, co62]
      have e5 : rdFs n.1 n.2 11 = none := rdFs_none (j := j + 1) (by omega) (by simp only [rdFs, h2, Option.bind_some, if_neg (of_decide_eq_false e1), da, db, if_pos (of_decide_eq_true eb)])
      rw [e5]
      simp -implicitDefEqProofs only [sims.1, fx.1, keeps.1, tick_on, calleeK, extractV, oneV, faddrK, nonnil, b_shr, b_shl, fieldK, Nat.reduceAdd, Nat.reduceMul, Nat.reduceSub, Nat.reduceEqDiff, Nat.reduceLT, Nat.reduceLeDiff, Nat.reduceBEq, Nat.reduceBNe, reduceIte, Int.reduceEq, Int.reduceLT, Int.reduceLE, Int.reduceNe, Int.reduceToNat, b62, co62]
      exact ⟨M3, _, rfl, h3.trans (k2.trans k3), q3, by rw [putM_len ho, putM_len ho]⟩
    rw [eb] at zb
    simp -implicitDefEqProofs only [sims.1, fx.1, keeps.1, tick_on, calleeK, extractV, oneV, faddrK, nonnil, b_shr, b_shl, fieldK, Nat.reduceAdd, Nat.reduceMul, Nat.reduceSub, Nat.reduceEqDiff, Nat.reduceLT, Nat.reduceLeDiff, Nat.reduceBEq, Nat.reduceBNe, reduceIte, Int.reduceEq, Int.reduceLT, Int.reduceLE, Int.reduceNe, Int.reduceToNat, hnn, faddrK, i2, q3, at3, zb, w2]
    refine ⟨j + 1, by kernel_rfl, ⟨by omega, updN (updN w j a.1) (11 + j) b.1, b.2, by simp only [rdFs, h2, Option.bind_some, if_neg (of_decide_eq_false e1), da, db, if_neg (of_decide_eq_false eb)], h3.trans (k2.trans k3), c3, rdN_byt B2 db, by first | exact q3 | rfl, ?_⟩, by omega⟩
    exact (k2.trans k3).2 _ _ (by have := hc.lt; omega) (by omega) h7
end Go.Proofs.Ytjjenpdjmcmgbaa
