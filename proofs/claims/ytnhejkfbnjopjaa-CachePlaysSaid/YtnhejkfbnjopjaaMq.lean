/- The reference's 'Turn', 'Held' and 'New'. No condition. -/
import Derived.Test.YtnhejkfbnjopjaaMp
namespace Go.Proofs.Ytnhejkfbnjopjaa
open Go Ab
set_option linter.unusedSimpArgs false
set_option linter.unusedVariables false
set_option maxRecDepth 20000

/-- A loop's state: the cache alone. -/
theorem canR0 {keep : List Nat} {env : Env} {l : List Ent} {t hd : Nat} {ex : Mem} (vs : List V) {e' : Env} (hk : keep.map env = vs)
    (hL : reach (rcM l t hd ++ ex) 80 (List.range 2 ++ nmss vs) [] = [0, 1]) (hi : inDs (fun k => [0, 1].contains k) vs = true) (hv : rens (idx [0, 1]) vs = vs) (hE : mkEnv (keep.zip vs) = e') : canon 2 keep env (rcM l t hd ++ ex) = some (e', rcM l t hd) := by
  refine canon_of vs [0, 1] hk hL hi ?_ hv hE rfl
  rw [closedR]
  rfl
theorem rs34 (env : Env) (m : Mem) : resV Try.prog Try.prog.funcs[34] env m = some (.tup []) := rfl
theorem rs32 (env : Env) (m : Mem) : resV Try.prog Try.prog.funcs[32] env m = some (.tup []) := rfl

theorem snd34 (l : List Ent) (t hd : Nat) (ht : t < 1000000) : Snd Try.prog 34 [.ptr 0 0] (rcM l t hd) fun r => r = .ret (.tup []) (rcM l (t + 1) hd) := by
  refine Snd_trim (Snd_of_W fol rfl rfl (by kernel_rfl) (by kernel_rfl) ?_)
  have w1 := wrap_i64s t (by omega)
  unfold rcM rcV
  simp -implicitDefEqProofs only [sims.1, fx.1, tick_on, calleeK, List.getElem?_toArray, extractV, oneV, faddrK, nonnil, b_shr, b_shl, eq_self, beq_self_eq_true, fieldK, Option.bind_some, Option.map_some, Option.bind_none, Option.map_none, List.map_cons, List.map_nil, List.getD_cons_zero, List.getD_cons_succ, List.getD_nil, List.length_nil, List.length_cons, List.length_set, List.nil_append, List.cons_append, List.append_nil, List.getElem?_cons_zero, List.getElem?_cons_succ, List.getElem?_nil, List.set_cons_zero, List.set_cons_succ, Nat.reduceAdd, Nat.zero_add, Nat.add_zero, Nat.mul_one, Nat.mul_zero, Nat.zero_mul, Nat.reduceMul, Nat.reduceSub, Nat.reduceEqDiff, Nat.reduceLT, Nat.reduceLeDiff, Nat.reduceBEq, Nat.reduceBNe, Nat.succ_ne_self, reduceIte, if_true, if_false, ite_self, decide_true, decide_false, Bool.not_true, Bool.not_false, Bool.and_true, Bool.true_and, Bool.and_false, Bool.false_and, Bool.or_true, Bool.true_or, Bool.or_false, Bool.false_or, cond_true, cond_false, Int.reduceEq, Int.reduceLT, Int.reduceLE, Int.reduceNe, Int.reduceToNat, rl1, w1, rs34]
  exact ⟨_, _, mkEnv [], _, rfl, rfl, canR (l := l) (t := t + 1) (hd := hd) [], rfl⟩

set_option maxHeartbeats 2000000 in
theorem snd36 (l : List Ent) (t hd : Nat) (hs : l.length ≤ 1024) : Snd Try.prog 36 [.ptr 0 0] (rcM l t hd) fun r => r = .ret (.int .i64 (held t l : Int)) (rcM l t hd) := by
  refine Snd_trim (Snd_of_W fol rfl rfl (by kernel_rfl) (by kernel_rfl) ?_)
  simp -implicitDefEqProofs only [sims.1, fx.1, tick_on, calleeK, List.getElem?_toArray, extractV, oneV, faddrK, nonnil, b_shr, b_shl, eq_self, beq_self_eq_true, fieldK, Option.bind_some, Option.map_some, Option.bind_none, Option.map_none, List.map_cons, List.map_nil, List.getD_cons_zero, List.getD_cons_succ, List.getD_nil, List.length_nil, List.length_cons, List.length_set, List.nil_append, List.cons_append, List.append_nil, List.getElem?_cons_zero, List.getElem?_cons_succ, List.getElem?_nil, List.set_cons_zero, List.set_cons_succ, Nat.reduceAdd, Nat.zero_add, Nat.add_zero, Nat.mul_one, Nat.mul_zero, Nat.zero_mul, Nat.reduceMul, Nat.reduceSub, Nat.reduceEqDiff, Nat.reduceLT, Nat.reduceLeDiff, Nat.reduceBEq, Nat.reduceBNe, Nat.succ_ne_self, reduceIte, if_true, if_false, ite_self, decide_true, decide_false, Bool.not_true, Bool.not_false, Bool.and_true, Bool.true_and, Bool.and_false, Bool.false_and, Bool.or_true, Bool.true_or, Bool.or_false, Bool.false_or, cond_true, cond_false, Int.reduceEq, Int.reduceLT, Int.reduceLE, Int.reduceNe, Int.reduceToNat]
  refine W_loop (fun x : Nat × Nat => (mkEnv [(0, .ptr 0 0), (4, .int .i64 (x.1 : Int)), (3, .int .i64 (x.2 : Int))], rcM l t hd)) (fun x => x.1 ≤ l.length ∧ x.2 ≤ x.1 ∧ x.2 + (l.drop x.1).countP (new t) = held t l) (fun x => l.length + 1 - x.1) (0, 0)
    (canR0 (ex := []) [.ptr 0 0, .int .i64 0, .int .i64 0] (by kernel_rfl) (by kernel_rfl) rfl (by kernel_rfl) (by kernel_rfl)) ⟨by simp, by simp, by simp [held]⟩ ?_
  rintro ⟨j, n⟩ ⟨h1, h2, h3⟩
  simp only at h1 h2 h3
  unfold rcM rcV
  rcases Nat.lt_or_ge j l.length with hj | hj
  · have c1 : decide (j < l.length) = true := by simpa using hj
    have w1 := wrap_i64s j (by omega)
    have w2 := wrap_i64s n (by omega)
    have he : (l.map rnC)[j]? = some (rnC l[j]) := rrows_at hj
    rw [List.drop_eq_getElem_cons hj, List.countP_cons] at h3
    generalize l[j] = e at *
    simp -implicitDefEqProofs only [sims.1, fx.1, tick_on, calleeK, List.getElem?_toArray, extractV, oneV, faddrK, nonnil, b_shr, b_shl, eq_self, beq_self_eq_true, fieldK, Option.bind_some, Option.map_some, Option.bind_none, Option.map_none, List.map_cons, List.map_nil, List.getD_cons_zero, List.getD_cons_succ, List.getD_nil, List.length_nil, List.length_cons, List.length_set, List.nil_append, List.cons_append, List.append_nil, List.getElem?_cons_zero, List.getElem?_cons_succ, List.getElem?_nil, List.set_cons_zero, List.set_cons_succ, Nat.reduceAdd, Nat.zero_add, Nat.add_zero, Nat.mul_one, Nat.mul_zero, Nat.zero_mul, Nat.reduceMul, Nat.reduceSub, Nat.reduceEqDiff, Nat.reduceLT, Nat.reduceLeDiff, Nat.reduceBEq, Nat.reduceBNe, Nat.succ_ne_self, reduceIte, if_true, if_false, ite_self, decide_true, decide_false, Bool.not_true, Bool.not_false, Bool.and_true, Bool.true_and, Bool.and_false, Bool.false_and, Bool.or_true, Bool.true_or, Bool.or_false, Bool.false_or, cond_true, cond_false, Int.reduceEq, Int.reduceLT, Int.reduceLE, Int.reduceNe, Int.reduceToNat, ltNat, c1, rl1, lns64]
    refine w_quiet ?_
    cases hf : e.full
    · simp -implicitDefEqProofs only [sims.1, fx.1, tick_on, calleeK, List.getElem?_toArray, extractV, oneV, faddrK, nonnil, b_shr, b_shl, eq_self, beq_self_eq_true, fieldK, Option.bind_some, Option.map_some, Option.bind_none, Option.map_none, List.map_cons, List.map_nil, List.getD_cons_zero, List.getD_cons_succ, List.getD_nil, List.length_nil, List.length_cons, List.length_set, List.nil_append, List.cons_append, List.append_nil, List.getElem?_cons_zero, List.getElem?_cons_succ, List.getElem?_nil, List.set_cons_zero, List.set_cons_succ, Nat.reduceAdd, Nat.zero_add, Nat.add_zero, Nat.mul_one, Nat.mul_zero, Nat.zero_mul, Nat.reduceMul, Nat.reduceSub, Nat.reduceEqDiff, Nat.reduceLT, Nat.reduceLeDiff, Nat.reduceBEq, Nat.reduceBNe, Nat.succ_ne_self, reduceIte, if_true, if_false, ite_self, decide_true, decide_false, Bool.not_true, Bool.not_false, Bool.and_true, Bool.true_and, Bool.and_false, Bool.false_and, Bool.or_true, Bool.true_or, Bool.or_false, Bool.false_or, cond_true, cond_false, Int.reduceEq, Int.reduceLT, Int.reduceLE, Int.reduceNe, Int.reduceToNat, rl1, rl2, iaS hj, loadK_ep, he, rc0, hf, w1]
      have hnew : new t e = false := by simp [new, hf]
      rw [hnew] at h3
      exact ⟨(j + 1, n), canR0 (ex := []) [.ptr 0 0, .int .i64 ((j + 1 : Nat) : Int), .int .i64 (n : Int)] (by kernel_rfl) (by kernel_rfl) rfl (by kernel_rfl) (by kernel_rfl), ⟨by simp only; omega, by simp only; omega, by simp only; simpa using h3⟩, by simp only; omega⟩
    cases ht : decide (e.turn = t)
    · simp -implicitDefEqProofs only [sims.1, fx.1, tick_on, calleeK, List.getElem?_toArray, extractV, oneV, faddrK, nonnil, b_shr, b_shl, eq_self, beq_self_eq_true, fieldK, Option.bind_some, Option.map_some, Option.bind_none, Option.map_none, List.map_cons, List.map_nil, List.getD_cons_zero, List.getD_cons_succ, List.getD_nil, List.length_nil, List.length_cons, List.length_set, List.nil_append, List.cons_append, List.append_nil, List.getElem?_cons_zero, List.getElem?_cons_succ, List.getElem?_nil, List.set_cons_zero, List.set_cons_succ, Nat.reduceAdd, Nat.zero_add, Nat.add_zero, Nat.mul_one, Nat.mul_zero, Nat.zero_mul, Nat.reduceMul, Nat.reduceSub, Nat.reduceEqDiff, Nat.reduceLT, Nat.reduceLeDiff, Nat.reduceBEq, Nat.reduceBNe, Nat.succ_ne_self, reduceIte, if_true, if_false, ite_self, decide_true, decide_false, Bool.not_true, Bool.not_false, Bool.and_true, Bool.true_and, Bool.and_false, Bool.false_and, Bool.or_true, Bool.true_or, Bool.or_false, Bool.false_or, cond_true, cond_false, Int.reduceEq, Int.reduceLT, Int.reduceLE, Int.reduceNe, Int.reduceToNat, rl1, rl2, iaS hj, loadK_ep, he, rc0, hf, rc13, eqNat, ht, w1]
      have hnew : new t e = false := by simp [new, hf, ht]
      rw [hnew] at h3
      exact ⟨(j + 1, n), canR0 (ex := []) [.ptr 0 0, .int .i64 ((j + 1 : Nat) : Int), .int .i64 (n : Int)] (by kernel_rfl) (by kernel_rfl) rfl (by kernel_rfl) (by kernel_rfl), ⟨by simp only; omega, by simp only; omega, by simp only; simpa using h3⟩, by simp only; omega⟩
    · simp -implicitDefEqProofs only [sims.1, fx.1, tick_on, calleeK, List.getElem?_toArray, extractV, oneV, faddrK, nonnil, b_shr, b_shl, eq_self, beq_self_eq_true, fieldK, Option.bind_some, Option.map_some, Option.bind_none, Option.map_none, List.map_cons, List.map_nil, List.getD_cons_zero, List.getD_cons_succ, List.getD_nil, List.length_nil, List.length_cons, List.length_set, List.nil_append, List.cons_append, List.append_nil, List.getElem?_cons_zero, List.getElem?_cons_succ, List.getElem?_nil, List.set_cons_zero, List.set_cons_succ, Nat.reduceAdd, Nat.zero_add, Nat.add_zero, Nat.mul_one, Nat.mul_zero, Nat.zero_mul, Nat.reduceMul, Nat.reduceSub, Nat.reduceEqDiff, Nat.reduceLT, Nat.reduceLeDiff, Nat.reduceBEq, Nat.reduceBNe, Nat.succ_ne_self, reduceIte, if_true, if_false, ite_self, decide_true, decide_false, Bool.not_true, Bool.not_false, Bool.and_true, Bool.true_and, Bool.and_false, Bool.false_and, Bool.or_true, Bool.true_or, Bool.or_false, Bool.false_or, cond_true, cond_false, Int.reduceEq, Int.reduceLT, Int.reduceLE, Int.reduceNe, Int.reduceToNat, rl1, rl2, iaS hj, loadK_ep, he, rc0, hf, rc13, eqNat, ht, w1, w2]
      have hnew : new t e = true := by simp [new, hf, ht]
      rw [hnew] at h3
      simp only [if_true] at h3
      exact ⟨(j + 1, n + 1), canR0 (ex := []) [.ptr 0 0, .int .i64 ((j + 1 : Nat) : Int), .int .i64 ((n + 1 : Nat) : Int)] (by kernel_rfl) (by kernel_rfl) rfl (by kernel_rfl) (by kernel_rfl), ⟨by simp only; omega, by simp only; omega, by simp only; omega⟩, by simp only; omega⟩
  · have c1 : decide (j < l.length) = false := by simp; omega
    rw [List.drop_eq_nil_of_le hj] at h3
    simp only [List.countP_nil, Nat.add_zero] at h3
    subst h3
    simp -implicitDefEqProofs only [sims.1, fx.1, tick_on, calleeK, List.getElem?_toArray, extractV, oneV, faddrK, nonnil, b_shr, b_shl, eq_self, beq_self_eq_true, fieldK, Option.bind_some, Option.map_some, Option.bind_none, Option.map_none, List.map_cons, List.map_nil, List.getD_cons_zero, List.getD_cons_succ, List.getD_nil, List.length_nil, List.length_cons, List.length_set, List.nil_append, List.cons_append, List.append_nil, List.getElem?_cons_zero, List.getElem?_cons_succ, List.getElem?_nil, List.set_cons_zero, List.set_cons_succ, Nat.reduceAdd, Nat.zero_add, Nat.add_zero, Nat.mul_one, Nat.mul_zero, Nat.zero_mul, Nat.reduceMul, Nat.reduceSub, Nat.reduceEqDiff, Nat.reduceLT, Nat.reduceLeDiff, Nat.reduceBEq, Nat.reduceBNe, Nat.succ_ne_self, reduceIte, if_true, if_false, ite_self, decide_true, decide_false, Bool.not_true, Bool.not_false, Bool.and_true, Bool.true_and, Bool.and_false, Bool.false_and, Bool.or_true, Bool.true_or, Bool.or_false, Bool.false_or, cond_true, cond_false, Int.reduceEq, Int.reduceLT, Int.reduceLE, Int.reduceNe, Int.reduceToNat, ltNat, c1, rl1, lns64]
    exact ⟨_, _, mkEnv [], _, rfl, rfl, canR (l := l) (t := t) (hd := hd) [], rfl⟩

theorem ze72 : zeroE Try.prog 72 = some (rnC e0, 15, 120) := by kernel_rfl
theorem un64 : Try.prog.underlying 64 = some (.slice 72) := by kernel_rfl
theorem bu66 (n k : Nat) : buildV Try.prog 66 [(0, .sl 15 k 0 n)] = some (.agg [.sl 15 k 0 n, .int .i64 0, .int .i64 0]) := by kernel_rfl
theorem szE2 (s : Int) : max 0 (min s 1024) = (sz s : Int) := by unfold sz; omega
theorem mk64 (m : Mem) (n : Nat) (h : n ≤ 1024) : makeSliceV Try.prog 64 (.int .i64 (n : Int)) (.int .i64 (n : Int)) m = some (.sl 15 m.length 0 n, m ++ [.row 72 15 ((List.replicate n e0).map rnC)]) := by
  simp only [makeSliceV, un64, ze72]
  rw [if_pos ⟨by trivial, by omega, by omega, by omega⟩]
  simp
theorem snd28 (s : Int) : Snd Try.prog 28 [.int .i64 s] [] fun r => r = .ret (.ptr 0 0) (rcM (List.replicate (sz s) e0) 0 0) := by
  refine Snd_trim2 (Snd_of_W fol rfl rfl (by kernel_rfl) (by kernel_rfl) ?_)
  have hs := sz_le s
  simp -implicitDefEqProofs only [sims.1, fx.1, tick_on, calleeK, List.getElem?_toArray, extractV, oneV, faddrK, nonnil, b_shr, b_shl, eq_self, beq_self_eq_true, fieldK, Option.bind_some, Option.map_some, Option.bind_none, Option.map_none, List.map_cons, List.map_nil, List.getD_cons_zero, List.getD_cons_succ, List.getD_nil, List.length_nil, List.length_cons, List.length_set, List.nil_append, List.cons_append, List.append_nil, List.getElem?_cons_zero, List.getElem?_cons_succ, List.getElem?_nil, List.set_cons_zero, List.set_cons_succ, Nat.reduceAdd, Nat.zero_add, Nat.add_zero, Nat.mul_one, Nat.mul_zero, Nat.zero_mul, Nat.reduceMul, Nat.reduceSub, Nat.reduceEqDiff, Nat.reduceLT, Nat.reduceLeDiff, Nat.reduceBEq, Nat.reduceBNe, Nat.succ_ne_self, reduceIte, if_true, if_false, ite_self, decide_true, decide_false, Bool.not_true, Bool.not_false, Bool.and_true, Bool.true_and, Bool.and_false, Bool.false_and, Bool.or_true, Bool.true_or, Bool.or_false, Bool.false_or, cond_true, cond_false, Int.reduceEq, Int.reduceLT, Int.reduceLE, Int.reduceNe, Int.reduceToNat, minS, maxS, szE2, mk64 _ _ hs, bu66]
  refine ⟨_, _, _, [.var 66 [.sl 15 1 0 (sz s), .int .i64 0, .int .i64 0], .row 72 15 ((List.replicate (sz s) e0).map rnC)], rfl, canon_of [.ptr 1 0] [1, 0] (by kernel_rfl) (by kernel_rfl) rfl ?_ rfl rfl (by kernel_rfl), ?_⟩
  · rw [closedG rfl]
    · rfl
    · intro n hn
      simp only [List.mem_cons, List.not_mem_nil, or_false] at hn
      rcases hn with rfl | rfl
      · exact ⟨_, rfl, rfl⟩
      · exact ⟨_, rfl, inR _ _⟩
  · simp only [rcM, rcV, List.length_replicate]
    rfl
end Go.Proofs.Ytnhejkfbnjopjaa
