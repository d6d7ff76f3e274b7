/- Whether a port is one of those that there are, as both packages tell it. No condition. -/
import Derived.Test.YtaoaaffddillmaaLg
import Derived.Test.YtaoaaffddillmaaAm8
namespace Go.Proofs.Ytaoaaffddillmaa
open Go Ab
set_option linter.unusedSimpArgs false
set_option linter.unusedVariables false
set_option maxRecDepth 20000

def ptC (p : Nat) : List V := [.int .u16 (p : Int)]
def ptV (ps : List Nat) : V := .isl 1 (ps.map ptC)
def wfP (ps : List Nat) : Prop := ps.length < lim ∧ ∀ p ∈ ps, p < 65536
theorem nfs_ptC : ∀ ps : List Nat, nfss (ps.map ptC) = true
  | [] => rfl
  | p :: r => by simp [nfss, nfs, nf, ptC, nfs_ptC r]
theorem nf_pt (ps : List Nat) : nf (ptV ps) = true := by
  simp only [nf, ptV]
  exact nfs_ptC ps
theorem len_pt (m : Mem) (ps : List Nat) : lenV Try.prog m 35 (ptV ps) = some (.int .i64 (ps.length : Int)) := by unfold ptV; rw [lni35, List.length_map]
theorem ia_pt {ps : List Nat} {j : Nat} {k : IntKind} (h : j < ps.length) : iaddrS 1 (ptV ps) (.int k (j : Int)) = some (.ip (ptC ps[j])) := iaddrS_isl (by simp [h])
theorem part_pt (p : Nat) : partK false 1 (ptC p) 0 = some (.int .u16 (p : Int)) := rfl
theorem get_pt (p : Nat) : (ptC p)[0]? = some (.int .u16 (p : Int)) := rfl

def hasP (ps : List Nat) (n : Nat) : Bool := ps.any fun p => decide (p = n)
theorem wrap_u64p (p : Nat) (h : p < 65536) : IntKind.u64.wrap (p : Int) = (p : Int) := by
  simp [IntKind.wrap, IntKind.bits, IntKind.signed]; omega

theorem hasP_not {ps : List Nat} {n : Nat} (h : ∀ i (h1 : i < ps.length), ps[i] ≠ n) : hasP ps n = false := by
  unfold hasP
  rw [List.any_eq_false]
  intro p hp
  obtain ⟨i, hi, rfl⟩ := List.getElem_of_mem hp
  simpa using h i hi
theorem hasP_at {ps : List Nat} {n i : Nat} (hi : i < ps.length) (h : ps[i] = n) : hasP ps n = true := by
  unfold hasP
  rw [List.any_eq_true]
  exact ⟨ps[i], List.getElem_mem hi, by simp [h]⟩

theorem ans28 (ps : List Nat) (n : Nat) (hp : wfP ps) : Ans Try.prog 28 [ptV ps, .int .u64 (n : Int)] (.bool (hasP ps n)) := by
  refine Snd_of_W fol rfl rfl (by kernel_rfl) (by kernel_rfl) ?_
  have hl : ps.length < 281474976710656 := hp.1
  simp -implicitDefEqProofs only [sims.1, fx.1, tick_on, calleeK, List.getElem?_toArray, extractV, oneV, faddrK, nonnil, b_shr, b_shl, eq_self, beq_self_eq_true, fieldK, Option.bind_some, Option.map_some, Option.bind_none, Option.map_none, List.map_cons, List.map_nil, List.getD_cons_zero, List.getD_cons_succ, List.getD_nil, List.length_nil, List.length_cons, List.length_set, List.nil_append, List.cons_append, List.append_nil, List.getElem?_cons_zero, List.getElem?_cons_succ, List.getElem?_nil, List.set_cons_zero, List.set_cons_succ, Nat.reduceAdd, Nat.zero_add, Nat.add_zero, Nat.mul_one, Nat.mul_zero, Nat.zero_mul, Nat.reduceMul, Nat.reduceSub, Nat.reduceEqDiff, Nat.reduceLT, Nat.reduceLeDiff, Nat.reduceBEq, Nat.reduceBNe, Nat.succ_ne_self, reduceIte, if_true, if_false, ite_self, decide_true, decide_false, Bool.not_true, Bool.not_false, Bool.and_true, Bool.true_and, Bool.and_false, Bool.false_and, Bool.or_true, Bool.true_or, Bool.or_false, Bool.false_or, cond_true, cond_false, Int.reduceEq, Int.reduceLT, Int.reduceLE, Int.reduceNe, Int.reduceToNat, len_pt]
  refine W_loop (fun j : Nat => (mkEnv [(0, ptV ps), (1, .int .u64 (n : Int)), (5, .int .i64 (j : Int))], []))
    (fun j => j ≤ ps.length ∧ ∀ i (h1 : i < ps.length), i < j → ps[i] ≠ n) (fun j => ps.length + 1 - j) 0
    (canon_nil [ptV ps, .int .u64 (n : Int), .int .i64 0] (by kernel_rfl) (nfs_cons (nf_pt ps) rfl) (by kernel_rfl)) ⟨by omega, by omega⟩ ?_
  rintro j ⟨h1, h2⟩
  rcases Nat.lt_or_ge j ps.length with hj | hj
  · have c1 : decide (j < ps.length) = true := by simpa using hj
    have w1 := wrap_u64p ps[j] (hp.2 _ (List.getElem_mem hj))
    have w2 := wrap_i64s j (by omega)
    cases e1 : decide (ps[j] = n)
    · simp -implicitDefEqProofs only [sims.1, fx.1, tick_on, calleeK, List.getElem?_toArray, extractV, oneV, faddrK, nonnil, b_shr, b_shl, eq_self, beq_self_eq_true, fieldK, Option.bind_some, Option.map_some, Option.bind_none, Option.map_none, List.map_cons, List.map_nil, List.getD_cons_zero, List.getD_cons_succ, List.getD_nil, List.length_nil, List.length_cons, List.length_set, List.nil_append, List.cons_append, List.append_nil, List.getElem?_cons_zero, List.getElem?_cons_succ, List.getElem?_nil, List.set_cons_zero, List.set_cons_succ, Nat.reduceAdd, Nat.zero_add, Nat.add_zero, Nat.mul_one, Nat.mul_zero, Nat.zero_mul, Nat.reduceMul, Nat.reduceSub, Nat.reduceEqDiff, Nat.reduceLT, Nat.reduceLeDiff, Nat.reduceBEq, Nat.reduceBNe, Nat.succ_ne_self, reduceIte, if_true, if_false, ite_self, decide_true, decide_false, Bool.not_true, Bool.not_false, Bool.and_true, Bool.true_and, Bool.and_false, Bool.false_and, Bool.or_true, Bool.true_or, Bool.or_false, Bool.false_or, cond_true, cond_false, Int.reduceEq, Int.reduceLT, Int.reduceLE, Int.reduceNe, Int.reduceToNat, len_pt, ltNat, c1, ia_pt hj, part_pt, get_pt, w1, eqNat, e1, w2]
      refine ⟨j + 1, canon_nil [ptV ps, .int .u64 (n : Int), .int .i64 ((j + 1 : Nat) : Int)] (by kernel_rfl) (nfs_cons (nf_pt ps) rfl) (by kernel_rfl), ⟨by omega, fun i k1 k2 => ?_⟩, by omega⟩
      rcases Nat.lt_or_ge i j with h3 | h3
      · exact h2 i k1 h3
      · have : i = j := by omega
        subst this
        simpa using e1
    · simp -implicitDefEqProofs only [sims.1, fx.1, tick_on, calleeK, List.getElem?_toArray, extractV, oneV, faddrK, nonnil, b_shr, b_shl, eq_self, beq_self_eq_true, fieldK, Option.bind_some, Option.map_some, Option.bind_none, Option.map_none, List.map_cons, List.map_nil, List.getD_cons_zero, List.getD_cons_succ, List.getD_nil, List.length_nil, List.length_cons, List.length_set, List.nil_append, List.cons_append, List.append_nil, List.getElem?_cons_zero, List.getElem?_cons_succ, List.getElem?_nil, List.set_cons_zero, List.set_cons_succ, Nat.reduceAdd, Nat.zero_add, Nat.add_zero, Nat.mul_one, Nat.mul_zero, Nat.zero_mul, Nat.reduceMul, Nat.reduceSub, Nat.reduceEqDiff, Nat.reduceLT, Nat.reduceLeDiff, Nat.reduceBEq, Nat.reduceBNe, Nat.succ_ne_self, reduceIte, if_true, if_false, ite_self, decide_true, decide_false, Bool.not_true, Bool.not_false, Bool.and_true, Bool.true_and, Bool.and_false, Bool.false_and, Bool.or_true, Bool.true_or, Bool.or_false, Bool.false_or, cond_true, cond_false, Int.reduceEq, Int.reduceLT, Int.reduceLE, Int.reduceNe, Int.reduceToNat, len_pt, ltNat, c1, ia_pt hj, part_pt, get_pt, w1, eqNat, e1]
      refine ans_ret ?_
      rw [hasP_at hj (by simpa using e1)]
  · have c1 : decide (j < ps.length) = false := by simp; omega
    simp -implicitDefEqProofs only [sims.1, fx.1, tick_on, calleeK, List.getElem?_toArray, extractV, oneV, faddrK, nonnil, b_shr, b_shl, eq_self, beq_self_eq_true, fieldK, Option.bind_some, Option.map_some, Option.bind_none, Option.map_none, List.map_cons, List.map_nil, List.getD_cons_zero, List.getD_cons_succ, List.getD_nil, List.length_nil, List.length_cons, List.length_set, List.nil_append, List.cons_append, List.append_nil, List.getElem?_cons_zero, List.getElem?_cons_succ, List.getElem?_nil, List.set_cons_zero, List.set_cons_succ, Nat.reduceAdd, Nat.zero_add, Nat.add_zero, Nat.mul_one, Nat.mul_zero, Nat.zero_mul, Nat.reduceMul, Nat.reduceSub, Nat.reduceEqDiff, Nat.reduceLT, Nat.reduceLeDiff, Nat.reduceBEq, Nat.reduceBNe, Nat.succ_ne_self, reduceIte, if_true, if_false, ite_self, decide_true, decide_false, Bool.not_true, Bool.not_false, Bool.and_true, Bool.true_and, Bool.and_false, Bool.false_and, Bool.or_true, Bool.true_or, Bool.or_false, Bool.false_or, cond_true, cond_false, Int.reduceEq, Int.reduceLT, Int.reduceLE, Int.reduceNe, Int.reduceToNat, len_pt, ltNat, c1]
    refine ans_ret ?_
    rw [hasP_not fun i hi => h2 i hi (by omega)]

def ixP (n : Nat) (ps : List Nat) : Int := if hasP ps n then (ps.findIdx fun p => decide (p = n) : Nat) else -1
theorem ixP_at {ps : List Nat} {n j : Nat} (hj : j < ps.length) (h : ps[j] = n) (h2 : ∀ i (h1 : i < ps.length), i < j → ps[i] ≠ n) : ixP n ps = (j : Int) := by
  unfold ixP
  rw [if_pos (hasP_at hj h)]
  congr 1
  rw [List.findIdx_eq hj]
  exact ⟨by simp [h], fun i hi => by simpa using h2 i (by omega) hi⟩

theorem ans35 (ps : List Nat) (n : Nat) (hp : wfP ps) : Ans Try.prog 35 [ptV ps, .int .u16 (n : Int)] (.int .i64 (ixP n ps)) := by
  refine Snd_of_W fol rfl rfl (by kernel_rfl) (by kernel_rfl) ?_
  have hl : ps.length < 281474976710656 := hp.1
  simp -implicitDefEqProofs only [sims.1, fx.1, tick_on, calleeK, List.getElem?_toArray, extractV, oneV, faddrK, nonnil, b_shr, b_shl, eq_self, beq_self_eq_true, fieldK, Option.bind_some, Option.map_some, Option.bind_none, Option.map_none, List.map_cons, List.map_nil, List.getD_cons_zero, List.getD_cons_succ, List.getD_nil, List.length_nil, List.length_cons, List.length_set, List.nil_append, List.cons_append, List.append_nil, List.getElem?_cons_zero, List.getElem?_cons_succ, List.getElem?_nil, List.set_cons_zero, List.set_cons_succ, Nat.reduceAdd, Nat.zero_add, Nat.add_zero, Nat.mul_one, Nat.mul_zero, Nat.zero_mul, Nat.reduceMul, Nat.reduceSub, Nat.reduceEqDiff, Nat.reduceLT, Nat.reduceLeDiff, Nat.reduceBEq, Nat.reduceBNe, Nat.succ_ne_self, reduceIte, if_true, if_false, ite_self, decide_true, decide_false, Bool.not_true, Bool.not_false, Bool.and_true, Bool.true_and, Bool.and_false, Bool.false_and, Bool.or_true, Bool.true_or, Bool.or_false, Bool.false_or, cond_true, cond_false, Int.reduceEq, Int.reduceLT, Int.reduceLE, Int.reduceNe, Int.reduceToNat, len_pt]
  refine W_loop (fun j : Nat => (mkEnv [(7, .int .i64 (ps.length : Int)), (1, .int .u16 (n : Int)), (0, ptV ps), (8, .int .i64 (j : Int))], []))
    (fun j => j ≤ ps.length ∧ ∀ i (h1 : i < ps.length), i < j → ps[i] ≠ n) (fun j => ps.length + 1 - j) 0
    (canon_nil [.int .i64 (ps.length : Int), .int .u16 (n : Int), ptV ps, .int .i64 0] (by kernel_rfl) (nfs_cons rfl (nfs_cons rfl (nfs_cons (nf_pt ps) rfl))) (by kernel_rfl)) ⟨by omega, by omega⟩ ?_
  rintro j ⟨h1, h2⟩
  rcases Nat.lt_or_ge j ps.length with hj | hj
  · have c1 : decide (j < ps.length) = true := by simpa using hj
    have w2 := wrap_i64s j (by omega)
    cases e1 : decide (n = ps[j])
    · simp -implicitDefEqProofs only [sims.1, fx.1, tick_on, calleeK, List.getElem?_toArray, extractV, oneV, faddrK, nonnil, b_shr, b_shl, eq_self, beq_self_eq_true, fieldK, Option.bind_some, Option.map_some, Option.bind_none, Option.map_none, List.map_cons, List.map_nil, List.getD_cons_zero, List.getD_cons_succ, List.getD_nil, List.length_nil, List.length_cons, List.length_set, List.nil_append, List.cons_append, List.append_nil, List.getElem?_cons_zero, List.getElem?_cons_succ, List.getElem?_nil, List.set_cons_zero, List.set_cons_succ, Nat.reduceAdd, Nat.zero_add, Nat.add_zero, Nat.mul_one, Nat.mul_zero, Nat.zero_mul, Nat.reduceMul, Nat.reduceSub, Nat.reduceEqDiff, Nat.reduceLT, Nat.reduceLeDiff, Nat.reduceBEq, Nat.reduceBNe, Nat.succ_ne_self, reduceIte, if_true, if_false, ite_self, decide_true, decide_false, Bool.not_true, Bool.not_false, Bool.and_true, Bool.true_and, Bool.and_false, Bool.false_and, Bool.or_true, Bool.true_or, Bool.or_false, Bool.false_or, cond_true, cond_false, Int.reduceEq, Int.reduceLT, Int.reduceLE, Int.reduceNe, Int.reduceToNat, ltNat, c1, ia_pt hj, part_pt, get_pt, eqNat, e1, w2]
      refine ⟨j + 1, canon_nil [.int .i64 (ps.length : Int), .int .u16 (n : Int), ptV ps, .int .i64 ((j + 1 : Nat) : Int)] (by kernel_rfl) (nfs_cons rfl (nfs_cons rfl (nfs_cons (nf_pt ps) rfl))) (by kernel_rfl), ⟨by omega, fun i k1 k2 => ?_⟩, by omega⟩
      rcases Nat.lt_or_ge i j with h3 | h3
      · exact h2 i k1 h3
      · have : i = j := by omega
        subst this
        intro h
        simp [h] at e1
    · simp -implicitDefEqProofs only [sims.1, fx.1, tick_on, calleeK, List.getElem?_toArray, extractV, oneV, faddrK, nonnil, b_shr, b_shl, eq_self, beq_self_eq_true, fieldK, Option.bind_some, Option.map_some, Option.bind_none, Option.map_none, List.map_cons, List.map_nil, List.getD_cons_zero, List.getD_cons_succ, List.getD_nil, List.length_nil, List.length_cons, List.length_set, List.nil_append, List.cons_append, List.append_nil, List.getElem?_cons_zero, List.getElem?_cons_succ, List.getElem?_nil, List.set_cons_zero, List.set_cons_succ, Nat.reduceAdd, Nat.zero_add, Nat.add_zero, Nat.mul_one, Nat.mul_zero, Nat.zero_mul, Nat.reduceMul, Nat.reduceSub, Nat.reduceEqDiff, Nat.reduceLT, Nat.reduceLeDiff, Nat.reduceBEq, Nat.reduceBNe, Nat.succ_ne_self, reduceIte, if_true, if_false, ite_self, decide_true, decide_false, Bool.not_true, Bool.not_false, Bool.and_true, Bool.true_and, Bool.and_false, Bool.false_and, Bool.or_true, Bool.true_or, Bool.or_false, Bool.false_or, cond_true, cond_false, Int.reduceEq, Int.reduceLT, Int.reduceLE, Int.reduceNe, Int.reduceToNat, ltNat, c1, ia_pt hj, part_pt, get_pt, eqNat, e1]
      refine ans_ret ?_
      rw [ixP_at hj (by have := of_decide_eq_true e1; omega) h2]
  · have c1 : decide (j < ps.length) = false := by simp; omega
    simp -implicitDefEqProofs only [sims.1, fx.1, tick_on, calleeK, List.getElem?_toArray, extractV, oneV, faddrK, nonnil, b_shr, b_shl, eq_self, beq_self_eq_true, fieldK, Option.bind_some, Option.map_some, Option.bind_none, Option.map_none, List.map_cons, List.map_nil, List.getD_cons_zero, List.getD_cons_succ, List.getD_nil, List.length_nil, List.length_cons, List.length_set, List.nil_append, List.cons_append, List.append_nil, List.getElem?_cons_zero, List.getElem?_cons_succ, List.getElem?_nil, List.set_cons_zero, List.set_cons_succ, Nat.reduceAdd, Nat.zero_add, Nat.add_zero, Nat.mul_one, Nat.mul_zero, Nat.zero_mul, Nat.reduceMul, Nat.reduceSub, Nat.reduceEqDiff, Nat.reduceLT, Nat.reduceLeDiff, Nat.reduceBEq, Nat.reduceBNe, Nat.succ_ne_self, reduceIte, if_true, if_false, ite_self, decide_true, decide_false, Bool.not_true, Bool.not_false, Bool.and_true, Bool.true_and, Bool.and_false, Bool.false_and, Bool.or_true, Bool.true_or, Bool.or_false, Bool.false_or, cond_true, cond_false, Int.reduceEq, Int.reduceLT, Int.reduceLE, Int.reduceNe, Int.reduceToNat, ltNat, c1]
    refine ans_ret ?_
    unfold ixP
    rw [hasP_not fun i hi => h2 i hi (by omega)]
    rfl

theorem ans34 (ps : List Nat) (n : Nat) (hp : wfP ps) : Ans Try.prog 34 [ptV ps, .int .u16 (n : Int)] (.bool (hasP ps n)) := by
  refine Snd_of_W fol rfl rfl (by kernel_rfl) (by kernel_rfl) ?_
  simp -implicitDefEqProofs only [sims.1, fx.1, tick_on, calleeK, List.getElem?_toArray, extractV, oneV, faddrK, nonnil, b_shr, b_shl, eq_self, beq_self_eq_true, fieldK, Option.bind_some, Option.map_some, Option.bind_none, Option.map_none, List.map_cons, List.map_nil, List.getD_cons_zero, List.getD_cons_succ, List.getD_nil, List.length_nil, List.length_cons, List.length_set, List.nil_append, List.cons_append, List.append_nil, List.getElem?_cons_zero, List.getElem?_cons_succ, List.getElem?_nil, List.set_cons_zero, List.set_cons_succ, Nat.reduceAdd, Nat.zero_add, Nat.add_zero, Nat.mul_one, Nat.mul_zero, Nat.zero_mul, Nat.reduceMul, Nat.reduceSub, Nat.reduceEqDiff, Nat.reduceLT, Nat.reduceLeDiff, Nat.reduceBEq, Nat.reduceBNe, Nat.succ_ne_self, reduceIte, if_true, if_false, ite_self, decide_true, decide_false, Bool.not_true, Bool.not_false, Bool.and_true, Bool.true_and, Bool.and_false, Bool.false_and, Bool.or_true, Bool.true_or, Bool.or_false, Bool.false_or, cond_true, cond_false, Int.reduceEq, Int.reduceLT, Int.reduceLE, Int.reduceNe, Int.reduceToNat]
  refine callD_ans (ans35 ps n hp) en35 (nfs_cons (nf_pt ps) rfl) rfl ?_
  have : decide (0 ≤ ixP n ps) = hasP ps n := by
    unfold ixP
    cases hasP ps n <;> simp
  simp -implicitDefEqProofs only [sims.1, fx.1, tick_on, calleeK, List.getElem?_toArray, extractV, oneV, faddrK, nonnil, b_shr, b_shl, eq_self, beq_self_eq_true, fieldK, Option.bind_some, Option.map_some, Option.bind_none, Option.map_none, List.map_cons, List.map_nil, List.getD_cons_zero, List.getD_cons_succ, List.getD_nil, List.length_nil, List.length_cons, List.length_set, List.nil_append, List.cons_append, List.append_nil, List.getElem?_cons_zero, List.getElem?_cons_succ, List.getElem?_nil, List.set_cons_zero, List.set_cons_succ, Nat.reduceAdd, Nat.zero_add, Nat.add_zero, Nat.mul_one, Nat.mul_zero, Nat.zero_mul, Nat.reduceMul, Nat.reduceSub, Nat.reduceEqDiff, Nat.reduceLT, Nat.reduceLeDiff, Nat.reduceBEq, Nat.reduceBNe, Nat.succ_ne_self, reduceIte, if_true, if_false, ite_self, decide_true, decide_false, Bool.not_true, Bool.not_false, Bool.and_true, Bool.true_and, Bool.and_false, Bool.false_and, Bool.or_true, Bool.true_or, Bool.or_false, Bool.false_or, cond_true, cond_false, Int.reduceEq, Int.reduceLT, Int.reduceLE, Int.reduceNe, Int.reduceToNat, this]
  exact ans_ret rfl
end Go.Proofs.Ytaoaaffddillmaa
