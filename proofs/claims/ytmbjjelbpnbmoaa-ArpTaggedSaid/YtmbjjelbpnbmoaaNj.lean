/- Numbers read out of bytes, by the reference. No condition. -/
import Derived.Test.YtmbjjelbpnbmoaaNi
namespace Go.Proofs.Ytmbjjelbpnbmoaa
open Go Ab
set_option linter.unusedSimpArgs false
set_option linter.unusedVariables false
set_option maxRecDepth 20000

theorem wrap_i64a (a j : Nat) (h : a + j < 9223372036854775807) : IntKind.i64.wrap ((a : Int) + (j : Int)) = ((a + j : Nat) : Int) := by
  rw [IntKind.wrap_i64]; omega
set_option maxHeartbeats 1000000 in
theorem ans32 (l : List Nat) (a n : Nat) (hb : ∀ b ∈ l, b < 256) (hn : n ≤ 7) (h : a + n ≤ l.length) (hl : l.length < 281474976710656) : Ans Try.prog 32 [byV l, .int .i64 (a : Int), .int .i64 (n : Int)] (.int .u64 (num ((l.drop a).take n) : Int)) := by
  refine Snd_of_W fol rfl rfl (by kernel_rfl) (by kernel_rfl) ?_
  simp -implicitDefEqProofs only [sims.1, fx.1, tick_on, calleeK, List.getElem?_toArray, extractV, oneV, faddrK, nonnil, b_shr, b_shl, eq_self, beq_self_eq_true, fieldK, Option.bind_some, Option.map_some, Option.bind_none, Option.map_none, List.map_cons, List.map_nil, List.getD_cons_zero, List.getD_cons_succ, List.getD_nil, List.length_nil, List.length_cons, List.length_set, List.nil_append, List.cons_append, List.append_nil, List.getElem?_cons_zero, List.getElem?_cons_succ, List.getElem?_nil, List.set_cons_zero, List.set_cons_succ, Nat.reduceAdd, Nat.zero_add, Nat.add_zero, Nat.mul_one, Nat.mul_zero, Nat.zero_mul, Nat.reduceMul, Nat.reduceSub, Nat.reduceEqDiff, Nat.reduceLT, Nat.reduceLeDiff, Nat.reduceBEq, Nat.reduceBNe, Nat.succ_ne_self, reduceIte, if_true, if_false, ite_self, decide_true, decide_false, Bool.not_true, Bool.not_false, Bool.and_true, Bool.true_and, Bool.and_false, Bool.false_and, Bool.or_true, Bool.true_or, Bool.or_false, Bool.false_or, cond_true, cond_false, Int.reduceEq, Int.reduceLT, Int.reduceLE, Int.reduceNe, Int.reduceToNat]
  have hb2 : ∀ b ∈ l.drop a, b < 256 := fun b h => hb b (List.mem_of_mem_drop h)
  refine W_loop (fun j : Nat => (mkEnv [(2, .int .i64 (n : Int)), (0, byV l), (1, .int .i64 (a : Int)), (8, .int .i64 (j : Int)), (7, .int .u64 (num ((l.drop a).take j) : Int))], [])) (fun j => j ≤ n) (fun j => n + 1 - j) 0
    (canon_nil [.int .i64 (n : Int), byV l, .int .i64 (a : Int), .int .i64 0, .int .u64 0] (by kernel_rfl) (by simp only [nfs, nf_by]; rfl) (by kernel_rfl)) (by omega) ?_
  intro j h1
  rcases Nat.lt_or_ge j n with hj | hj
  · have c1 : decide (j < n) = true := by simpa using hj
    have w1 := wrap_i64s j (by omega)
    have w2 := wrap_i64a a j (by omega)
    have hjl : j < (l.drop a).length := by simp; omega
    have io : ∀ {kk : IntKind}, iaddrS 1 (byV l) (.int kk ((a + j : Nat) : Int)) = some (.ip (byC (l.drop a)[j])) := fun {kk} => by
      rw [ia_by (by omega)]
      simp
    have hx : num ((l.drop a).take j) < 72057594037927936 := by
      have h2 := num_lt hb2 j
      have h3 : 256 ^ j ≤ 256 ^ 6 := Nat.pow_le_pow_right (by omega) (by omega)
      omega
    have hbj := hb2 _ (List.getElem_mem hjl)
    have x1 := shl8 _ hx
    have x2 := wrapB _ hbj
    have x3 := or8 _ _ hx hbj
    rw [← num_take hjl] at x3
    simp -implicitDefEqProofs only [sims.1, fx.1, tick_on, calleeK, List.getElem?_toArray, extractV, oneV, faddrK, nonnil, b_shr, b_shl, eq_self, beq_self_eq_true, fieldK, Option.bind_some, Option.map_some, Option.bind_none, Option.map_none, List.map_cons, List.map_nil, List.getD_cons_zero, List.getD_cons_succ, List.getD_nil, List.length_nil, List.length_cons, List.length_set, List.nil_append, List.cons_append, List.append_nil, List.getElem?_cons_zero, List.getElem?_cons_succ, List.getElem?_nil, List.set_cons_zero, List.set_cons_succ, Nat.reduceAdd, Nat.zero_add, Nat.add_zero, Nat.mul_one, Nat.mul_zero, Nat.zero_mul, Nat.reduceMul, Nat.reduceSub, Nat.reduceEqDiff, Nat.reduceLT, Nat.reduceLeDiff, Nat.reduceBEq, Nat.reduceBNe, Nat.succ_ne_self, reduceIte, if_true, if_false, ite_self, decide_true, decide_false, Bool.not_true, Bool.not_false, Bool.and_true, Bool.true_and, Bool.and_false, Bool.false_and, Bool.or_true, Bool.true_or, Bool.or_false, Bool.false_or, cond_true, cond_false, Int.reduceEq, Int.reduceLT, Int.reduceLE, Int.reduceNe, Int.reduceToNat, ltNat, c1, w2, io, by0, x1, x2, x3, w1]
    exact ⟨j + 1, canon_nil [.int .i64 (n : Int), byV l, .int .i64 (a : Int), .int .i64 ((j + 1 : Nat) : Int), .int .u64 (num ((l.drop a).take (j + 1)) : Int)] (by kernel_rfl) (by simp only [nfs, nf_by]; rfl) (by kernel_rfl), by omega, by omega⟩
  · obtain rfl : j = n := by omega
    have c1 : decide (j < j) = false := by simp
    simp -implicitDefEqProofs only [sims.1, fx.1, tick_on, calleeK, List.getElem?_toArray, extractV, oneV, faddrK, nonnil, b_shr, b_shl, eq_self, beq_self_eq_true, fieldK, Option.bind_some, Option.map_some, Option.bind_none, Option.map_none, List.map_cons, List.map_nil, List.getD_cons_zero, List.getD_cons_succ, List.getD_nil, List.length_nil, List.length_cons, List.length_set, List.nil_append, List.cons_append, List.append_nil, List.getElem?_cons_zero, List.getElem?_cons_succ, List.getElem?_nil, List.set_cons_zero, List.set_cons_succ, Nat.reduceAdd, Nat.zero_add, Nat.add_zero, Nat.mul_one, Nat.mul_zero, Nat.zero_mul, Nat.reduceMul, Nat.reduceSub, Nat.reduceEqDiff, Nat.reduceLT, Nat.reduceLeDiff, Nat.reduceBEq, Nat.reduceBNe, Nat.succ_ne_self, reduceIte, if_true, if_false, ite_self, decide_true, decide_false, Bool.not_true, Bool.not_false, Bool.and_true, Bool.true_and, Bool.and_false, Bool.false_and, Bool.or_true, Bool.true_or, Bool.or_false, Bool.false_or, cond_true, cond_false, Int.reduceEq, Int.reduceLT, Int.reduceLE, Int.reduceNe, Int.reduceToNat, ltNat, c1]
    exact ans_ret rfl
end Go.Proofs.Ytmbjjelbpnbmoaa
