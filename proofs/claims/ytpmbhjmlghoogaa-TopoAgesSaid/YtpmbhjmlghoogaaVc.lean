/- A probe that comes as it was sent ties two gates together. No condition. -/
import Derived.Test.YtpmbhjmlghoogaaVb
import Derived.Test.YtpmbhjmlghoogaaVd
namespace Go.Proofs.Ytpmbhjmlghoogaa
open Go Ab
set_option linter.unusedSimpArgs false
set_option linter.unusedVariables false
set_option maxRecDepth 20000

theorem prb_drop (n : Nat) : (prbF n 3 4 0).drop 22 = putB 196612 4 4 ++ putB 0 4 4 := by
  rw [prbF_eq]
  have e : (putB 1652522221582 6 6 ++ putB 0 6 6 ++ putB 34997 2 2) ++ prbB n 3 4 0 = ((putB 1652522221582 6 6 ++ putB 0 6 6 ++ putB 34997 2 2) ++ putB n 8 8) ++ (putB 196612 4 4 ++ putB 0 4 4) := by
    simp only [prbB, List.append_assoc]
  rw [e, List.drop_left' (by simp [putB_len])]
theorem prb_len (n s p t : Nat) : (prbF n s p t).length = 30 := by
  rw [prbF_eq]
  simp [putB_len, prbB_len]
theorem prb_lt (n s p t : Nat) : ∀ b ∈ prbF n s p t, b < 256 := by
  intro b hb
  rw [prbF_eq] at hb
  rcases List.mem_append.1 hb with h | h
  · rcases List.mem_append.1 h with h | h
    · rcases List.mem_append.1 h with h | h <;> exact putB_lt _ _ _ _ h
    · exact putB_lt _ _ _ _ h
  · exact prbB_lt _ _ _ _ _ h
theorem prb_S (n : Nat) : rawS (prbF n 3 4 0) = 3 := by unfold rawS; rw [prb_drop]; decide
theorem prb_P (n : Nat) : rawP (prbF n 3 4 0) = 4 := by
  unfold rawP
  rw [show (24 : Nat) = 22 + 2 from rfl, ← List.drop_drop, prb_drop]
  decide
theorem prb_T (n : Nat) : rawT (prbF n 3 4 0) = 0 := by
  unfold rawT
  rw [show (26 : Nat) = 22 + 4 from rfl, ← List.drop_drop, prb_drop]
  decide
def wrB : List V := [.int .u16 5, .int .u16 6, .int .u16 3, .int .u16 4]
theorem e_max {P : Program} {all : Array Oper} {r : List Oper} {env : Env} {m : Mem} {K : List (Nat × Info × Nat) → Env → Mem → Prop} {d : Option Nat} {ty : TypeId} {pos : String} {af : Array Edge} {k : Nat} {acc : List (Nat × Info × Nat)} {x y : Operand} {ts : Array TypeId} :
    runE P all K k acc (⟨d, .call { callee := .builtin .max, args := #[x, y], argTypes := ts }, ty, pos, af, none⟩ :: r) env m = bindO (minmaxV true (evO env x) (evO env y)) fun v => runE P all K (k + 1) acc r (put env d v) m := e_pure rfl rfl rfl fun _ => rfl
theorem b84a : buildV Try.prog 84 [(0, .agg (spC 5 6)), (1, .agg (spC 3 4))] = some (.agg wrB) := by kernel_rfl
theorem b84b : buildV Try.prog 84 [(0, .agg (spC 3 4)), (1, .agg (spC 5 6))] = some (.agg wrC) := by kernel_rfl
theorem eq30 : eqV Try.prog 30 (.agg (spC 3 4)) (.agg (spC 5 6)) = some false := by kernel_rfl
set_option maxHeartbeats 2000000 in
theorem snd10t {n : Nat} {a : Int} (ha : 1 ≤ a) :
    Snd Try.prog 10 [.ptr 0 0, spA 5 6, byV (prbF n 3 4 0)] (lay n a 0 (gtR gs3) (.map [] [] 0) (.map [] [] 0)) fun r => r = .ret (.bool true) (lay n a 0 (gtR gs3) snM (.map [] [] 0)) := by
  have hraw := prb_lt n 3 4 0
  have hlen := prb_len n 3 4 0
  have hgs : GtOk gs3 := by unfold GtOk; decide
  have hg := nfB_gt gs3 (List.range gs3.length) gs3.length
  have hS : nfB (.map [] [] 0) = true := rfl
  refine Snd_dropW rfl (lay_closed hg rfl hS) rfl ?_
  refine Snd_of_W fol rfl rfl (by kernel_rfl) (by kernel_rfl) ?_
  have pk : ∀ s p, partK true 2 (spC s p) 0 = some (.agg (spC s p)) := fun _ _ => rfl
  have i1 : gtIn gs3 5 6 = true := by decide
  have i2 : gtIn gs3 3 4 = true := by decide
  unfold lay
  simp -implicitDefEqProofs only [sims.1, fx.1, tick_on, calleeK, List.getElem?_toArray, extractV, oneV, faddrK, nonnil, b_shr, b_shl, eq_self, beq_self_eq_true, fieldK, Option.bind_some, Option.map_some, Option.bind_none, Option.map_none, List.map_cons, List.map_nil, List.getD_cons_zero, List.getD_cons_succ, List.getD_nil, List.length_nil, List.length_cons, List.length_set, List.nil_append, List.cons_append, List.append_nil, List.getElem?_cons_zero, List.getElem?_cons_succ, List.getElem?_nil, List.set_cons_zero, List.set_cons_succ, Nat.reduceAdd, Nat.zero_add, Nat.add_zero, Nat.mul_one, Nat.mul_zero, Nat.zero_mul, Nat.reduceMul, Nat.reduceSub, Nat.reduceEqDiff, Nat.reduceLT, Nat.reduceLeDiff, Nat.reduceBEq, Nat.reduceBNe, Nat.succ_ne_self, reduceIte, if_true, if_false, ite_self, decide_true, decide_false, Bool.not_true, Bool.not_false, Bool.and_true, Bool.true_and, Bool.and_false, Bool.false_and, Bool.or_true, Bool.true_or, Bool.or_false, Bool.false_or, cond_true, cond_false, Int.reduceEq, Int.reduceLT, Int.reduceLE, Int.reduceNe, Int.reduceToNat, spA, pk]
  refine callD_lay (snd23 (gs := gs3) (bs := List.range gs3.length) (clk := gs3.length) (by decide : 5 < 65536) (by decide : 6 < 65536) hgs hS hS) en23 hg hS hS rfl rfl rfl rfl rfl rfl rfl ?_
  have c30 : decide (((30 : Nat) : Int) = 30) = true := rfl
  simp -implicitDefEqProofs only [sims.1, fx.1, tick_on, calleeK, List.getElem?_toArray, extractV, oneV, faddrK, nonnil, b_shr, b_shl, eq_self, beq_self_eq_true, fieldK, Option.bind_some, Option.map_some, Option.bind_none, Option.map_none, List.map_cons, List.map_nil, List.getD_cons_zero, List.getD_cons_succ, List.getD_nil, List.length_nil, List.length_cons, List.length_set, List.nil_append, List.cons_append, List.append_nil, List.getElem?_cons_zero, List.getElem?_cons_succ, List.getElem?_nil, List.set_cons_zero, List.set_cons_succ, Nat.reduceAdd, Nat.zero_add, Nat.add_zero, Nat.mul_one, Nat.mul_zero, Nat.zero_mul, Nat.reduceMul, Nat.reduceSub, Nat.reduceEqDiff, Nat.reduceLT, Nat.reduceLeDiff, Nat.reduceBEq, Nat.reduceBNe, Nat.succ_ne_self, reduceIte, if_true, if_false, ite_self, decide_true, decide_false, Bool.not_true, Bool.not_false, Bool.and_true, Bool.true_and, Bool.and_false, Bool.false_and, Bool.or_true, Bool.true_or, Bool.or_false, Bool.false_or, cond_true, cond_false, Int.reduceEq, Int.reduceLT, Int.reduceLE, Int.reduceNe, Int.reduceToNat, len_by, hlen, c30, i1]
  refine w_noisy ?_
  have s1 : sliceV Try.prog 31 (byV (prbF n 3 4 0)) (some (.int .i64 22)) (some (.int .i64 24)) = some (byV (((prbF n 3 4 0).drop 22).take 2)) := sl_mid _ 22 24 (by decide) (by omega)
  have s2 : sliceV Try.prog 31 (byV (prbF n 3 4 0)) (some (.int .i64 24)) (some (.int .i64 26)) = some (byV (((prbF n 3 4 0).drop 24).take 2)) := sl_mid _ 24 26 (by decide) (by omega)
  have s3 : sliceV Try.prog 31 (byV (prbF n 3 4 0)) (some (.int .i64 26)) (some (.int .i64 30)) = some (byV (((prbF n 3 4 0).drop 26).take 4)) := sl_mid _ 26 30 (by decide) (by omega)
  have a1 : Ans Try.prog 24 [byV (((prbF n 3 4 0).drop 22).take 2)] (.int .i64 3) := by
    have := ans24 (((prbF n 3 4 0).drop 22).take 2) (mem_mid hraw 22 2) (by simp; omega)
    rw [show num (((prbF n 3 4 0).drop 22).take 2) = 3 from prb_S n] at this
    exact this
  have a2 : Ans Try.prog 24 [byV (((prbF n 3 4 0).drop 24).take 2)] (.int .i64 4) := by
    have := ans24 (((prbF n 3 4 0).drop 24).take 2) (mem_mid hraw 24 2) (by simp; omega)
    rw [show num (((prbF n 3 4 0).drop 24).take 2) = 4 from prb_P n] at this
    exact this
  have a3 : Ans Try.prog 24 [byV (((prbF n 3 4 0).drop 26).take 4)] (.int .i64 0) := by
    have := ans24 (((prbF n 3 4 0).drop 26).take 4) (mem_mid hraw 26 4) (by simp; omega)
    rw [show num (((prbF n 3 4 0).drop 26).take 4) = 0 from prb_T n] at this
    exact this
  have w1 : IntKind.u16.wrap (3 : Int) = 3 := rfl
  have w2 : IntKind.u16.wrap (4 : Int) = 4 := rfl
  have b30' : buildV Try.prog 30 [(0, .int .u16 3), (1, .int .u16 4)] = some (.agg (spC 3 4)) := b30 3 4
  simp -implicitDefEqProofs only [sims.1, fx.1, tick_on, calleeK, List.getElem?_toArray, extractV, oneV, faddrK, nonnil, b_shr, b_shl, eq_self, beq_self_eq_true, fieldK, Option.bind_some, Option.map_some, Option.bind_none, Option.map_none, List.map_cons, List.map_nil, List.getD_cons_zero, List.getD_cons_succ, List.getD_nil, List.length_nil, List.length_cons, List.length_set, List.nil_append, List.cons_append, List.append_nil, List.getElem?_cons_zero, List.getElem?_cons_succ, List.getElem?_nil, List.set_cons_zero, List.set_cons_succ, Nat.reduceAdd, Nat.zero_add, Nat.add_zero, Nat.mul_one, Nat.mul_zero, Nat.zero_mul, Nat.reduceMul, Nat.reduceSub, Nat.reduceEqDiff, Nat.reduceLT, Nat.reduceLeDiff, Nat.reduceBEq, Nat.reduceBNe, Nat.succ_ne_self, reduceIte, if_true, if_false, ite_self, decide_true, decide_false, Bool.not_true, Bool.not_false, Bool.and_true, Bool.true_and, Bool.and_false, Bool.false_and, Bool.or_true, Bool.true_or, Bool.or_false, Bool.false_or, cond_true, cond_false, Int.reduceEq, Int.reduceLT, Int.reduceLE, Int.reduceNe, Int.reduceToNat, s1]
  refine callE_ans a1 en24 (by simp only [nfs, nf_by, Bool.and_self]) rfl ?_
  simp -implicitDefEqProofs only [sims.1, fx.1, tick_on, calleeK, List.getElem?_toArray, extractV, oneV, faddrK, nonnil, b_shr, b_shl, eq_self, beq_self_eq_true, fieldK, Option.bind_some, Option.map_some, Option.bind_none, Option.map_none, List.map_cons, List.map_nil, List.getD_cons_zero, List.getD_cons_succ, List.getD_nil, List.length_nil, List.length_cons, List.length_set, List.nil_append, List.cons_append, List.append_nil, List.getElem?_cons_zero, List.getElem?_cons_succ, List.getElem?_nil, List.set_cons_zero, List.set_cons_succ, Nat.reduceAdd, Nat.zero_add, Nat.add_zero, Nat.mul_one, Nat.mul_zero, Nat.zero_mul, Nat.reduceMul, Nat.reduceSub, Nat.reduceEqDiff, Nat.reduceLT, Nat.reduceLeDiff, Nat.reduceBEq, Nat.reduceBNe, Nat.succ_ne_self, reduceIte, if_true, if_false, ite_self, decide_true, decide_false, Bool.not_true, Bool.not_false, Bool.and_true, Bool.true_and, Bool.and_false, Bool.false_and, Bool.or_true, Bool.true_or, Bool.or_false, Bool.false_or, cond_true, cond_false, Int.reduceEq, Int.reduceLT, Int.reduceLE, Int.reduceNe, Int.reduceToNat, s2, w1]
  refine callE_ans a2 en24 (by simp only [nfs, nf_by, Bool.and_self]) rfl ?_
  simp -implicitDefEqProofs only [sims.1, fx.1, tick_on, calleeK, List.getElem?_toArray, extractV, oneV, faddrK, nonnil, b_shr, b_shl, eq_self, beq_self_eq_true, fieldK, Option.bind_some, Option.map_some, Option.bind_none, Option.map_none, List.map_cons, List.map_nil, List.getD_cons_zero, List.getD_cons_succ, List.getD_nil, List.length_nil, List.length_cons, List.length_set, List.nil_append, List.cons_append, List.append_nil, List.getElem?_cons_zero, List.getElem?_cons_succ, List.getElem?_nil, List.set_cons_zero, List.set_cons_succ, Nat.reduceAdd, Nat.zero_add, Nat.add_zero, Nat.mul_one, Nat.mul_zero, Nat.zero_mul, Nat.reduceMul, Nat.reduceSub, Nat.reduceEqDiff, Nat.reduceLT, Nat.reduceLeDiff, Nat.reduceBEq, Nat.reduceBNe, Nat.succ_ne_self, reduceIte, if_true, if_false, ite_self, decide_true, decide_false, Bool.not_true, Bool.not_false, Bool.and_true, Bool.true_and, Bool.and_false, Bool.false_and, Bool.or_true, Bool.true_or, Bool.or_false, Bool.false_or, cond_true, cond_false, Int.reduceEq, Int.reduceLT, Int.reduceLE, Int.reduceNe, Int.reduceToNat, w1, w2, b30']
  have sp : ∀ s p : Nat, splice (cl .u16 2 fun _ => 0) 0 (cellsOfV (V.agg (spC s p))) = spC s p := fun _ _ => rfl
  iterate 4
    first
    | (refine orderP_of (by kernel_rfl) ?_
       simp -implicitDefEqProofs only [sims.1, fx.1, tick_on, calleeK, List.getElem?_toArray, extractV, oneV, faddrK, nonnil, b_shr, b_shl, eq_self, beq_self_eq_true, fieldK, Option.bind_some, Option.map_some, Option.bind_none, Option.map_none, List.map_cons, List.map_nil, List.getD_cons_zero, List.getD_cons_succ, List.getD_nil, List.length_nil, List.length_cons, List.length_set, List.nil_append, List.cons_append, List.append_nil, List.getElem?_cons_zero, List.getElem?_cons_succ, List.getElem?_nil, List.set_cons_zero, List.set_cons_succ, Nat.reduceAdd, Nat.zero_add, Nat.add_zero, Nat.mul_one, Nat.mul_zero, Nat.zero_mul, Nat.reduceMul, Nat.reduceSub, Nat.reduceEqDiff, Nat.reduceLT, Nat.reduceLeDiff, Nat.reduceBEq, Nat.reduceBNe, Nat.succ_ne_self, reduceIte, if_true, if_false, ite_self, decide_true, decide_false, Bool.not_true, Bool.not_false, Bool.and_true, Bool.true_and, Bool.and_false, Bool.false_and, Bool.or_true, Bool.true_or, Bool.or_false, Bool.false_or, cond_true, cond_false, Int.reduceEq, Int.reduceLT, Int.reduceLE, Int.reduceNe, Int.reduceToNat, w1, w2, b30', sp, s3])
    | skip
  refine callD_ans a3 en24 (by simp only [nfs, nf_by, Bool.and_self]) rfl ?_
  simp -implicitDefEqProofs only [sims.1, fx.1, tick_on, calleeK, List.getElem?_toArray, extractV, oneV, faddrK, nonnil, b_shr, b_shl, eq_self, beq_self_eq_true, fieldK, Option.bind_some, Option.map_some, Option.bind_none, Option.map_none, List.map_cons, List.map_nil, List.getD_cons_zero, List.getD_cons_succ, List.getD_nil, List.length_nil, List.length_cons, List.length_set, List.nil_append, List.cons_append, List.append_nil, List.getElem?_cons_zero, List.getElem?_cons_succ, List.getElem?_nil, List.set_cons_zero, List.set_cons_succ, Nat.reduceAdd, Nat.zero_add, Nat.add_zero, Nat.mul_one, Nat.mul_zero, Nat.zero_mul, Nat.reduceMul, Nat.reduceSub, Nat.reduceEqDiff, Nat.reduceLT, Nat.reduceLeDiff, Nat.reduceBEq, Nat.reduceBNe, Nat.succ_ne_self, reduceIte, if_true, if_false, ite_self, decide_true, decide_false, Bool.not_true, Bool.not_false, Bool.and_true, Bool.true_and, Bool.and_false, Bool.false_and, Bool.or_true, Bool.true_or, Bool.or_false, Bool.false_or, cond_true, cond_false, Int.reduceEq, Int.reduceLT, Int.reduceLE, Int.reduceNe, Int.reduceToNat]
  refine w_quiet ?_
  simp -implicitDefEqProofs only [sims.1, fx.1, tick_on, calleeK, List.getElem?_toArray, extractV, oneV, faddrK, nonnil, b_shr, b_shl, eq_self, beq_self_eq_true, fieldK, Option.bind_some, Option.map_some, Option.bind_none, Option.map_none, List.map_cons, List.map_nil, List.getD_cons_zero, List.getD_cons_succ, List.getD_nil, List.length_nil, List.length_cons, List.length_set, List.nil_append, List.cons_append, List.append_nil, List.getElem?_cons_zero, List.getElem?_cons_succ, List.getElem?_nil, List.set_cons_zero, List.set_cons_succ, Nat.reduceAdd, Nat.zero_add, Nat.add_zero, Nat.mul_one, Nat.mul_zero, Nat.zero_mul, Nat.reduceMul, Nat.reduceSub, Nat.reduceEqDiff, Nat.reduceLT, Nat.reduceLeDiff, Nat.reduceBEq, Nat.reduceBNe, Nat.succ_ne_self, reduceIte, if_true, if_false, ite_self, decide_true, decide_false, Bool.not_true, Bool.not_false, Bool.and_true, Bool.true_and, Bool.and_false, Bool.false_and, Bool.or_true, Bool.true_or, Bool.or_false, Bool.false_or, cond_true, cond_false, Int.reduceEq, Int.reduceLT, Int.reduceLE, Int.reduceNe, Int.reduceToNat, sp, pk]
  refine callQ_lay (snd26 (n := n) (s := 3) (p := 4) (t := 0) (by decide) (by decide) (by decide) hg hS hS) en26 hg hS hS rfl rfl (nf_by _) rfl rfl rfl rfl ?_
  simp -implicitDefEqProofs only [sims.1, fx.1, tick_on, calleeK, List.getElem?_toArray, extractV, oneV, faddrK, nonnil, b_shr, b_shl, eq_self, beq_self_eq_true, fieldK, Option.bind_some, Option.map_some, Option.bind_none, Option.map_none, List.map_cons, List.map_nil, List.getD_cons_zero, List.getD_cons_succ, List.getD_nil, List.length_nil, List.length_cons, List.length_set, List.nil_append, List.cons_append, List.append_nil, List.getElem?_cons_zero, List.getElem?_cons_succ, List.getElem?_nil, List.set_cons_zero, List.set_cons_succ, Nat.reduceAdd, Nat.zero_add, Nat.add_zero, Nat.mul_one, Nat.mul_zero, Nat.zero_mul, Nat.reduceMul, Nat.reduceSub, Nat.reduceEqDiff, Nat.reduceLT, Nat.reduceLeDiff, Nat.reduceBEq, Nat.reduceBNe, Nat.succ_ne_self, reduceIte, if_true, if_false, ite_self, decide_true, decide_false, Bool.not_true, Bool.not_false, Bool.and_true, Bool.true_and, Bool.and_false, Bool.false_and, Bool.or_true, Bool.true_or, Bool.or_false, Bool.false_or, cond_true, cond_false, Int.reduceEq, Int.reduceLT, Int.reduceLE, Int.reduceNe, Int.reduceToNat]
  refine callQ_ans (ans25 _ _ (by rw [hlen]; decide)) en25 (by simp only [nfs, nf_by, Bool.and_self]) rfl ?_
  have d0 : decide (prbF n 3 4 0 = prbF n 3 4 0) = true := by simp
  simp -implicitDefEqProofs only [sims.1, fx.1, tick_on, calleeK, List.getElem?_toArray, extractV, oneV, faddrK, nonnil, b_shr, b_shl, eq_self, beq_self_eq_true, fieldK, Option.bind_some, Option.map_some, Option.bind_none, Option.map_none, List.map_cons, List.map_nil, List.getD_cons_zero, List.getD_cons_succ, List.getD_nil, List.length_nil, List.length_cons, List.length_set, List.nil_append, List.cons_append, List.append_nil, List.getElem?_cons_zero, List.getElem?_cons_succ, List.getElem?_nil, List.set_cons_zero, List.set_cons_succ, Nat.reduceAdd, Nat.zero_add, Nat.add_zero, Nat.mul_one, Nat.mul_zero, Nat.zero_mul, Nat.reduceMul, Nat.reduceSub, Nat.reduceEqDiff, Nat.reduceLT, Nat.reduceLeDiff, Nat.reduceBEq, Nat.reduceBNe, Nat.succ_ne_self, reduceIte, if_true, if_false, ite_self, decide_true, decide_false, Bool.not_true, Bool.not_false, Bool.and_true, Bool.true_and, Bool.and_false, Bool.false_and, Bool.or_true, Bool.true_or, Bool.or_false, Bool.false_or, cond_true, cond_false, Int.reduceEq, Int.reduceLT, Int.reduceLE, Int.reduceNe, Int.reduceToNat, d0, sp, pk]
  refine callQ_lay (snd23 (gs := gs3) (bs := List.range gs3.length) (clk := gs3.length) (by decide : 3 < 65536) (by decide : 4 < 65536) hgs hS hS) en23 hg hS hS rfl rfl rfl rfl rfl rfl rfl ?_
  have g1 : decide ((0 : Int) > a) = false := by simp; omega
  have g2 : decide (a < (0 : Int)) = false := by simp; omega
  have hs1 : storeK 4 [.var 71 [.int .u64 n, .int .i64 a, .int .i64 0, .mp 1, .mp 2, .mp 3], gtR gs3, .map [] [] 0, .map [] [] 0, .var 30 (spC 5 6), .var 30 (spC 3 4), .var 84 (cl .u16 4 fun _ => 0)] (.ptr 6 0) (.agg wrB) = some [.var 71 [.int .u64 n, .int .i64 a, .int .i64 0, .mp 1, .mp 2, .mp 3], gtR gs3, .map [] [] 0, .map [] [] 0, .var 30 (spC 5 6), .var 30 (spC 3 4), .var 84 wrB] := rfl
  have hs2 : storeK 4 [.var 71 [.int .u64 n, .int .i64 a, .int .i64 0, .mp 1, .mp 2, .mp 3], gtR gs3, .map [] [] 0, .map [] [] 0, .var 30 (spC 5 6), .var 30 (spC 3 4), .var 84 wrB] (.ptr 6 0) (.agg wrC) = some [.var 71 [.int .u64 n, .int .i64 a, .int .i64 0, .mp 1, .mp 2, .mp 3], gtR gs3, .map [] [] 0, .map [] [] 0, .var 30 (spC 5 6), .var 30 (spC 3 4), .var 84 wrC] := rfl
  have pW : partK true 4 wrC 0 = some (.agg wrC) := rfl
  have lkz : lookupV Try.prog 68 [.var 71 [.int .u64 n, .int .i64 a, .int .i64 0, .mp 1, .mp 2, .mp 3], gtR gs3, .map [] [] 0, .map [] [] 0, .var 30 (spC 5 6), .var 30 (spC 3 4), .var 84 wrC] (.mp 2) (.agg wrC) false = some (.agg [.int .i64 0]) := by kernel_rfl
  have b87 : buildV Try.prog 87 [(0, .int .i64 0)] = some (.agg [.int .i64 0]) := by kernel_rfl
  have hpt : putV Try.prog 68 [.var 71 [.int .u64 n, .int .i64 a, .int .i64 0, .mp 1, .mp 2, .mp 3], gtR gs3, .map [] [] 0, .map [] [] 0, .var 30 (spC 5 6), .var 30 (spC 3 4), .var 84 wrC] (.mp 2) (.agg wrC) (.agg [.int .i64 0]) = some [.var 71 [.int .u64 n, .int .i64 a, .int .i64 0, .mp 1, .mp 2, .mp 3], gtR gs3, snM, .map [] [] 0, .var 30 (spC 5 6), .var 30 (spC 3 4), .var 84 wrC] := by kernel_rfl
  have mx0 : minmaxV true (.int .i64 0) (.int .i64 0) = some (.int .i64 0) := rfl
  have w00 : IntKind.i64.wrap ((0 : Int) - 0) = 0 := rfl
  simp -implicitDefEqProofs only [sims.1, fx.1, tick_on, calleeK, List.getElem?_toArray, extractV, oneV, faddrK, nonnil, b_shr, b_shl, eq_self, beq_self_eq_true, fieldK, Option.bind_some, Option.map_some, Option.bind_none, Option.map_none, List.map_cons, List.map_nil, List.getD_cons_zero, List.getD_cons_succ, List.getD_nil, List.length_nil, List.length_cons, List.length_set, List.nil_append, List.cons_append, List.append_nil, List.getElem?_cons_zero, List.getElem?_cons_succ, List.getElem?_nil, List.set_cons_zero, List.set_cons_succ, Nat.reduceAdd, Nat.zero_add, Nat.add_zero, Nat.mul_one, Nat.mul_zero, Nat.zero_mul, Nat.reduceMul, Nat.reduceSub, Nat.reduceEqDiff, Nat.reduceLT, Nat.reduceLeDiff, Nat.reduceBEq, Nat.reduceBNe, Nat.succ_ne_self, reduceIte, if_true, if_false, ite_self, decide_true, decide_false, Bool.not_true, Bool.not_false, Bool.and_true, Bool.true_and, Bool.and_false, Bool.false_and, Bool.or_true, Bool.true_or, Bool.or_false, Bool.false_or, cond_true, cond_false, Int.reduceEq, Int.reduceLT, Int.reduceLE, Int.reduceNe, Int.reduceToNat, i2, sp, pk, eq30, g1, g2, w00, b84a]
  simp -implicitDefEqProofs only [sims.1, fx.1, tick_on, calleeK, List.getElem?_toArray, extractV, oneV, faddrK, nonnil, b_shr, b_shl, eq_self, beq_self_eq_true, fieldK, Option.bind_some, Option.map_some, Option.bind_none, Option.map_none, List.map_cons, List.map_nil, List.getD_cons_zero, List.getD_cons_succ, List.getD_nil, List.length_nil, List.length_cons, List.length_set, List.nil_append, List.cons_append, List.append_nil, List.getElem?_cons_zero, List.getElem?_cons_succ, List.getElem?_nil, List.set_cons_zero, List.set_cons_succ, Nat.reduceAdd, Nat.zero_add, Nat.add_zero, Nat.mul_one, Nat.mul_zero, Nat.zero_mul, Nat.reduceMul, Nat.reduceSub, Nat.reduceEqDiff, Nat.reduceLT, Nat.reduceLeDiff, Nat.reduceBEq, Nat.reduceBNe, Nat.succ_ne_self, reduceIte, if_true, if_false, ite_self, decide_true, decide_false, Bool.not_true, Bool.not_false, Bool.and_true, Bool.true_and, Bool.and_false, Bool.false_and, Bool.or_true, Bool.true_or, Bool.or_false, Bool.false_or, cond_true, cond_false, Int.reduceEq, Int.reduceLT, Int.reduceLE, Int.reduceNe, Int.reduceToNat, hs1, pk]
  refine callD_ans by56 en27 rfl rfl ?_
  have lm : decide ((-1 : Int) < 0) = true := rfl
  simp -implicitDefEqProofs only [sims.1, fx.1, tick_on, calleeK, List.getElem?_toArray, extractV, oneV, faddrK, nonnil, b_shr, b_shl, eq_self, beq_self_eq_true, fieldK, Option.bind_some, Option.map_some, Option.bind_none, Option.map_none, List.map_cons, List.map_nil, List.getD_cons_zero, List.getD_cons_succ, List.getD_nil, List.length_nil, List.length_cons, List.length_set, List.nil_append, List.cons_append, List.append_nil, List.getElem?_cons_zero, List.getElem?_cons_succ, List.getElem?_nil, List.set_cons_zero, List.set_cons_succ, Nat.reduceAdd, Nat.zero_add, Nat.add_zero, Nat.mul_one, Nat.mul_zero, Nat.zero_mul, Nat.reduceMul, Nat.reduceSub, Nat.reduceEqDiff, Nat.reduceLT, Nat.reduceLeDiff, Nat.reduceBEq, Nat.reduceBNe, Nat.succ_ne_self, reduceIte, if_true, if_false, ite_self, decide_true, decide_false, Bool.not_true, Bool.not_false, Bool.and_true, Bool.true_and, Bool.and_false, Bool.false_and, Bool.or_true, Bool.true_or, Bool.or_false, Bool.false_or, cond_true, cond_false, Int.reduceEq, Int.reduceLT, Int.reduceLE, Int.reduceNe, Int.reduceToNat, lm, pk, b84b, hs2]
  refine w_noisy ?_
  simp -implicitDefEqProofs only [sims.1, fx.1, tick_on, calleeK, List.getElem?_toArray, extractV, oneV, faddrK, nonnil, b_shr, b_shl, eq_self, beq_self_eq_true, fieldK, Option.bind_some, Option.map_some, Option.bind_none, Option.map_none, List.map_cons, List.map_nil, List.getD_cons_zero, List.getD_cons_succ, List.getD_nil, List.length_nil, List.length_cons, List.length_set, List.nil_append, List.cons_append, List.append_nil, List.getElem?_cons_zero, List.getElem?_cons_succ, List.getElem?_nil, List.set_cons_zero, List.set_cons_succ, Nat.reduceAdd, Nat.zero_add, Nat.add_zero, Nat.mul_one, Nat.mul_zero, Nat.zero_mul, Nat.reduceMul, Nat.reduceSub, Nat.reduceEqDiff, Nat.reduceLT, Nat.reduceLeDiff, Nat.reduceBEq, Nat.reduceBNe, Nat.succ_ne_self, reduceIte, if_true, if_false, ite_self, decide_true, decide_false, Bool.not_true, Bool.not_false, Bool.and_true, Bool.true_and, Bool.and_false, Bool.false_and, Bool.or_true, Bool.true_or, Bool.or_false, Bool.false_or, cond_true, cond_false, Int.reduceEq, Int.reduceLT, Int.reduceLE, Int.reduceNe, Int.reduceToNat, pW, e_max, lkz, b87, mx0, hpt]
  iterate 20
    first
    | (refine orderP_of (by kernel_rfl) ?_
       simp -implicitDefEqProofs only [sims.1, fx.1, tick_on, calleeK, List.getElem?_toArray, extractV, oneV, faddrK, nonnil, b_shr, b_shl, eq_self, beq_self_eq_true, fieldK, Option.bind_some, Option.map_some, Option.bind_none, Option.map_none, List.map_cons, List.map_nil, List.getD_cons_zero, List.getD_cons_succ, List.getD_nil, List.length_nil, List.length_cons, List.length_set, List.nil_append, List.cons_append, List.append_nil, List.getElem?_cons_zero, List.getElem?_cons_succ, List.getElem?_nil, List.set_cons_zero, List.set_cons_succ, Nat.reduceAdd, Nat.zero_add, Nat.add_zero, Nat.mul_one, Nat.mul_zero, Nat.zero_mul, Nat.reduceMul, Nat.reduceSub, Nat.reduceEqDiff, Nat.reduceLT, Nat.reduceLeDiff, Nat.reduceBEq, Nat.reduceBNe, Nat.succ_ne_self, reduceIte, if_true, if_false, ite_self, decide_true, decide_false, Bool.not_true, Bool.not_false, Bool.and_true, Bool.true_and, Bool.and_false, Bool.false_and, Bool.or_true, Bool.true_or, Bool.or_false, Bool.false_or, cond_true, cond_false, Int.reduceEq, Int.reduceLT, Int.reduceLE, Int.reduceNe, Int.reduceToNat, pW, e_max, lkz, b87, mx0, hpt])
    | skip
  exact ⟨_, rfl⟩
end Go.Proofs.Ytpmbhjmlghoogaa
