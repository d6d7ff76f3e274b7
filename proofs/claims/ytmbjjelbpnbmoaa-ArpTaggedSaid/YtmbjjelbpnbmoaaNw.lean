/- A short frame is read as the document says. No condition. -/
import Derived.Test.YtmbjjelbpnbmoaaNv
namespace Go.Proofs.Ytmbjjelbpnbmoaa
open Go Ab
set_option linter.unusedSimpArgs false
set_option linter.unusedVariables false
set_option maxRecDepth 20000

theorem callD_r1 {f : FuncId} {m : Mem} {K Kp : V → Mem → Prop} {v : V} {n q : Nat} (l : List Nat) (h : AnsB Try.prog f [byV l] v) (he : enterable Try.prog f = true) (hv : nf v = true) (hm : nfM m = true) (hn : m[n]? = some (rowB l)) (hq : q = l.length) (hk : K v m) : callD Try.prog f [.sl 1 n 0 q] m K Kp := by
  have hlt : n < m.length := (List.getElem?_eq_some_iff.1 hn).1
  refine callD_lendB [n] [byV l] h he (by simp only [nfs, nf_by, Bool.and_self]) hv hm (roots_flat1 hm rfl) (by simp [nodupB, hlt]) (by simp [nmss, nms]) ?_ hk
  have := lend_at (k := q) (a := 0) hn (by omega)
  rw [List.drop_zero] at this
  simp only [List.map_cons, List.map_nil, this]
theorem callD_r2 {f : FuncId} {m : Mem} {K Kp : V → Mem → Prop} {u v : V} {n q : Nat} (l : List Nat) (h : AnsB Try.prog f [u, byV l] v) (he : enterable Try.prog f = true) (hu : nf u = true) (hv : nf v = true) (hm : nfM m = true) (hn : m[n]? = some (rowB l)) (hq : q = l.length) (hk : K v m) : callD Try.prog f [u, .sl 1 n 0 q] m K Kp := by
  have hlt : n < m.length := (List.getElem?_eq_some_iff.1 hn).1
  have hnm : nms u = [] := by
    have := nfs_nmss [u] (by simp only [nfs, hu, Bool.and_self])
    simpa [nmss] using this
  have hr : rootsV m [u, .sl 1 n 0 q] = [n] := by
    unfold rootsV
    simp only [nmss, hnm, nms, List.nil_append, List.append_nil]
    exact reach_flat1 hm 78 n
  refine callD_lendB [n] [u, byV l] h he (by simp only [nfs, hu, nf_by, Bool.and_self]) hv hm hr (by simp [nodupB, hlt]) (by simp [nmss, nms, hnm]) ?_ hk
  have := lend_at (k := q) (a := 0) hn (by omega)
  rw [List.drop_zero] at this
  simp only [List.map_cons, List.map_nil, this, nf_lend hu]
theorem pk0 (h : Hd) (b : List Nat) : (pkC h b)[0]? = some (.int .u64 (h 0 : Int)) := rfl
theorem pk1 (h : Hd) (b : List Nat) : (pkC h b)[1]? = some (.int .u64 (h 1 : Int)) := rfl
theorem pk2 (h : Hd) (b : List Nat) : (pkC h b)[2]? = some (.int .u64 (h 2 : Int)) := rfl
theorem pk3 (h : Hd) (b : List Nat) : (pkC h b)[3]? = some (.int .u64 (h 3 : Int)) := rfl
theorem pk4 (h : Hd) (b : List Nat) : (pkC h b)[4]? = some (.int .u64 (h 4 : Int)) := rfl
theorem pk5 (h : Hd) (b : List Nat) : (pkC h b)[5]? = some (.int .u64 (h 5 : Int)) := rfl
theorem sp_pk (h g : Hd) (b : List Nat) : splice (pkC h b) 0 (pkC g b) = pkC g b := rfl
theorem sp_zk (h : Hd) (b : List Nat) : splice (pcC zH .nils) 0 (pkC h b) = pkC h b := rfl
def b15 : List Nat := [255, 255, 255, 255, 255, 255, 0, 0, 0, 0, 0, 1, 136, 181, 7]
def x20 : List Nat := [69, 0, 0, 20, 0, 0, 0, 0, 64, 17, 0, 0, 10, 0, 0, 1, 10, 0, 0, 2]
theorem bsl15 (m : Mem) : bsliceV Try.prog 22 15 [(0, .int .u8 255), (1, .int .u8 255), (2, .int .u8 255), (3, .int .u8 255), (4, .int .u8 255), (5, .int .u8 255), (6, .int .u8 0), (7, .int .u8 0), (8, .int .u8 0), (9, .int .u8 0), (10, .int .u8 0), (11, .int .u8 1), (12, .int .u8 136), (13, .int .u8 181), (14, .int .u8 7)] m = some (.sl 1 m.length 0 15, m ++ [rowB b15]) := by kernel_rfl
theorem bsl1 (m : Mem) : bsliceV Try.prog 22 1 [(0, .int .u8 7)] m = some (.sl 1 m.length 0 1, m ++ [rowB [7]]) := by kernel_rfl
theorem bsl20 (m : Mem) : bsliceV Try.prog 22 20 [(0, .int .u8 69), (1, .int .u8 0), (2, .int .u8 0), (3, .int .u8 20), (4, .int .u8 0), (5, .int .u8 0), (6, .int .u8 0), (7, .int .u8 0), (8, .int .u8 64), (9, .int .u8 17), (10, .int .u8 0), (11, .int .u8 0), (12, .int .u8 10), (13, .int .u8 0), (14, .int .u8 0), (15, .int .u8 1), (16, .int .u8 10), (17, .int .u8 0), (18, .int .u8 0), (19, .int .u8 2)] m = some (.sl 1 m.length 0 20, m ++ [rowB x20]) := by kernel_rfl
theorem b15_lt : ∀ b ∈ b15, b < 256 := by decide
theorem x20_lt : ∀ b ∈ x20, b < 256 := by decide
theorem b15_ok : prsA b15 = .tup [.agg (pkC (rdH b15) [7]), .int .i64 0] := by
  rw [prsA_ok (by kernel_rfl)]
  rfl
theorem sum20 : sumR x20 = 26327 := by
  have h1 : psum x20 x20.length = 39208 := by kernel_rfl
  unfold sumR
  rw [h1, foldS_small (by omega)]
set_option maxHeartbeats 4000000 in
theorem ans17 : Ans Try.prog 17 [] (.bool true) := by
  refine Snd_of_W fol rfl rfl (by kernel_rfl) (by kernel_rfl) ?_
  have f0 : decide (((rdH b15 0 : Nat) : Int) = 1) = true := by kernel_rfl
  have f2 : decide (((rdH b15 2 : Nat) : Int) = 34997) = true := by kernel_rfl
  have fs : decide (((26327 : Nat) : Int) = 26327) = true := by kernel_rfl
  simp -implicitDefEqProofs only [sims.1, fx.1, tick_on, calleeK, List.getElem?_toArray, extractV, oneV, faddrK, nonnil, b_shr, b_shl, eq_self, beq_self_eq_true, fieldK, Option.bind_some, Option.map_some, Option.bind_none, Option.map_none, List.map_cons, List.map_nil, List.getD_cons_zero, List.getD_cons_succ, List.getD_nil, List.length_nil, List.length_cons, List.length_set, List.nil_append, List.cons_append, List.append_nil, List.getElem?_cons_zero, List.getElem?_cons_succ, List.getElem?_nil, List.set_cons_zero, List.set_cons_succ, Nat.reduceAdd, Nat.zero_add, Nat.add_zero, Nat.mul_one, Nat.mul_zero, Nat.zero_mul, Nat.reduceMul, Nat.reduceSub, Nat.reduceEqDiff, Nat.reduceLT, Nat.reduceLeDiff, Nat.reduceBEq, Nat.reduceBNe, Nat.succ_ne_self, reduceIte, if_true, if_false, ite_self, decide_true, decide_false, Bool.not_true, Bool.not_false, Bool.and_true, Bool.true_and, Bool.and_false, Bool.false_and, Bool.or_true, Bool.true_or, Bool.or_false, Bool.false_or, cond_true, cond_false, Int.reduceEq, Int.reduceLT, Int.reduceLE, Int.reduceNe, Int.reduceToNat, bsl15]
  refine callD_r1 b15 (ansB12 b15 b15_lt (by decide)) en12 (by simp only [prsA, nf, nfs, nf_pkA, Bool.and_self]) (by simp only [nfM_cn, nfM_nil, nfB_row, Bool.and_self]) rfl rfl ?_
  rw [b15_ok]
  simp -implicitDefEqProofs only [sims.1, fx.1, tick_on, calleeK, List.getElem?_toArray, extractV, oneV, faddrK, nonnil, b_shr, b_shl, eq_self, beq_self_eq_true, fieldK, Option.bind_some, Option.map_some, Option.bind_none, Option.map_none, List.map_cons, List.map_nil, List.getD_cons_zero, List.getD_cons_succ, List.getD_nil, List.length_nil, List.length_cons, List.length_set, List.nil_append, List.cons_append, List.append_nil, List.getElem?_cons_zero, List.getElem?_cons_succ, List.getElem?_nil, List.set_cons_zero, List.set_cons_succ, Nat.reduceAdd, Nat.zero_add, Nat.add_zero, Nat.mul_one, Nat.mul_zero, Nat.zero_mul, Nat.reduceMul, Nat.reduceSub, Nat.reduceEqDiff, Nat.reduceLT, Nat.reduceLeDiff, Nat.reduceBEq, Nat.reduceBNe, Nat.succ_ne_self, reduceIte, if_true, if_false, ite_self, decide_true, decide_false, Bool.not_true, Bool.not_false, Bool.and_true, Bool.true_and, Bool.and_false, Bool.false_and, Bool.or_true, Bool.true_or, Bool.or_false, Bool.false_or, cond_true, cond_false, Int.reduceEq, Int.reduceLT, Int.reduceLE, Int.reduceNe, Int.reduceToNat, iaL0, iaL2, storeK_agg, pk_len, pc_len, pc0z, sp_zk, pk0, pk2, pk_11, f0, f2, bsl1]
  refine callD_r2 [7] ((ans19 [7] [7] (by decide) (by decide)).bareB rfl) en19 (nf_by _) rfl (by simp only [nfM_cn, nfM_nil, nfB27, nfB_row, Bool.and_self]) rfl rfl ?_
  have t7 : decide (([7] : List Nat) = [7]) = true := rfl
  rw [t7]
  simp -implicitDefEqProofs only [sims.1, fx.1, tick_on, calleeK, List.getElem?_toArray, extractV, oneV, faddrK, nonnil, b_shr, b_shl, eq_self, beq_self_eq_true, fieldK, Option.bind_some, Option.map_some, Option.bind_none, Option.map_none, List.map_cons, List.map_nil, List.getD_cons_zero, List.getD_cons_succ, List.getD_nil, List.length_nil, List.length_cons, List.length_set, List.nil_append, List.cons_append, List.append_nil, List.getElem?_cons_zero, List.getElem?_cons_succ, List.getElem?_nil, List.set_cons_zero, List.set_cons_succ, Nat.reduceAdd, Nat.zero_add, Nat.add_zero, Nat.mul_one, Nat.mul_zero, Nat.zero_mul, Nat.reduceMul, Nat.reduceSub, Nat.reduceEqDiff, Nat.reduceLT, Nat.reduceLeDiff, Nat.reduceBEq, Nat.reduceBNe, Nat.succ_ne_self, reduceIte, if_true, if_false, ite_self, decide_true, decide_false, Bool.not_true, Bool.not_false, Bool.and_true, Bool.true_and, Bool.and_false, Bool.false_and, Bool.or_true, Bool.true_or, Bool.or_false, Bool.false_or, cond_true, cond_false, Int.reduceEq, Int.reduceLT, Int.reduceLE, Int.reduceNe, Int.reduceToNat, bsl20]
  refine callD_r1 x20 ((ans15 x20 x20_lt (by decide)).bareB rfl) en15 rfl (by simp only [nfM_cn, nfM_nil, nfB27, nfB_row, Bool.and_self]) rfl rfl ?_
  rw [sum20]
  simp -implicitDefEqProofs only [sims.1, fx.1, tick_on, calleeK, List.getElem?_toArray, extractV, oneV, faddrK, nonnil, b_shr, b_shl, eq_self, beq_self_eq_true, fieldK, Option.bind_some, Option.map_some, Option.bind_none, Option.map_none, List.map_cons, List.map_nil, List.getD_cons_zero, List.getD_cons_succ, List.getD_nil, List.length_nil, List.length_cons, List.length_set, List.nil_append, List.cons_append, List.append_nil, List.getElem?_cons_zero, List.getElem?_cons_succ, List.getElem?_nil, List.set_cons_zero, List.set_cons_succ, Nat.reduceAdd, Nat.zero_add, Nat.add_zero, Nat.mul_one, Nat.mul_zero, Nat.zero_mul, Nat.reduceMul, Nat.reduceSub, Nat.reduceEqDiff, Nat.reduceLT, Nat.reduceLeDiff, Nat.reduceBEq, Nat.reduceBNe, Nat.succ_ne_self, reduceIte, if_true, if_false, ite_self, decide_true, decide_false, Bool.not_true, Bool.not_false, Bool.and_true, Bool.true_and, Bool.and_false, Bool.false_and, Bool.or_true, Bool.true_or, Bool.or_false, Bool.false_or, cond_true, cond_false, Int.reduceEq, Int.reduceLT, Int.reduceLE, Int.reduceNe, Int.reduceToNat, fs]
  exact ans_ret rfl
end Go.Proofs.Ytmbjjelbpnbmoaa
