/- The arguments of the frames' laws, as they are read; bytes are read as both read them. No condition. -/
import Derived.Test.YtmbjjelbpnbmoaaNw
import Derived.Test.YtmbjjelbpnbmoaaNy
namespace Go.Proofs.Ytmbjjelbpnbmoaa
open Go Ab
set_option linter.unusedSimpArgs false
set_option linter.unusedVariables false
set_option maxRecDepth 20000

theorem co5 : Try.prog.cellsOf 5 = 1 := by kernel_rfl
theorem bo5 : Try.prog.bytesOf 5 = 1 := by kernel_rfl
theorem pl22 : plainT Try.prog 9 22 = true := by kernel_rfl
theorem pl27 : plainT Try.prog 9 27 = true := by kernel_rfl
def okB (l : List Nat) : Prop := (∀ b ∈ l, b < 256) ∧ l.length < 140737488351233
theorem op22 {d : Nat} {l : List V} (h : rdT Try.prog (d + 2) 22 l) : ∃ c : List Nat, okB c ∧ l = [byV c] := by
  obtain ⟨es, rfl, h1, h2⟩ := rd_isl Try.underlying22 h
  obtain ⟨c, h3, rfl⟩ := rd_map byC (fun n => n < 256) (fun l h => by
    obtain ⟨z, rfl, hz⟩ := rd_int Try.underlying5 h
    have hz0 : 0 ≤ z ∧ z < 256 := by
      simp [Lit.wf, IntKind.min, IntKind.max, IntKind.bits, IntKind.signed] at hz
      omega
    refine ⟨z.toNat, by omega, ?_⟩
    show _ = [V.int .u8 ((z.toNat : Nat) : Int)]
    rw [show ((z.toNat : Nat) : Int) = z by omega]) h2
  rw [List.length_map, bo5] at h1
  have h4 : reachBytes = 140737488351232 := by decide
  exact ⟨c, ⟨h3, by omega⟩, by rw [co5]; rfl⟩
theorem op25 {d : Nat} {l : List V} (h : rdT Try.prog (d + 2) 25 l) : ∃ g : Hd, U64h g ∧ l = hdC g := by
  obtain ⟨f, h1, h2⟩ := rd_cl Try.underlying25 Try.underlying23 h
  obtain ⟨g, h3, h4⟩ := cl_nat h1
  exact ⟨g, h3, h2.trans h4⟩
structure Pk where
  h : Hd
  b : List Nat
theorem op27 {d : Nat} {l : List V} (h : rdT Try.prog (d + 3) 27 l) : ∃ p : Pk, (U64h p.h ∧ okB p.b) ∧ l = pkC p.h p.b := by
  obtain ⟨ps, rfl, k⟩ := rd_str Try.underlying27 h
  clear h
  have k : rdF (rdT Try.prog (d + 2)) [25, 22] ps := k
  match ps, k with
  | [l1, l2], ⟨h1, h2, _⟩ =>
    obtain ⟨g, hg, rfl⟩ := op25 h1
    obtain ⟨c, hc, rfl⟩ := op22 h2
    refine ⟨⟨g, c⟩, ⟨hg, hc⟩, ?_⟩
    show hdC g ++ ([byV c] ++ []) = hdC g ++ [byV c]
    rw [List.append_nil]
  | [], h => exact h.elim
  | [_], h => exact h.2.elim
  | _ :: _ :: _ :: _, h => exact h.2.2.elim
theorem zH_u64 : U64h zH := fun i _ => by show 0 < _; omega
theorem prsH_u64 {l : List Nat} (hb : ∀ b ∈ l, b < 256) : U64h (prsH l) := by
  unfold prsH
  cases prsK l
  · exact zH_u64
  · exact rdH_u64 hb
theorem prsB_lt {l : List Nat} (hb : ∀ b ∈ l, b < 256) : ∀ b ∈ prsB l, b < 256 := by
  unfold prsB
  cases prsK l
  · intro b h; simp at h
  · exact rdB_lt hb
theorem prsB_len (l : List Nat) : (prsB l).length ≤ l.length := by
  unfold prsB
  cases prsK l
  · simp
  · exact rdB_len l
theorem sp_zk' (h : Hd) (b : List Nat) : splice (pcC zH .nils) 0 (pkC h b) = pkC h b := rfl
set_option maxHeartbeats 4000000 in
theorem ans3 (l : List Nat) (ok : okB l) : Ans Try.prog 3 [byV l] (.bool true) := by
  obtain ⟨hb, hl⟩ := ok
  refine Snd_of_W fol rfl rfl (by kernel_rfl) (by kernel_rfl) ?_
  simp -implicitDefEqProofs only [sims.1, fx.1, tick_on, calleeK, List.getElem?_toArray, extractV, oneV, faddrK, nonnil, b_shr, b_shl, eq_self, beq_self_eq_true, fieldK, Option.bind_some, Option.map_some, Option.bind_none, Option.map_none, List.map_cons, List.map_nil, List.getD_cons_zero, List.getD_cons_succ, List.getD_nil, List.length_nil, List.length_cons, List.length_set, List.nil_append, List.cons_append, List.append_nil, List.getElem?_cons_zero, List.getElem?_cons_succ, List.getElem?_nil, List.set_cons_zero, List.set_cons_succ, Nat.reduceAdd, Nat.zero_add, Nat.add_zero, Nat.mul_one, Nat.mul_zero, Nat.zero_mul, Nat.reduceMul, Nat.reduceSub, Nat.reduceEqDiff, Nat.reduceLT, Nat.reduceLeDiff, Nat.reduceBEq, Nat.reduceBNe, Nat.succ_ne_self, reduceIte, if_true, if_false, ite_self, decide_true, decide_false, Bool.not_true, Bool.not_false, Bool.and_true, Bool.true_and, Bool.and_false, Bool.false_and, Bool.or_true, Bool.true_or, Bool.or_false, Bool.false_or, cond_true, cond_false, Int.reduceEq, Int.reduceLT, Int.reduceLE, Int.reduceNe, Int.reduceToNat]
  refine callD_ans (ans12 l hb hl) en12 (by simp only [nfs, nf_by, Bool.and_self]) (by simp only [prsA, nf, nfs, nf_pkA, Bool.and_self]) ?_
  unfold prsA pkA
  simp -implicitDefEqProofs only [sims.1, fx.1, tick_on, calleeK, List.getElem?_toArray, extractV, oneV, faddrK, nonnil, b_shr, b_shl, eq_self, beq_self_eq_true, fieldK, Option.bind_some, Option.map_some, Option.bind_none, Option.map_none, List.map_cons, List.map_nil, List.getD_cons_zero, List.getD_cons_succ, List.getD_nil, List.length_nil, List.length_cons, List.length_set, List.nil_append, List.cons_append, List.append_nil, List.getElem?_cons_zero, List.getElem?_cons_succ, List.getElem?_nil, List.set_cons_zero, List.set_cons_succ, Nat.reduceAdd, Nat.zero_add, Nat.add_zero, Nat.mul_one, Nat.mul_zero, Nat.zero_mul, Nat.reduceMul, Nat.reduceSub, Nat.reduceEqDiff, Nat.reduceLT, Nat.reduceLeDiff, Nat.reduceBEq, Nat.reduceBNe, Nat.succ_ne_self, reduceIte, if_true, if_false, ite_self, decide_true, decide_false, Bool.not_true, Bool.not_false, Bool.and_true, Bool.true_and, Bool.and_false, Bool.false_and, Bool.or_true, Bool.true_or, Bool.or_false, Bool.false_or, cond_true, cond_false, Int.reduceEq, Int.reduceLT, Int.reduceLE, Int.reduceNe, Int.reduceToNat, storeK_agg, pk_len, pc_len, pc0z, sp_zk]
  refine callD_ans (ans13 l hb hl) en13 (by simp only [nfs, nf_by, Bool.and_self]) (by simp only [prsA, nf, nfs, nf_pkA, Bool.and_self]) ?_
  unfold prsA pkA
  have e1 : decide (prsE l = prsE l) = true := by simp
  simp -implicitDefEqProofs only [sims.1, fx.1, tick_on, calleeK, List.getElem?_toArray, extractV, oneV, faddrK, nonnil, b_shr, b_shl, eq_self, beq_self_eq_true, fieldK, Option.bind_some, Option.map_some, Option.bind_none, Option.map_none, List.map_cons, List.map_nil, List.getD_cons_zero, List.getD_cons_succ, List.getD_nil, List.length_nil, List.length_cons, List.length_set, List.nil_append, List.cons_append, List.append_nil, List.getElem?_cons_zero, List.getElem?_cons_succ, List.getElem?_nil, List.set_cons_zero, List.set_cons_succ, Nat.reduceAdd, Nat.zero_add, Nat.add_zero, Nat.mul_one, Nat.mul_zero, Nat.zero_mul, Nat.reduceMul, Nat.reduceSub, Nat.reduceEqDiff, Nat.reduceLT, Nat.reduceLeDiff, Nat.reduceBEq, Nat.reduceBNe, Nat.succ_ne_self, reduceIte, if_true, if_false, ite_self, decide_true, decide_false, Bool.not_true, Bool.not_false, Bool.and_true, Bool.true_and, Bool.and_false, Bool.false_and, Bool.or_true, Bool.true_or, Bool.or_false, Bool.false_or, cond_true, cond_false, Int.reduceEq, Int.reduceLT, Int.reduceLE, Int.reduceNe, Int.reduceToNat, storeK_agg, pk_len, pc_len, pc0z, sp_zk, pk_all, e1]
  refine callD_ans (ans14 (prsH l) (prsH l) (prsB l) (prsB l) (prsH_u64 hb) (prsH_u64 hb) (prsB_lt hb) (prsB_lt hb)) en14 (show nfs [pkA (prsH l) (prsB l), pkA (prsH l) (prsB l)] = true by simp only [nfs, nf_pkA, Bool.and_self]) rfl ?_
  have e2 : (eqH (prsH l) (prsH l) && decide (prsB l = prsB l)) = true := by rw [eqH_refl]; simp
  rw [e2]
  simp -implicitDefEqProofs only [sims.1, fx.1, tick_on, calleeK, List.getElem?_toArray, extractV, oneV, faddrK, nonnil, b_shr, b_shl, eq_self, beq_self_eq_true, fieldK, Option.bind_some, Option.map_some, Option.bind_none, Option.map_none, List.map_cons, List.map_nil, List.getD_cons_zero, List.getD_cons_succ, List.getD_nil, List.length_nil, List.length_cons, List.length_set, List.nil_append, List.cons_append, List.append_nil, List.getElem?_cons_zero, List.getElem?_cons_succ, List.getElem?_nil, List.set_cons_zero, List.set_cons_succ, Nat.reduceAdd, Nat.zero_add, Nat.add_zero, Nat.mul_one, Nat.mul_zero, Nat.zero_mul, Nat.reduceMul, Nat.reduceSub, Nat.reduceEqDiff, Nat.reduceLT, Nat.reduceLeDiff, Nat.reduceBEq, Nat.reduceBNe, Nat.succ_ne_self, reduceIte, if_true, if_false, ite_self, decide_true, decide_false, Bool.not_true, Bool.not_false, Bool.and_true, Bool.true_and, Bool.and_false, Bool.false_and, Bool.or_true, Bool.true_or, Bool.or_false, Bool.false_or, cond_true, cond_false, Int.reduceEq, Int.reduceLT, Int.reduceLE, Int.reduceNe, Int.reduceToNat]
  refine callD_ans (ans15 l hb (by omega)) en15 (by simp only [nfs, nf_by, Bool.and_self]) rfl ?_
  simp -implicitDefEqProofs only [sims.1, fx.1, tick_on, calleeK, List.getElem?_toArray, extractV, oneV, faddrK, nonnil, b_shr, b_shl, eq_self, beq_self_eq_true, fieldK, Option.bind_some, Option.map_some, Option.bind_none, Option.map_none, List.map_cons, List.map_nil, List.getD_cons_zero, List.getD_cons_succ, List.getD_nil, List.length_nil, List.length_cons, List.length_set, List.nil_append, List.cons_append, List.append_nil, List.getElem?_cons_zero, List.getElem?_cons_succ, List.getElem?_nil, List.set_cons_zero, List.set_cons_succ, Nat.reduceAdd, Nat.zero_add, Nat.add_zero, Nat.mul_one, Nat.mul_zero, Nat.zero_mul, Nat.reduceMul, Nat.reduceSub, Nat.reduceEqDiff, Nat.reduceLT, Nat.reduceLeDiff, Nat.reduceBEq, Nat.reduceBNe, Nat.succ_ne_self, reduceIte, if_true, if_false, ite_self, decide_true, decide_false, Bool.not_true, Bool.not_false, Bool.and_true, Bool.true_and, Bool.and_false, Bool.false_and, Bool.or_true, Bool.true_or, Bool.or_false, Bool.false_or, cond_true, cond_false, Int.reduceEq, Int.reduceLT, Int.reduceLE, Int.reduceNe, Int.reduceToNat]
  refine callD_ans (ans16 l hb (by omega)) en16 (by simp only [nfs, nf_by, Bool.and_self]) rfl ?_
  have e3 : decide ((sumR l : Int) = (sumR l : Int)) = true := by simp
  simp -implicitDefEqProofs only [sims.1, fx.1, tick_on, calleeK, List.getElem?_toArray, extractV, oneV, faddrK, nonnil, b_shr, b_shl, eq_self, beq_self_eq_true, fieldK, Option.bind_some, Option.map_some, Option.bind_none, Option.map_none, List.map_cons, List.map_nil, List.getD_cons_zero, List.getD_cons_succ, List.getD_nil, List.length_nil, List.length_cons, List.length_set, List.nil_append, List.cons_append, List.append_nil, List.getElem?_cons_zero, List.getElem?_cons_succ, List.getElem?_nil, List.set_cons_zero, List.set_cons_succ, Nat.reduceAdd, Nat.zero_add, Nat.add_zero, Nat.mul_one, Nat.mul_zero, Nat.zero_mul, Nat.reduceMul, Nat.reduceSub, Nat.reduceEqDiff, Nat.reduceLT, Nat.reduceLeDiff, Nat.reduceBEq, Nat.reduceBNe, Nat.succ_ne_self, reduceIte, if_true, if_false, ite_self, decide_true, decide_false, Bool.not_true, Bool.not_false, Bool.and_true, Bool.true_and, Bool.and_false, Bool.false_and, Bool.or_true, Bool.true_or, Bool.or_false, Bool.false_or, cond_true, cond_false, Int.reduceEq, Int.reduceLT, Int.reduceLE, Int.reduceNe, Int.reduceToNat, e3]
  refine callD_ans ans17 en17 rfl rfl ?_
  simp -implicitDefEqProofs only [sims.1, fx.1, tick_on, calleeK, List.getElem?_toArray, extractV, oneV, faddrK, nonnil, b_shr, b_shl, eq_self, beq_self_eq_true, fieldK, Option.bind_some, Option.map_some, Option.bind_none, Option.map_none, List.map_cons, List.map_nil, List.getD_cons_zero, List.getD_cons_succ, List.getD_nil, List.length_nil, List.length_cons, List.length_set, List.nil_append, List.cons_append, List.append_nil, List.getElem?_cons_zero, List.getElem?_cons_succ, List.getElem?_nil, List.set_cons_zero, List.set_cons_succ, Nat.reduceAdd, Nat.zero_add, Nat.add_zero, Nat.mul_one, Nat.mul_zero, Nat.zero_mul, Nat.reduceMul, Nat.reduceSub, Nat.reduceEqDiff, Nat.reduceLT, Nat.reduceLeDiff, Nat.reduceBEq, Nat.reduceBNe, Nat.succ_ne_self, reduceIte, if_true, if_false, ite_self, decide_true, decide_false, Bool.not_true, Bool.not_false, Bool.and_true, Bool.true_and, Bool.and_false, Bool.false_and, Bool.or_true, Bool.true_or, Bool.or_false, Bool.false_or, cond_true, cond_false, Int.reduceEq, Int.reduceLT, Int.reduceLE, Int.reduceNe, Int.reduceToNat]
  exact ans_ret rfl
end Go.Proofs.Ytmbjjelbpnbmoaa
