/- Questions are answered as the document says; the stage's theorem. No condition. -/
import Derived.Test.YtmbjjelbpnbmoaaPc
namespace Go.Proofs.Ytmbjjelbpnbmoaa
open Go Ab
set_option linter.unusedSimpArgs false
set_option linter.unusedVariables false
set_option maxRecDepth 20000

/-- A call on a value and a packet whose body is a row of the caller's. -/
theorem callD_pk2 {f : FuncId} {m : Mem} {K Kp : V → Mem → Prop} {h : Hd} {n q : Nat} {c : List Nat} {k : IntKind} {a : Int} {v : V} (hs : AnsB Try.prog f [.int k a, pkA h c] v) (he : enterable Try.prog f = true) (hv : nf v = true) (hm : m[n]? = some (rowB c)) (hq : q = c.length) (hk : K v m) : callD Try.prog f [.int k a, .agg (pcC h (.sl 1 n 0 q))] m K Kp := by
  have hlt : n < m.length := (List.getElem?_eq_some_iff.1 hm).1
  have hg : m.getD n .dead = rowB c := by simp [List.getD, hm]
  have hnm : nmss [.int k a, .agg (pcC h (.sl 1 n 0 q))] = [n] := by
    simp only [nmss, nms, pcC, hdC, cl, List.append_nil]
    rfl
  have hr : rootsV m [.int k a, .agg (pcC h (.sl 1 n 0 q))] = [n] := by
    unfold rootsV
    rw [hnm]
    have h1 : nmsB (m.getD n .dead) = [] := by rw [hg]; exact nmsB_flat (nfB_row c)
    have h2 : reach m 79 [] [n] = [n] := rfl
    simp only [reach, List.contains_nil, cond_false, List.nil_append, h1, h2]
  have hv1 : rens (idx [n]) [.int k a, .agg (pcC h (.sl 1 n 0 q))] = [.int k a, .agg (pcC h (.sl 1 0 0 q))] := by
    have : idx [n] n = 0 := by simp [idx]
    simp only [rens, ren, pcC, hdC, cl]
    simp [List.range, List.range.loop, rens, ren, this]
  have hview : view [n] m = [rowB c] := by
    simp only [view, List.map_cons, List.map_nil, hg]
    rw [nfB_renB _ (nfB_row c)]
  have hclo : closedB [n] m = true := by
    simp only [closedB, nodupB, List.contains_nil, Bool.not_false, Bool.true_and, List.all_cons, List.all_nil, Bool.and_true, hg, nfB_inDB _ (nfB_row c), Nat.blt_eq, hlt]
  have hin : inDs (fun k => [n].contains k) [.int k a, .agg (pcC h (.sl 1 n 0 q))] = true := by
    simp only [inDs, inD, pcC, hdC, cl]
    simp [List.range, List.range.loop, inDs, inD]
  refine callD_at [n] (Snd_lendB (vs := [.int k a, .agg (pcC h (.sl 1 0 0 q))]) (m := [rowB c]) ?_ ?_ hs hv) he hr ?_ hv1 hview hv ?_ rfl rfl ?_ hk
  · rw [List.map_cons, List.map_cons, List.map_nil, lend_pc [rowB c] h 0 q c rfl hq]
    rfl
  · simp only [nfs, nf, nf_pkA, Bool.and_self]
  · simp only [okCall, hin, hclo, Bool.and_self]
  · exact all_inDB (nfM_cons (nfB_row c) rfl)
  · rw [p_merge (nfB_row c)]
    have := List.set_getElem_self hlt
    rw [(List.getElem?_eq_some_iff.1 hm).2] at this
    exact this
/-- A call on a row of the caller's and a value. -/
theorem callD_ru {f : FuncId} {m : Mem} {K Kp : V → Mem → Prop} {n q : Nat} {c : List Nat} {u v : V} (hs : AnsB Try.prog f [byV c, u] v) (he : enterable Try.prog f = true) (hu : nf u = true) (hv : nf v = true) (hm : m[n]? = some (rowB c)) (hq : q = c.length) (hk : K v m) : callD Try.prog f [.sl 1 n 0 q, u] m K Kp := by
  have hlt : n < m.length := (List.getElem?_eq_some_iff.1 hm).1
  have hg : m.getD n .dead = rowB c := by simp [List.getD, hm]
  have hun : nms u = [] := by
    have := nfs_nmss [u] (by simp only [nfs, hu, Bool.and_self])
    simpa [nmss] using this
  have hr : rootsV m [.sl 1 n 0 q, u] = [n] := by
    unfold rootsV
    simp only [nmss, nms, hun, List.append_nil]
    have h1 : nmsB (m.getD n .dead) = [] := by rw [hg]; exact nmsB_flat (nfB_row c)
    have h2 : reach m 79 [] [n] = [n] := rfl
    simp only [reach, List.contains_nil, cond_false, List.nil_append, h1, h2]
  have hclo : closedB [n] m = true := by
    simp only [closedB, nodupB, List.contains_nil, Bool.not_false, Bool.true_and, List.all_cons, List.all_nil, Bool.and_true, hg, nfB_inDB _ (nfB_row c), Nat.blt_eq, hlt]
  have hview : view [n] m = [rowB c] := by
    simp only [view, List.map_cons, List.map_nil, hg]
    rw [nfB_renB _ (nfB_row c)]
  have hl : lendV [rowB c] (.sl 1 0 0 q) = byV c := by
    have := lend_at (m := [rowB c]) (n := 0) (k := q) (a := 0) (l := c) rfl (by omega)
    rw [List.drop_zero] at this
    exact this
  refine callD_at [n] (Snd_lendB (vs := [.sl 1 0 0 q, u]) (m := [rowB c]) ?_ ?_ hs hv) he hr ?_ ?_ hview hv ?_ rfl rfl ?_ hk
  · rw [List.map_cons, List.map_cons, List.map_nil, hl, nf_lend hu]
  · simp only [nfs, nf_by, hu, Bool.and_self]
  · have : inDs (fun k => [n].contains k) [.sl 1 n 0 q, u] = true := by
      simp only [inDs, nf_inD _ _ hu, inD]
      simp
    simp only [okCall, this, hclo, Bool.and_self]
  · have : idx [n] n = 0 := by simp [idx]
    simp only [rens, ren, this, ren_nf _ _ hu]
  · exact all_inDB (nfM_cons (nfB_row c) rfl)
  · rw [p_merge (nfB_row c)]
    have := List.set_getElem_self hlt
    rw [(List.getElem?_eq_some_iff.1 hm).2] at this
    exact this
theorem pk_s11 (h : Hd) (b : List Nat) (x : V) : (pkC h b).set 11 x = pcC h x := rfl
theorem gt4096 (x : Nat) : decide ((4096 : Int) < (x : Int)) = decide (4096 < x) := by rw [Bool.eq_iff_iff]; simp; omega
theorem ansL_len (s : Nat) (h : Hd) (b : List Nat) : (ansL s h b).length ≤ 42 := by
  unfold ansL
  cases isA s h b
  · simp
  · rw [cond_true, arp_len]; omega
set_option maxHeartbeats 4000000 in
theorem ans8 (s : Nat) (p : Pk) (hs : s < 18446744073709551616) (okp : U64h p.h ∧ okB p.b) : Ans Try.prog 8 [.int .u64 (s : Int), pkA p.h p.b] (.bool true) := by
  obtain ⟨h, b⟩ := p
  obtain ⟨hh, hpb, hpl⟩ := okp
  simp only at hh hpb hpl ⊢
  refine Snd_of_W fol rfl rfl (by kernel_rfl) (by kernel_rfl) ?_
  unfold pkA
  have lA : ∀ m, lenV Try.prog m 22 (byV b) = some (.int .i64 (b.length : Int)) := fun m => len_by _ _
  cases e : decide (4096 < b.length)
  rotate_left
  · simp -implicitDefEqProofs only [sims.1, fx.1, keeps.1, tick_on, calleeK, extractV, oneV, faddrK, nonnil, b_shr, b_shl, fieldK, Nat.reduceAdd, Nat.reduceMul, Nat.reduceSub, Nat.reduceEqDiff, Nat.reduceLT, Nat.reduceLeDiff, Nat.reduceBEq, Nat.reduceBNe, reduceIte, Int.reduceEq, Int.reduceLT, Int.reduceLE, Int.reduceNe, Int.reduceToNat, pks.1, lA, gt4096, e]
    refine callD_ans ans23 en23 rfl rfl ?_
    simp -implicitDefEqProofs only [sims.1, fx.1, keeps.1, tick_on, calleeK, extractV, oneV, faddrK, nonnil, b_shr, b_shl, fieldK, Nat.reduceAdd, Nat.reduceMul, Nat.reduceSub, Nat.reduceEqDiff, Nat.reduceLT, Nat.reduceLeDiff, Nat.reduceBEq, Nat.reduceBNe, reduceIte, Int.reduceEq, Int.reduceLT, Int.reduceLE, Int.reduceNe, Int.reduceToNat]
    exact ans_ret rfl
  have hb2 : b.length ≤ 4096 := by have := of_decide_eq_false e; omega
  simp -implicitDefEqProofs only [sims.1, fx.1, keeps.1, tick_on, calleeK, extractV, oneV, faddrK, nonnil, b_shr, b_shl, fieldK, Nat.reduceAdd, Nat.reduceMul, Nat.reduceSub, Nat.reduceEqDiff, Nat.reduceLT, Nat.reduceLeDiff, Nat.reduceBEq, Nat.reduceBNe, reduceIte, Int.reduceEq, Int.reduceLT, Int.reduceLE, Int.reduceNe, Int.reduceToNat, pks.1, lA, gt4096, e, pk_all, pk_len, pc_len, pc0z, sp_zk, bsl0]
  rw [apB [] b]
  rotate_left
  · exact ct_by
  · rfl
  · rfl
  · omega
  · omega
  simp -implicitDefEqProofs only [sims.1, fx.1, keeps.1, tick_on, calleeK, extractV, oneV, faddrK, nonnil, b_shr, b_shl, fieldK, Nat.reduceAdd, Nat.reduceMul, Nat.reduceSub, Nat.reduceEqDiff, Nat.reduceLT, Nat.reduceLeDiff, Nat.reduceBEq, Nat.reduceBNe, reduceIte, Int.reduceEq, Int.reduceLT, Int.reduceLE, Int.reduceNe, Int.reduceToNat, pks.1, Nat.zero_add, storeK_slp, pk_len, pk_s11, pc_all]
  refine callD_pk2 (ansB24 s h b hs hh) en24 (by simp only [nf, nfs, nf_by, Bool.and_self]) rfl rfl ?_
  simp -implicitDefEqProofs only [sims.1, fx.1, keeps.1, tick_on, calleeK, extractV, oneV, faddrK, nonnil, b_shr, b_shl, fieldK, Nat.reduceAdd, Nat.reduceMul, Nat.reduceSub, Nat.reduceEqDiff, Nat.reduceLT, Nat.reduceLeDiff, Nat.reduceBEq, Nat.reduceBNe, reduceIte, Int.reduceEq, Int.reduceLT, Int.reduceLE, Int.reduceNe, Int.reduceToNat, pks.1, pk_all]
  refine callD_ans (ans25 s h b hs hh) en25 (show nfs [.int .u64 (s : Int), pkA h b] = true by simp only [nfs, nf_pkA, nf, Bool.and_self]) (by simp only [nf, nfs, nf_by, Bool.and_self]) ?_
  simp -implicitDefEqProofs only [sims.1, fx.1, keeps.1, tick_on, calleeK, extractV, oneV, faddrK, nonnil, b_shr, b_shl, fieldK, Nat.reduceAdd, Nat.reduceMul, Nat.reduceSub, Nat.reduceEqDiff, Nat.reduceLT, Nat.reduceLeDiff, Nat.reduceBEq, Nat.reduceBNe, reduceIte, Int.reduceEq, Int.reduceLT, Int.reduceLE, Int.reduceNe, Int.reduceToNat, pks.1]
  refine callD_ans (ans20 (ansL s h b) (ansL s h b) (by have := ansL_len s h b; omega)) en20 (by simp only [nfs, nf_by, Bool.and_self]) rfl ?_
  have e2 : decide (ansL s h b = ansL s h b) = true := by simp
  rw [e2]
  simp -implicitDefEqProofs only [sims.1, fx.1, keeps.1, tick_on, calleeK, extractV, oneV, faddrK, nonnil, b_shr, b_shl, fieldK, Nat.reduceAdd, Nat.reduceMul, Nat.reduceSub, Nat.reduceEqDiff, Nat.reduceLT, Nat.reduceLeDiff, Nat.reduceBEq, Nat.reduceBNe, reduceIte, Int.reduceEq, Int.reduceLT, Int.reduceLE, Int.reduceNe, Int.reduceToNat, pks.1, pc11]
  refine callD_ru ((ans20 b b (by omega)).bareB rfl) en20 (nf_by _) rfl rfl rfl ?_
  have e3 : decide (b = b) = true := by simp
  rw [e3]
  simp -implicitDefEqProofs only [sims.1, fx.1, keeps.1, tick_on, calleeK, extractV, oneV, faddrK, nonnil, b_shr, b_shl, fieldK, Nat.reduceAdd, Nat.reduceMul, Nat.reduceSub, Nat.reduceEqDiff, Nat.reduceLT, Nat.reduceLeDiff, Nat.reduceBEq, Nat.reduceBNe, reduceIte, Int.reduceEq, Int.reduceLT, Int.reduceLE, Int.reduceNe, Int.reduceToNat]
  refine callD_ans ans23 en23 rfl rfl ?_
  simp -implicitDefEqProofs only [sims.1, fx.1, keeps.1, tick_on, calleeK, extractV, oneV, faddrK, nonnil, b_shr, b_shl, fieldK, Nat.reduceAdd, Nat.reduceMul, Nat.reduceSub, Nat.reduceEqDiff, Nat.reduceLT, Nat.reduceLeDiff, Nat.reduceBEq, Nat.reduceBNe, reduceIte, Int.reduceEq, Int.reduceLT, Int.reduceLE, Int.reduceNe, Int.reduceToNat]
  exact ans_ret rfl
theorem aH_0 (s d f t : Nat) : aH s d f t 0 = s := rfl
theorem aH_1 (s d f t : Nat) : aH s d f t 1 = d := rfl
theorem aH_3 (s d f t : Nat) : aH s d f t 3 = 0 := rfl
theorem aH_4 (s d f t : Nat) : aH s d f t 4 = f := rfl
theorem aH_5 (s d f t : Nat) : aH s d f t 5 = t := rfl
theorem rA_aH (s d f t op : Nat) (ho : op = 1 ∨ op = 2) (hs : s < 281474976710656) (hd : d < 281474976710656) (hf : f < 4294967296) (ht : t < 4294967296) : rA (aH s d f t) [op] = .tup [.bool (decide (op = 1)), .int .u64 (s : Int), .int .u32 (f : Int), .int .u32 (t : Int), .bool true] := by
  rw [rA_ok (isQ_aH s d f t op ho hs hd hf ht)]
  rfl
set_option maxHeartbeats 8000000 in
theorem ans10 (s o f t : Nat) (hs : s < 18446744073709551616) (ho : o < 18446744073709551616) (hf : f < 4294967296) (ht : t < 4294967296) : Ans Try.prog 10 [.int .u64 (s : Int), .int .u64 (o : Int), .int .u32 (f : Int), .int .u32 (t : Int)] (.bool true) := by
  refine Snd_of_W fol rfl rfl (by kernel_rfl) (by kernel_rfl) ?_
  have s1 := shrW s 48 (by omega)
  have o1 := shrW o 48 (by omega)
  have l3 : ∀ m, lenV Try.prog m 22 (byV []) = some (.int .i64 0) := fun m => by rw [len_by]; rfl
  have d0 : decide ((0 : Int) = 0) = true := rfl
  have d30 : decide ((30 : Int) = 30) = true := rfl
  simp -implicitDefEqProofs only [sims.1, fx.1, keeps.1, tick_on, calleeK, extractV, oneV, faddrK, nonnil, b_shr, b_shl, fieldK, Nat.reduceAdd, Nat.reduceMul, Nat.reduceSub, Nat.reduceEqDiff, Nat.reduceLT, Nat.reduceLeDiff, Nat.reduceBEq, Nat.reduceBNe, reduceIte, Int.reduceEq, Int.reduceLT, Int.reduceLE, Int.reduceNe, Int.reduceToNat]
  refine callD_ans (ans21 s f t hs hf ht) en21 rfl (nf_by _) ?_
  unfold askL
  cases e : decide (s < 281474976710656)
  · simp -implicitDefEqProofs only [sims.1, fx.1, keeps.1, tick_on, calleeK, extractV, oneV, faddrK, nonnil, b_shr, b_shl, fieldK, Nat.reduceAdd, Nat.reduceMul, Nat.reduceSub, Nat.reduceEqDiff, Nat.reduceLT, Nat.reduceLeDiff, Nat.reduceBEq, Nat.reduceBNe, reduceIte, Int.reduceEq, Int.reduceLT, Int.reduceLE, Int.reduceNe, Int.reduceToNat, s1, eqSh, e, l3, d0]
    refine callD_ans ans23 en23 rfl rfl ?_
    simp -implicitDefEqProofs only [sims.1, fx.1, keeps.1, tick_on, calleeK, extractV, oneV, faddrK, nonnil, b_shr, b_shl, fieldK, Nat.reduceAdd, Nat.reduceMul, Nat.reduceSub, Nat.reduceEqDiff, Nat.reduceLT, Nat.reduceLeDiff, Nat.reduceBEq, Nat.reduceBNe, reduceIte, Int.reduceEq, Int.reduceLT, Int.reduceLE, Int.reduceNe, Int.reduceToNat]
    exact ans_ret rfl
  have hs2 := of_decide_eq_true e
  simp -implicitDefEqProofs only [sims.1, fx.1, keeps.1, tick_on, calleeK, extractV, oneV, faddrK, nonnil, b_shr, b_shl, fieldK, Nat.reduceAdd, Nat.reduceMul, Nat.reduceSub, Nat.reduceEqDiff, Nat.reduceLT, Nat.reduceLeDiff, Nat.reduceBEq, Nat.reduceBNe, reduceIte, Int.reduceEq, Int.reduceLT, Int.reduceLE, Int.reduceNe, Int.reduceToNat, s1, eqSh, e]
  refine callD_ans (ans12 (frmR (aH s 281474976710655 f t) [1]) (fr_lt _ _ _ _ _ (.inl rfl)) (fr_len _ _ _ _ _)) en12 (by simp only [nfs, nf_by, Bool.and_self]) (by simp only [prsA, nf, nfs, nf_pkA, Bool.and_self]) ?_
  rw [prs_arp s 281474976710655 f t 1 (.inl rfl) hs2 (by omega) hf ht]
  unfold pkA
  simp -implicitDefEqProofs only [sims.1, fx.1, keeps.1, tick_on, calleeK, extractV, oneV, faddrK, nonnil, b_shr, b_shl, fieldK, Nat.reduceAdd, Nat.reduceMul, Nat.reduceSub, Nat.reduceEqDiff, Nat.reduceLT, Nat.reduceLeDiff, Nat.reduceBEq, Nat.reduceBNe, reduceIte, Int.reduceEq, Int.reduceLT, Int.reduceLE, Int.reduceNe, Int.reduceToNat, pks.1, pk_len, pc_len, pc0z, sp_zk, pk_all]
  have hu1 : U64h (aH s 281474976710655 f t) := aH_u64 _ _ _ _ hs (by omega) (by omega) (by omega)
  refine callD_ans (ans26 (aH s 281474976710655 f t) [1] hu1) en26 (show nfs [pkA _ _] = true by simp only [nfs, nf_pkA, Bool.and_self]) (nf_rA _ _) ?_
  rw [rA_aH s 281474976710655 f t 1 (.inl rfl) hs2 (by omega) hf ht]
  have dAll : decide (((281474976710655 : Nat) : Int) = 281474976710655) = true := by kernel_rfl
  have dz : decide (((0 : Nat) : Int) = 0) = true := rfl
  have d11 : decide (1 = 1) = true := rfl
  simp -implicitDefEqProofs only [sims.1, fx.1, keeps.1, tick_on, calleeK, extractV, oneV, faddrK, nonnil, b_shr, b_shl, fieldK, Nat.reduceAdd, Nat.reduceMul, Nat.reduceSub, Nat.reduceEqDiff, Nat.reduceLT, Nat.reduceLeDiff, Nat.reduceBEq, Nat.reduceBNe, reduceIte, Int.reduceEq, Int.reduceLT, Int.reduceLE, Int.reduceNe, Int.reduceToNat, pks.1, pk_all, pk1, pk3, aH_1, aH_3, dAll, dz, d0, d11]
  refine callD_ans (ans24 o (aH s 281474976710655 f t) [1] ho hu1) en24 (show nfs [.int .u64 (o : Int), pkA _ _] = true by simp only [nfs, nf_pkA, nf, Bool.and_self]) (by simp only [nf, nfs, nf_by, Bool.and_self]) ?_
  have ia := isA_aH o s 281474976710655 f t 1 (.inl rfl) hs2 (by omega) hf ht
  cases e2 : decide (o < 281474976710656)
  · rw [e2, d11] at ia
    have x1 : ansL o (aH s 281474976710655 f t) [1] = [] := by unfold ansL; rw [ia]; rfl
    have x2 : ansE o (aH s 281474976710655 f t) [1] = 30 := by unfold ansE; rw [ia]; rfl
    rw [x1, x2]
    simp -implicitDefEqProofs only [sims.1, fx.1, keeps.1, tick_on, calleeK, extractV, oneV, faddrK, nonnil, b_shr, b_shl, fieldK, Nat.reduceAdd, Nat.reduceMul, Nat.reduceSub, Nat.reduceEqDiff, Nat.reduceLT, Nat.reduceLeDiff, Nat.reduceBEq, Nat.reduceBNe, reduceIte, Int.reduceEq, Int.reduceLT, Int.reduceLE, Int.reduceNe, Int.reduceToNat, o1, eqSh, e2, l3, d0, d30]
    refine callD_ans ans23 en23 rfl rfl ?_
    simp -implicitDefEqProofs only [sims.1, fx.1, keeps.1, tick_on, calleeK, extractV, oneV, faddrK, nonnil, b_shr, b_shl, fieldK, Nat.reduceAdd, Nat.reduceMul, Nat.reduceSub, Nat.reduceEqDiff, Nat.reduceLT, Nat.reduceLeDiff, Nat.reduceBEq, Nat.reduceBNe, reduceIte, Int.reduceEq, Int.reduceLT, Int.reduceLE, Int.reduceNe, Int.reduceToNat]
    exact ans_ret rfl
  have ho2 := of_decide_eq_true e2
  rw [e2, d11] at ia
  have x1 : ansL o (aH s 281474976710655 f t) [1] = frmR (aH o s t f) [2] := by unfold ansL; rw [ia]; rfl
  have x2 : ansE o (aH s 281474976710655 f t) [1] = 0 := by unfold ansE; rw [ia]; rfl
  rw [x1, x2]
  simp -implicitDefEqProofs only [sims.1, fx.1, keeps.1, tick_on, calleeK, extractV, oneV, faddrK, nonnil, b_shr, b_shl, fieldK, Nat.reduceAdd, Nat.reduceMul, Nat.reduceSub, Nat.reduceEqDiff, Nat.reduceLT, Nat.reduceLeDiff, Nat.reduceBEq, Nat.reduceBNe, reduceIte, Int.reduceEq, Int.reduceLT, Int.reduceLE, Int.reduceNe, Int.reduceToNat, o1, eqSh, e2]
  refine callD_ans (ans12 (frmR (aH o s t f) [2]) (fr_lt _ _ _ _ _ (.inr rfl)) (fr_len _ _ _ _ _)) en12 (by simp only [nfs, nf_by, Bool.and_self]) (by simp only [prsA, nf, nfs, nf_pkA, Bool.and_self]) ?_
  rw [prs_arp o s t f 2 (.inr rfl) ho2 hs2 ht hf]
  unfold pkA
  simp -implicitDefEqProofs only [sims.1, fx.1, keeps.1, tick_on, calleeK, extractV, oneV, faddrK, nonnil, b_shr, b_shl, fieldK, Nat.reduceAdd, Nat.reduceMul, Nat.reduceSub, Nat.reduceEqDiff, Nat.reduceLT, Nat.reduceLeDiff, Nat.reduceBEq, Nat.reduceBNe, reduceIte, Int.reduceEq, Int.reduceLT, Int.reduceLE, Int.reduceNe, Int.reduceToNat, pks.1, pk_len, pc_len, pc0z, sp_zk, pk_all]
  have hu2 : U64h (aH o s t f) := aH_u64 _ _ _ _ ho hs (by omega) (by omega)
  refine callD_ans (ans26 (aH o s t f) [2] hu2) en26 (show nfs [pkA _ _] = true by simp only [nfs, nf_pkA, Bool.and_self]) (nf_rA _ _) ?_
  rw [rA_aH o s t f 2 (.inr rfl) ho2 hs2 ht hf]
  have d21 : decide (2 = 1) = false := rfl
  simp -implicitDefEqProofs only [sims.1, fx.1, keeps.1, tick_on, calleeK, extractV, oneV, faddrK, nonnil, b_shr, b_shl, fieldK, Nat.reduceAdd, Nat.reduceMul, Nat.reduceSub, Nat.reduceEqDiff, Nat.reduceLT, Nat.reduceLeDiff, Nat.reduceBEq, Nat.reduceBNe, reduceIte, Int.reduceEq, Int.reduceLT, Int.reduceLE, Int.reduceNe, Int.reduceToNat, pks.1, pk_all, d21]
  refine callD_ans (ans24 s (aH o s t f) [2] hs hu2) en24 (show nfs [.int .u64 (s : Int), pkA _ _] = true by simp only [nfs, nf_pkA, nf, Bool.and_self]) (by simp only [nf, nfs, nf_by, Bool.and_self]) ?_
  have ib := isA_aH s o s t f 2 (.inr rfl) ho2 hs2 ht hf
  rw [d21] at ib
  have y1 : ansL s (aH o s t f) [2] = [] := by unfold ansL; rw [ib]; rfl
  have y2 : ansE s (aH o s t f) [2] = 30 := by unfold ansE; rw [ib]; rfl
  rw [y1, y2]
  simp -implicitDefEqProofs only [sims.1, fx.1, keeps.1, tick_on, calleeK, extractV, oneV, faddrK, nonnil, b_shr, b_shl, fieldK, Nat.reduceAdd, Nat.reduceMul, Nat.reduceSub, Nat.reduceEqDiff, Nat.reduceLT, Nat.reduceLeDiff, Nat.reduceBEq, Nat.reduceBNe, reduceIte, Int.reduceEq, Int.reduceLT, Int.reduceLE, Int.reduceNe, Int.reduceToNat, pks.1, pk1, aH_1, d0, d30, l3]
  refine callD_ans ans23 en23 rfl rfl ?_
  simp -implicitDefEqProofs only [sims.1, fx.1, keeps.1, tick_on, calleeK, extractV, oneV, faddrK, nonnil, b_shr, b_shl, fieldK, Nat.reduceAdd, Nat.reduceMul, Nat.reduceSub, Nat.reduceEqDiff, Nat.reduceLT, Nat.reduceLeDiff, Nat.reduceBEq, Nat.reduceBNe, reduceIte, Int.reduceEq, Int.reduceLT, Int.reduceLE, Int.reduceNe, Int.reduceToNat]
  exact ans_ret rfl
/-! ### Arguments -/
theorem ans7i (s f t : Int) (hs : (Lit.int .u64 s).wf = true) (hf : (Lit.int .u32 f).wf = true) (ht : (Lit.int .u32 t).wf = true) : Ans Try.prog 7 [.int .u64 s, .int .u32 f, .int .u32 t] (.bool true) := by
  obtain ⟨s', ks, rfl⟩ := u64_nat hs
  obtain ⟨f', kf, rfl⟩ := u32_nat hf
  obtain ⟨t', kt, rfl⟩ := u32_nat ht
  exact ans7 s' f' t' ks kf kt
theorem ans8i (s : Int) (p : Pk) (hs : (Lit.int .u64 s).wf = true) (okp : U64h p.h ∧ okB p.b) : Ans Try.prog 8 [.int .u64 s, pkA p.h p.b] (.bool true) := by
  obtain ⟨s', ks, rfl⟩ := u64_nat hs
  exact ans8 s' p ks okp
theorem ans10i (s o f t : Int) (hs : (Lit.int .u64 s).wf = true) (ho : (Lit.int .u64 o).wf = true) (hf : (Lit.int .u32 f).wf = true) (ht : (Lit.int .u32 t).wf = true) : Ans Try.prog 10 [.int .u64 s, .int .u64 o, .int .u32 f, .int .u32 t] (.bool true) := by
  obtain ⟨s', ks, rfl⟩ := u64_nat hs
  obtain ⟨o', ko, rfl⟩ := u64_nat ho
  obtain ⟨f', kf, rfl⟩ := u32_nat hf
  obtain ⟨t', kt, rfl⟩ := u32_nat ht
  exact ans10 s' o' f' t' ks ko kf kt
theorem ans11i (p : Pk) (v o w : Int) (okp : U64h p.h ∧ okB p.b) (hv : (Lit.int .u16 v).wf = true) (ho : (Lit.int .u16 o).wf = true) (hw : (Lit.int .u16 w).wf = true) : Ans Try.prog 11 [pkA p.h p.b, .int .u16 v, .int .u16 o, .int .u16 w] (.bool true) := by
  obtain ⟨v', kv, rfl⟩ := u16_nat hv
  obtain ⟨o', ko, rfl⟩ := u16_nat ho
  obtain ⟨w', kw, rfl⟩ := u16_nat hw
  exact ans11 p v' o' w' okp kv ko kw
end Go.Proofs.Ytmbjjelbpnbmoaa
