/- ActionsRun and ActionsEach answer true. No condition. -/
import Derived.Test.YtaoaaffddillmaaLo
namespace Go.Proofs.Ytaoaaffddillmaa
open Go Ab
set_option linter.unusedSimpArgs false
set_option linter.unusedVariables false
set_option maxRecDepth 20000

theorem gr_tot : ∀ (l : List (List Act)) (n : Nat), gr n l = false → n + tot l ≤ 4096
  | [], n, h => by simp [gr] at h; simp [tot]; omega
  | c :: r, n, h => by
    unfold gr at h
    by_cases h1 : n ≤ 4096
    · rw [if_pos h1] at h
      have := gr_tot r _ h
      simp only [tot]; omega
    · rw [if_neg h1] at h
      cases h
theorem great_tot {l : List (List Act)} (h : great l = false) : l.length ≤ 4096 ∧ tot l ≤ 4096 := by
  have := gr_tot l _ h
  omega
theorem acts_len (ps : List Nat) : ∀ (c : List Act) (h : Hd) (out : List Hd) (p : Bool), (acts ps c h out p).1.length ≤ out.length + c.length
  | [], _, out, _ => by simp [acts]
  | a :: r, h, out, p => by
    simp only [acts, List.length_cons]
    cases decide (a.d = 0)
    · cases decide (a.d = 1)
      · cases decide (a.d = 2)
        · have := acts_len ps r h out p
          simp only [cond_false]; omega
        · have := acts_len ps r h out true
          simp only [cond_false, cond_true]; omega
      · cases hasP ps (sent h a 9)
        · have := acts_len ps r h out p
          simp only [cond_false, cond_true]; omega
        · have := acts_len ps r h (out ++ [sent h a]) p
          simp only [cond_false, cond_true, List.length_append, List.length_cons, List.length_nil] at this ⊢; omega
    · have := acts_len ps r (own' h a) out p
      simp only [cond_true]; omega
theorem runs_len (ps : List Nat) (h : Hd) : ∀ (l : List (List Act)) (out : List Hd) (p : Bool), (runs ps h l out p).1.length ≤ out.length + tot l
  | [], out, _ => by simp [runs]
  | c :: r, out, p => by
    have h1 := acts_len ps c h out p
    have h2 := runs_len ps h r (acts ps c h out p).1 (acts ps c h out p).2
    simp only [runs, tot]; omega
theorem setH_lt {h : Hd} {i n : Nat} (hh : U64 11 h) (hn : n < 18446744073709551616) : U64 11 (setH h i n) := by
  intro j hj
  unfold setH
  split
  · exact hn
  · exact hh j hj
theorem wf_n {a : Act} (h : wfA a) : a.n < 18446744073709551616 := by
  have := h.2.2
  simp [Lit.wf, IntKind.min, IntKind.max, IntKind.bits, IntKind.signed] at this
  omega
theorem acts_lt (ps : List Nat) : ∀ (c : List Act) (h : Hd) (out : List Hd) (p : Bool), (∀ a ∈ c, wfA a) → U64 11 h → (∀ o ∈ out, U64 11 o) → ∀ o ∈ (acts ps c h out p).1, U64 11 o
  | [], _, out, _, _, _, ho => by simpa [acts] using ho
  | a :: r, h, out, p, hc, hh, ho => by
    have hr : ∀ a ∈ r, wfA a := fun a h => hc a (by simp [h])
    have hn := wf_n (hc a (by simp))
    simp only [acts]
    cases decide (a.d = 0)
    · cases decide (a.d = 1)
      · cases decide (a.d = 2)
        · exact acts_lt ps r h out p hr hh ho
        · exact acts_lt ps r h out true hr hh ho
      · cases hasP ps (sent h a 9)
        · exact acts_lt ps r h out p hr hh ho
        · refine acts_lt ps r h (out ++ [sent h a]) p hr hh fun o h1 => ?_
          rcases List.mem_append.1 h1 with h1 | h1
          · exact ho o h1
          · simp only [List.mem_cons, List.not_mem_nil, or_false] at h1
            subst h1
            unfold sent
            split
            · exact hh
            · exact setH_lt hh hn
    · refine acts_lt ps r (own' h a) out p hr ?_ ho
      unfold own'
      split
      · exact setH_lt hh hn
      · exact hh
theorem runs_lt (ps : List Nat) (h : Hd) (hh : U64 11 h) : ∀ (l : List (List Act)) (out : List Hd) (p : Bool), (∀ c ∈ l, wfC c) → (∀ o ∈ out, U64 11 o) → ∀ o ∈ (runs ps h l out p).1, U64 11 o
  | [], _, _, _, ho => by simpa [runs] using ho
  | c :: r, out, p, hl, ho => by
    simp only [runs]
    exact runs_lt ps h hh r _ _ (fun c h => hl c (by simp [h])) (acts_lt ps c h out p (hl c (by simp)).2 hh ho)

theorem un35 : Try.prog.underlying 35 = some (.slice 48) := by kernel_rfl
theorem sl35 : isSliceT Try.prog 35 = true := by kernel_rfl
theorem ze48 : zeroE Try.prog 48 = some ([.int .u16 0], 1, 2) := by kernel_rfl
theorem bs35 (m : Mem) : bsliceV Try.prog 35 0 [] m = some (.sl 1 m.length 0 0, m ++ [.row 48 1 []]) := by kernel_rfl
theorem ap35 (m : Mem) (n : Nat) (qs ps : List Nat) (hm : m[n]? = some (.row 48 1 (qs.map ptC))) (hb : qs.length + ps.length < 1000000) (len : Nat) (hl : len = (qs.map ptC).length) :
    appendV Try.prog 35 35 (.sl 1 n 0 len) (ptV ps) m = some (.sl 1 m.length 0 ((qs ++ ps).map ptC).length, m.set n .dead ++ [.row 48 1 ((qs ++ ps).map ptC)]) := by
  rw [List.map_append]
  exact append_sl un35 ze48 sl35 cont_isl hm hl (by simp; omega) (by simp; omega)
theorem gt1000 (n : Nat) : decide ((1000 : Int) < (n : Int)) = decide (1000 < n) := by rw [Bool.eq_iff_iff]; simp; omega
theorem n1c (l : List (List Act)) : nfs [cpsV l] = true := nfs_cons (nf_cps _) rfl
theorem n3 (h : Hd) (l : List (List Act)) (ps : List Nat) : nfs [.agg (hdC h), cpsV l, ptV ps] = true := nfs_cons (nf_hda h) (nfs_cons (nf_cps l) (nfs_cons (nf_pt ps) rfl))

set_option maxHeartbeats 2000000 in
theorem ans7 (h : Hd) (l : List (List Act)) (ps : List Nat) (hh : U64 11 h) (hl : wfL l) (hp : wfP ps) : Ans Try.prog 7 [.agg (hdC h), cpsV l, ptV ps] (.bool true) := by
  refine Snd_of_W fol rfl rfl (by kernel_rfl) (by kernel_rfl) ?_
  simp -implicitDefEqProofs only [sims.1, fx.1, tick_on, calleeK, List.getElem?_toArray, extractV, oneV, faddrK, nonnil, b_shr, b_shl, eq_self, beq_self_eq_true, fieldK, Option.bind_some, Option.map_some, Option.bind_none, Option.map_none, List.map_cons, List.map_nil, List.getD_cons_zero, List.getD_cons_succ, List.getD_nil, List.length_nil, List.length_cons, List.length_set, List.nil_append, List.cons_append, List.append_nil, List.getElem?_cons_zero, List.getElem?_cons_succ, List.getElem?_nil, List.set_cons_zero, List.set_cons_succ, Nat.reduceAdd, Nat.zero_add, Nat.add_zero, Nat.mul_one, Nat.mul_zero, Nat.zero_mul, Nat.reduceMul, Nat.reduceSub, Nat.reduceEqDiff, Nat.reduceLT, Nat.reduceLeDiff, Nat.reduceBEq, Nat.reduceBNe, Nat.succ_ne_self, reduceIte, if_true, if_false, ite_self, decide_true, decide_false, Bool.not_true, Bool.not_false, Bool.and_true, Bool.true_and, Bool.and_false, Bool.false_and, Bool.or_true, Bool.true_or, Bool.or_false, Bool.false_or, cond_true, cond_false, Int.reduceEq, Int.reduceLT, Int.reduceLE, Int.reduceNe, Int.reduceToNat]
  refine callD_ans (ans9 l hl.small) en9 (n1c l) rfl ?_
  cases e : great l
  rotate_left
  · simp -implicitDefEqProofs only [sims.1, fx.1, tick_on, calleeK, List.getElem?_toArray, extractV, oneV, faddrK, nonnil, b_shr, b_shl, eq_self, beq_self_eq_true, fieldK, Option.bind_some, Option.map_some, Option.bind_none, Option.map_none, List.map_cons, List.map_nil, List.getD_cons_zero, List.getD_cons_succ, List.getD_nil, List.length_nil, List.length_cons, List.length_set, List.nil_append, List.cons_append, List.append_nil, List.getElem?_cons_zero, List.getElem?_cons_succ, List.getElem?_nil, List.set_cons_zero, List.set_cons_succ, Nat.reduceAdd, Nat.zero_add, Nat.add_zero, Nat.mul_one, Nat.mul_zero, Nat.zero_mul, Nat.reduceMul, Nat.reduceSub, Nat.reduceEqDiff, Nat.reduceLT, Nat.reduceLeDiff, Nat.reduceBEq, Nat.reduceBNe, Nat.succ_ne_self, reduceIte, if_true, if_false, ite_self, decide_true, decide_false, Bool.not_true, Bool.not_false, Bool.and_true, Bool.true_and, Bool.and_false, Bool.false_and, Bool.or_true, Bool.true_or, Bool.or_false, Bool.false_or, cond_true, cond_false, Int.reduceEq, Int.reduceLT, Int.reduceLE, Int.reduceNe, Int.reduceToNat, e]
    refine callD_ans ans10 en10 rfl rfl ?_
    simp -implicitDefEqProofs only [sims.1, fx.1, tick_on, calleeK, List.getElem?_toArray, extractV, oneV, faddrK, nonnil, b_shr, b_shl, eq_self, beq_self_eq_true, fieldK, Option.bind_some, Option.map_some, Option.bind_none, Option.map_none, List.map_cons, List.map_nil, List.getD_cons_zero, List.getD_cons_succ, List.getD_nil, List.length_nil, List.length_cons, List.length_set, List.nil_append, List.cons_append, List.append_nil, List.getElem?_cons_zero, List.getElem?_cons_succ, List.getElem?_nil, List.set_cons_zero, List.set_cons_succ, Nat.reduceAdd, Nat.zero_add, Nat.add_zero, Nat.mul_one, Nat.mul_zero, Nat.zero_mul, Nat.reduceMul, Nat.reduceSub, Nat.reduceEqDiff, Nat.reduceLT, Nat.reduceLeDiff, Nat.reduceBEq, Nat.reduceBNe, Nat.succ_ne_self, reduceIte, if_true, if_false, ite_self, decide_true, decide_false, Bool.not_true, Bool.not_false, Bool.and_true, Bool.true_and, Bool.and_false, Bool.false_and, Bool.or_true, Bool.true_or, Bool.or_false, Bool.false_or, cond_true, cond_false, Int.reduceEq, Int.reduceLT, Int.reduceLE, Int.reduceNe, Int.reduceToNat]
    exact ans_ret rfl
  obtain ⟨t1, t2⟩ := great_tot e
  cases e2 : decide (1000 < ps.length)
  rotate_left
  · simp -implicitDefEqProofs only [sims.1, fx.1, tick_on, calleeK, List.getElem?_toArray, extractV, oneV, faddrK, nonnil, b_shr, b_shl, eq_self, beq_self_eq_true, fieldK, Option.bind_some, Option.map_some, Option.bind_none, Option.map_none, List.map_cons, List.map_nil, List.getD_cons_zero, List.getD_cons_succ, List.getD_nil, List.length_nil, List.length_cons, List.length_set, List.nil_append, List.cons_append, List.append_nil, List.getElem?_cons_zero, List.getElem?_cons_succ, List.getElem?_nil, List.set_cons_zero, List.set_cons_succ, Nat.reduceAdd, Nat.zero_add, Nat.add_zero, Nat.mul_one, Nat.mul_zero, Nat.zero_mul, Nat.reduceMul, Nat.reduceSub, Nat.reduceEqDiff, Nat.reduceLT, Nat.reduceLeDiff, Nat.reduceBEq, Nat.reduceBNe, Nat.succ_ne_self, reduceIte, if_true, if_false, ite_self, decide_true, decide_false, Bool.not_true, Bool.not_false, Bool.and_true, Bool.true_and, Bool.and_false, Bool.false_and, Bool.or_true, Bool.true_or, Bool.or_false, Bool.false_or, cond_true, cond_false, Int.reduceEq, Int.reduceLT, Int.reduceLE, Int.reduceNe, Int.reduceToNat, e, len_pt, gt1000, e2]
    refine callD_ans ans10 en10 rfl rfl ?_
    simp -implicitDefEqProofs only [sims.1, fx.1, tick_on, calleeK, List.getElem?_toArray, extractV, oneV, faddrK, nonnil, b_shr, b_shl, eq_self, beq_self_eq_true, fieldK, Option.bind_some, Option.map_some, Option.bind_none, Option.map_none, List.map_cons, List.map_nil, List.getD_cons_zero, List.getD_cons_succ, List.getD_nil, List.length_nil, List.length_cons, List.length_set, List.nil_append, List.cons_append, List.append_nil, List.getElem?_cons_zero, List.getElem?_cons_succ, List.getElem?_nil, List.set_cons_zero, List.set_cons_succ, Nat.reduceAdd, Nat.zero_add, Nat.add_zero, Nat.mul_one, Nat.mul_zero, Nat.zero_mul, Nat.reduceMul, Nat.reduceSub, Nat.reduceEqDiff, Nat.reduceLT, Nat.reduceLeDiff, Nat.reduceBEq, Nat.reduceBNe, Nat.succ_ne_self, reduceIte, if_true, if_false, ite_self, decide_true, decide_false, Bool.not_true, Bool.not_false, Bool.and_true, Bool.true_and, Bool.and_false, Bool.false_and, Bool.or_true, Bool.true_or, Bool.or_false, Bool.false_or, cond_true, cond_false, Int.reduceEq, Int.reduceLT, Int.reduceLE, Int.reduceNe, Int.reduceToNat]
    exact ans_ret rfl
  have hpl : ps.length ≤ 1000 := by simpa using of_decide_eq_false e2
  simp -implicitDefEqProofs only [sims.1, fx.1, tick_on, calleeK, List.getElem?_toArray, extractV, oneV, faddrK, nonnil, b_shr, b_shl, eq_self, beq_self_eq_true, fieldK, Option.bind_some, Option.map_some, Option.bind_none, Option.map_none, List.map_cons, List.map_nil, List.getD_cons_zero, List.getD_cons_succ, List.getD_nil, List.length_nil, List.length_cons, List.length_set, List.nil_append, List.cons_append, List.append_nil, List.getElem?_cons_zero, List.getElem?_cons_succ, List.getElem?_nil, List.set_cons_zero, List.set_cons_succ, Nat.reduceAdd, Nat.zero_add, Nat.add_zero, Nat.mul_one, Nat.mul_zero, Nat.zero_mul, Nat.reduceMul, Nat.reduceSub, Nat.reduceEqDiff, Nat.reduceLT, Nat.reduceLeDiff, Nat.reduceBEq, Nat.reduceBNe, Nat.succ_ne_self, reduceIte, if_true, if_false, ite_self, decide_true, decide_false, Bool.not_true, Bool.not_false, Bool.and_true, Bool.true_and, Bool.and_false, Bool.false_and, Bool.or_true, Bool.true_or, Bool.or_false, Bool.false_or, cond_true, cond_false, Int.reduceEq, Int.reduceLT, Int.reduceLE, Int.reduceNe, Int.reduceToNat, e, len_pt, gt1000, e2]
  refine callD_ans (ans13 l (by omega) (by omega)) en13 (n1c l) (nf_cps l) ?_
  simp -implicitDefEqProofs only [sims.1, fx.1, tick_on, calleeK, List.getElem?_toArray, extractV, oneV, faddrK, nonnil, b_shr, b_shl, eq_self, beq_self_eq_true, fieldK, Option.bind_some, Option.map_some, Option.bind_none, Option.map_none, List.map_cons, List.map_nil, List.getD_cons_zero, List.getD_cons_succ, List.getD_nil, List.length_nil, List.length_cons, List.length_set, List.nil_append, List.cons_append, List.append_nil, List.getElem?_cons_zero, List.getElem?_cons_succ, List.getElem?_nil, List.set_cons_zero, List.set_cons_succ, Nat.reduceAdd, Nat.zero_add, Nat.add_zero, Nat.mul_one, Nat.mul_zero, Nat.zero_mul, Nat.reduceMul, Nat.reduceSub, Nat.reduceEqDiff, Nat.reduceLT, Nat.reduceLeDiff, Nat.reduceBEq, Nat.reduceBNe, Nat.succ_ne_self, reduceIte, if_true, if_false, ite_self, decide_true, decide_false, Bool.not_true, Bool.not_false, Bool.and_true, Bool.true_and, Bool.and_false, Bool.false_and, Bool.or_true, Bool.true_or, Bool.or_false, Bool.false_or, cond_true, cond_false, Int.reduceEq, Int.reduceLT, Int.reduceLE, Int.reduceNe, Int.reduceToNat, bs35]
  refine bindO_some' (ap35 _ 1 [] ps rfl (by simp; omega) 0 rfl) ?_
  simp -implicitDefEqProofs only [sims.1, fx.1, tick_on, calleeK, List.getElem?_toArray, extractV, oneV, faddrK, nonnil, b_shr, b_shl, eq_self, beq_self_eq_true, fieldK, Option.bind_some, Option.map_some, Option.bind_none, Option.map_none, List.map_cons, List.map_nil, List.getD_cons_zero, List.getD_cons_succ, List.getD_nil, List.length_nil, List.length_cons, List.length_set, List.nil_append, List.cons_append, List.append_nil, List.getElem?_cons_zero, List.getElem?_cons_succ, List.getElem?_nil, List.set_cons_zero, List.set_cons_succ, Nat.reduceAdd, Nat.zero_add, Nat.add_zero, Nat.mul_one, Nat.mul_zero, Nat.zero_mul, Nat.reduceMul, Nat.reduceSub, Nat.reduceEqDiff, Nat.reduceLT, Nat.reduceLeDiff, Nat.reduceBEq, Nat.reduceBNe, Nat.succ_ne_self, reduceIte, if_true, if_false, ite_self, decide_true, decide_false, Bool.not_true, Bool.not_false, Bool.and_true, Bool.true_and, Bool.and_false, Bool.false_and, Bool.or_true, Bool.true_or, Bool.or_false, Bool.false_or, cond_true, cond_false, Int.reduceEq, Int.reduceLT, Int.reduceLE, Int.reduceNe, Int.reduceToNat, part_hd]
  refine callD_lendB [2] [.agg (hdC h), cpsV l, ptV ps] (ansB14 h l ps hl hp (by omega)) en14 (n3 h l ps) (nf_run _) (nfM_cons (nfs_hd h) (nfM_cons rfl (nfM_cons (nfs_ptC ps) rfl))) (by kernel_rfl) (by kernel_rfl) (by kernel_rfl)
    (by simp only [List.map_cons, List.map_nil, nf_lend (nf_hda h), nf_lend (nf_cps l)]; rw [lend_row (ty := 48) (es := ps.map ptC) rfl rfl]; rfl) ?_
  have k1 := (ansB17 h l ps hl hp (by omega)).ans (n3 h l ps) (nf_run _)
  have k2 : Ans Try.prog 15 [hdsV (runs ps h l [] false).1, hdsV (runs ps h l [] false).1] (.bool true) := by
    refine ans15 _ ?_ (runs_lt ps h hh l [] false hl.2 (by simp))
    have := runs_len ps h l [] false
    simp only [List.length_nil] at this
    unfold lim; omega
  generalize runs ps h l [] false = x at *
  simp -implicitDefEqProofs only [sims.1, fx.1, tick_on, calleeK, List.getElem?_toArray, extractV, oneV, faddrK, nonnil, b_shr, b_shl, eq_self, beq_self_eq_true, fieldK, Option.bind_some, Option.map_some, Option.bind_none, Option.map_none, List.map_cons, List.map_nil, List.getD_cons_zero, List.getD_cons_succ, List.getD_nil, List.length_nil, List.length_cons, List.length_set, List.nil_append, List.cons_append, List.append_nil, List.getElem?_cons_zero, List.getElem?_cons_succ, List.getElem?_nil, List.set_cons_zero, List.set_cons_succ, Nat.reduceAdd, Nat.zero_add, Nat.add_zero, Nat.mul_one, Nat.mul_zero, Nat.zero_mul, Nat.reduceMul, Nat.reduceSub, Nat.reduceEqDiff, Nat.reduceLT, Nat.reduceLeDiff, Nat.reduceBEq, Nat.reduceBNe, Nat.succ_ne_self, reduceIte, if_true, if_false, ite_self, decide_true, decide_false, Bool.not_true, Bool.not_false, Bool.and_true, Bool.true_and, Bool.and_false, Bool.false_and, Bool.or_true, Bool.true_or, Bool.or_false, Bool.false_or, cond_true, cond_false, Int.reduceEq, Int.reduceLT, Int.reduceLE, Int.reduceNe, Int.reduceToNat, runV, part_hd]
  refine callD_ans k1 en17 (n3 h l ps) (nf_run _) ?_
  simp -implicitDefEqProofs only [sims.1, fx.1, tick_on, calleeK, List.getElem?_toArray, extractV, oneV, faddrK, nonnil, b_shr, b_shl, eq_self, beq_self_eq_true, fieldK, Option.bind_some, Option.map_some, Option.bind_none, Option.map_none, List.map_cons, List.map_nil, List.getD_cons_zero, List.getD_cons_succ, List.getD_nil, List.length_nil, List.length_cons, List.length_set, List.nil_append, List.cons_append, List.append_nil, List.getElem?_cons_zero, List.getElem?_cons_succ, List.getElem?_nil, List.set_cons_zero, List.set_cons_succ, Nat.reduceAdd, Nat.zero_add, Nat.add_zero, Nat.mul_one, Nat.mul_zero, Nat.zero_mul, Nat.reduceMul, Nat.reduceSub, Nat.reduceEqDiff, Nat.reduceLT, Nat.reduceLeDiff, Nat.reduceBEq, Nat.reduceBNe, Nat.succ_ne_self, reduceIte, if_true, if_false, ite_self, decide_true, decide_false, Bool.not_true, Bool.not_false, Bool.and_true, Bool.true_and, Bool.and_false, Bool.false_and, Bool.or_true, Bool.true_or, Bool.or_false, Bool.false_or, cond_true, cond_false, Int.reduceEq, Int.reduceLT, Int.reduceLE, Int.reduceNe, Int.reduceToNat, runV]
  refine W_loop (fun j : Nat => (mkEnv [(8, .sl 1 0 0 (ps.map ptC).length), (2, ptV ps), (13, .int .i64 (j : Int)), (9, hdsV x.1), (11, hdsV x.1), (10, .bool x.2), (12, .bool x.2), (7, cpsV l), (1, cpsV l)], [.row 48 1 (ps.map ptC)]))
    (fun j => j ≤ ps.length) (fun j => ps.length + 1 - j) 0
    (canon_flat (vs' := [.sl 1 0 0 (ps.map ptC).length, ptV ps, .int .i64 0, hdsV x.1, hdsV x.1, .bool x.2, .bool x.2, cpsV l, cpsV l]) [.sl 1 2 0 (ps.map ptC).length, ptV ps, .int .i64 0, hdsV x.1, hdsV x.1, .bool x.2, .bool x.2, cpsV l, cpsV l] [2] (nfM_cons (nfs_hd h) (nfM_cons rfl (nfM_cons (nfs_ptC ps) rfl))) (by kernel_rfl)
      (inDs_cons rfl (inDs_cons (nf_inD _ _ (nf_pt ps)) (inDs_cons rfl (inDs_cons (nf_inD _ _ (nf_hds _)) (inDs_cons (nf_inD _ _ (nf_hds _)) (inDs_cons rfl (inDs_cons rfl (inDs_cons (nf_inD _ _ (nf_cps l)) (inDs_cons (nf_inD _ _ (nf_cps l)) rfl))))))))) (by kernel_rfl) rfl rfl (by kernel_rfl) (by kernel_rfl) (by kernel_rfl)) (by omega) ?_
  intro j hj
  rcases Nat.lt_or_ge j ps.length with hi | hi
  · have c1 : decide (j < ps.length) = true := by simpa using hi
    have w2 := wrap_i64s j (by omega)
    have hm : (ps.map ptC)[j]? = some (ptC ps[j]) := by simp [hi]
    have i1 : iaddrS 1 (.sl 1 0 0 (ps.map ptC).length) (.int .i64 (j : Int)) = some (.ep 1 0 (0 + j) 0) := iaddrS_sl (by simpa using hi)
    simp -implicitDefEqProofs only [sims.1, fx.1, tick_on, calleeK, List.getElem?_toArray, extractV, oneV, faddrK, nonnil, b_shr, b_shl, eq_self, beq_self_eq_true, fieldK, Option.bind_some, Option.map_some, Option.bind_none, Option.map_none, List.map_cons, List.map_nil, List.getD_cons_zero, List.getD_cons_succ, List.getD_nil, List.length_nil, List.length_cons, List.length_set, List.nil_append, List.cons_append, List.append_nil, List.getElem?_cons_zero, List.getElem?_cons_succ, List.getElem?_nil, List.set_cons_zero, List.set_cons_succ, Nat.reduceAdd, Nat.zero_add, Nat.add_zero, Nat.mul_one, Nat.mul_zero, Nat.zero_mul, Nat.reduceMul, Nat.reduceSub, Nat.reduceEqDiff, Nat.reduceLT, Nat.reduceLeDiff, Nat.reduceBEq, Nat.reduceBNe, Nat.succ_ne_self, reduceIte, if_true, if_false, ite_self, decide_true, decide_false, Bool.not_true, Bool.not_false, Bool.and_true, Bool.true_and, Bool.and_false, Bool.false_and, Bool.or_true, Bool.true_or, Bool.or_false, Bool.false_or, cond_true, cond_false, Int.reduceEq, Int.reduceLT, Int.reduceLE, Int.reduceNe, Int.reduceToNat, len_pt, ltNat, c1]
    refine w_quiet ?_
    simp -implicitDefEqProofs only [sims.1, fx.1, tick_on, calleeK, List.getElem?_toArray, extractV, oneV, faddrK, nonnil, b_shr, b_shl, eq_self, beq_self_eq_true, fieldK, Option.bind_some, Option.map_some, Option.bind_none, Option.map_none, List.map_cons, List.map_nil, List.getD_cons_zero, List.getD_cons_succ, List.getD_nil, List.length_nil, List.length_cons, List.length_set, List.nil_append, List.cons_append, List.append_nil, List.getElem?_cons_zero, List.getElem?_cons_succ, List.getElem?_nil, List.set_cons_zero, List.set_cons_succ, Nat.reduceAdd, Nat.zero_add, Nat.add_zero, Nat.mul_one, Nat.mul_zero, Nat.zero_mul, Nat.reduceMul, Nat.reduceSub, Nat.reduceEqDiff, Nat.reduceLT, Nat.reduceLeDiff, Nat.reduceBEq, Nat.reduceBNe, Nat.succ_ne_self, reduceIte, if_true, if_false, ite_self, decide_true, decide_false, Bool.not_true, Bool.not_false, Bool.and_true, Bool.true_and, Bool.and_false, Bool.false_and, Bool.or_true, Bool.true_or, Bool.or_false, Bool.false_or, cond_true, cond_false, Int.reduceEq, Int.reduceLT, Int.reduceLE, Int.reduceNe, Int.reduceToNat, i1, loadK_ep, hm, ia_pt hi, part_pt, get_pt, w2]
    exact ⟨j + 1, canon_flat (vs' := [.sl 1 0 0 (ps.map ptC).length, ptV ps, .int .i64 ((j + 1 : Nat) : Int), hdsV x.1, hdsV x.1, .bool x.2, .bool x.2, cpsV l, cpsV l]) [.sl 1 0 0 (ps.map ptC).length, ptV ps, .int .i64 ((j + 1 : Nat) : Int), hdsV x.1, hdsV x.1, .bool x.2, .bool x.2, cpsV l, cpsV l] [0] (nfM_cons (nfs_ptC ps) rfl) (by kernel_rfl)
      (inDs_cons rfl (inDs_cons (nf_inD _ _ (nf_pt ps)) (inDs_cons rfl (inDs_cons (nf_inD _ _ (nf_hds _)) (inDs_cons (nf_inD _ _ (nf_hds _)) (inDs_cons rfl (inDs_cons rfl (inDs_cons (nf_inD _ _ (nf_cps l)) (inDs_cons (nf_inD _ _ (nf_cps l)) rfl))))))))) (by kernel_rfl) rfl rfl (by kernel_rfl) (by kernel_rfl) (by kernel_rfl), by omega, by omega⟩
  · have c1 : decide (j < ps.length) = false := by simp; omega
    simp -implicitDefEqProofs only [sims.1, fx.1, tick_on, calleeK, List.getElem?_toArray, extractV, oneV, faddrK, nonnil, b_shr, b_shl, eq_self, beq_self_eq_true, fieldK, Option.bind_some, Option.map_some, Option.bind_none, Option.map_none, List.map_cons, List.map_nil, List.getD_cons_zero, List.getD_cons_succ, List.getD_nil, List.length_nil, List.length_cons, List.length_set, List.nil_append, List.cons_append, List.append_nil, List.getElem?_cons_zero, List.getElem?_cons_succ, List.getElem?_nil, List.set_cons_zero, List.set_cons_succ, Nat.reduceAdd, Nat.zero_add, Nat.add_zero, Nat.mul_one, Nat.mul_zero, Nat.zero_mul, Nat.reduceMul, Nat.reduceSub, Nat.reduceEqDiff, Nat.reduceLT, Nat.reduceLeDiff, Nat.reduceBEq, Nat.reduceBNe, Nat.succ_ne_self, reduceIte, if_true, if_false, ite_self, decide_true, decide_false, Bool.not_true, Bool.not_false, Bool.and_true, Bool.true_and, Bool.and_false, Bool.false_and, Bool.or_true, Bool.true_or, Bool.or_false, Bool.false_or, cond_true, cond_false, Int.reduceEq, Int.reduceLT, Int.reduceLE, Int.reduceNe, Int.reduceToNat, len_pt, ltNat, c1]
    refine callD_ans k2 en15 (nfs_cons (nf_hds _) (nfs_cons (nf_hds _) rfl)) rfl ?_
    simp -implicitDefEqProofs only [sims.1, fx.1, tick_on, calleeK, List.getElem?_toArray, extractV, oneV, faddrK, nonnil, b_shr, b_shl, eq_self, beq_self_eq_true, fieldK, Option.bind_some, Option.map_some, Option.bind_none, Option.map_none, List.map_cons, List.map_nil, List.getD_cons_zero, List.getD_cons_succ, List.getD_nil, List.length_nil, List.length_cons, List.length_set, List.nil_append, List.cons_append, List.append_nil, List.getElem?_cons_zero, List.getElem?_cons_succ, List.getElem?_nil, List.set_cons_zero, List.set_cons_succ, Nat.reduceAdd, Nat.zero_add, Nat.add_zero, Nat.mul_one, Nat.mul_zero, Nat.zero_mul, Nat.reduceMul, Nat.reduceSub, Nat.reduceEqDiff, Nat.reduceLT, Nat.reduceLeDiff, Nat.reduceBEq, Nat.reduceBNe, Nat.succ_ne_self, reduceIte, if_true, if_false, ite_self, decide_true, decide_false, Bool.not_true, Bool.not_false, Bool.and_true, Bool.true_and, Bool.and_false, Bool.false_and, Bool.or_true, Bool.true_or, Bool.or_false, Bool.false_or, cond_true, cond_false, Int.reduceEq, Int.reduceLT, Int.reduceLE, Int.reduceNe, Int.reduceToNat]
    refine callD_ans (ans18 l l hl hl) en18 (nfs_cps2 l l) rfl ?_
    simp -implicitDefEqProofs only [sims.1, fx.1, tick_on, calleeK, List.getElem?_toArray, extractV, oneV, faddrK, nonnil, b_shr, b_shl, eq_self, beq_self_eq_true, fieldK, Option.bind_some, Option.map_some, Option.bind_none, Option.map_none, List.map_cons, List.map_nil, List.getD_cons_zero, List.getD_cons_succ, List.getD_nil, List.length_nil, List.length_cons, List.length_set, List.nil_append, List.cons_append, List.append_nil, List.getElem?_cons_zero, List.getElem?_cons_succ, List.getElem?_nil, List.set_cons_zero, List.set_cons_succ, Nat.reduceAdd, Nat.zero_add, Nat.add_zero, Nat.mul_one, Nat.mul_zero, Nat.zero_mul, Nat.reduceMul, Nat.reduceSub, Nat.reduceEqDiff, Nat.reduceLT, Nat.reduceLeDiff, Nat.reduceBEq, Nat.reduceBNe, Nat.succ_ne_self, reduceIte, if_true, if_false, ite_self, decide_true, decide_false, Bool.not_true, Bool.not_false, Bool.and_true, Bool.true_and, Bool.and_false, Bool.false_and, Bool.or_true, Bool.true_or, Bool.or_false, Bool.false_or, cond_true, cond_false, Int.reduceEq, Int.reduceLT, Int.reduceLE, Int.reduceNe, Int.reduceToNat]
    refine callD_ans (ans19 l l hl hl) en19 (nfs_cps2 l l) rfl ?_
    simp -implicitDefEqProofs only [sims.1, fx.1, tick_on, calleeK, List.getElem?_toArray, extractV, oneV, faddrK, nonnil, b_shr, b_shl, eq_self, beq_self_eq_true, fieldK, Option.bind_some, Option.map_some, Option.bind_none, Option.map_none, List.map_cons, List.map_nil, List.getD_cons_zero, List.getD_cons_succ, List.getD_nil, List.length_nil, List.length_cons, List.length_set, List.nil_append, List.cons_append, List.append_nil, List.getElem?_cons_zero, List.getElem?_cons_succ, List.getElem?_nil, List.set_cons_zero, List.set_cons_succ, Nat.reduceAdd, Nat.zero_add, Nat.add_zero, Nat.mul_one, Nat.mul_zero, Nat.zero_mul, Nat.reduceMul, Nat.reduceSub, Nat.reduceEqDiff, Nat.reduceLT, Nat.reduceLeDiff, Nat.reduceBEq, Nat.reduceBNe, Nat.succ_ne_self, reduceIte, if_true, if_false, ite_self, decide_true, decide_false, Bool.not_true, Bool.not_false, Bool.and_true, Bool.true_and, Bool.and_false, Bool.false_and, Bool.or_true, Bool.true_or, Bool.or_false, Bool.false_or, cond_true, cond_false, Int.reduceEq, Int.reduceLT, Int.reduceLE, Int.reduceNe, Int.reduceToNat]
    refine callD_ans ans10 en10 rfl rfl ?_
    simp -implicitDefEqProofs only [sims.1, fx.1, tick_on, calleeK, List.getElem?_toArray, extractV, oneV, faddrK, nonnil, b_shr, b_shl, eq_self, beq_self_eq_true, fieldK, Option.bind_some, Option.map_some, Option.bind_none, Option.map_none, List.map_cons, List.map_nil, List.getD_cons_zero, List.getD_cons_succ, List.getD_nil, List.length_nil, List.length_cons, List.length_set, List.nil_append, List.cons_append, List.append_nil, List.getElem?_cons_zero, List.getElem?_cons_succ, List.getElem?_nil, List.set_cons_zero, List.set_cons_succ, Nat.reduceAdd, Nat.zero_add, Nat.add_zero, Nat.mul_one, Nat.mul_zero, Nat.zero_mul, Nat.reduceMul, Nat.reduceSub, Nat.reduceEqDiff, Nat.reduceLT, Nat.reduceLeDiff, Nat.reduceBEq, Nat.reduceBNe, Nat.succ_ne_self, reduceIte, if_true, if_false, ite_self, decide_true, decide_false, Bool.not_true, Bool.not_false, Bool.and_true, Bool.true_and, Bool.and_false, Bool.false_and, Bool.or_true, Bool.true_or, Bool.or_false, Bool.false_or, cond_true, cond_false, Int.reduceEq, Int.reduceLT, Int.reduceLE, Int.reduceNe, Int.reduceToNat]
    exact ans_ret rfl
end Go.Proofs.Ytaoaaffddillmaa
