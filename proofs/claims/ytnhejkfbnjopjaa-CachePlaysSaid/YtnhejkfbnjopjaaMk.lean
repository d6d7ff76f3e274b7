/- CacheStays answers true. No condition. -/
import Derived.Test.YtnhejkfbnjopjaaMj
namespace Go.Proofs.Ytnhejkfbnjopjaa
open Go Ab
set_option linter.unusedSimpArgs false
set_option linter.unusedVariables false
set_option maxRecDepth 20000

theorem gt200 (n : Nat) : decide ((200 : Int) < (n : Int)) = decide (200 < n) := by rw [Bool.eq_iff_iff]; simp; omega
theorem sizeE (s : Int) : ∃ n : Nat, 2 ≤ n ∧ n ≤ 40 ∧ IntKind.i64.wrap (2 + (IntKind.i64.wrap (s.tmod 39 + 39)).tmod 39) = (n : Int) := by
  have h1 : -39 < s.tmod 39 ∧ s.tmod 39 < 39 := by
    have := Int.tmod_lt_of_pos s (show (0 : Int) < 39 by decide)
    have := Int.lt_tmod_of_pos s (show (0 : Int) < 39 by decide)
    omega
  have h2 : IntKind.i64.wrap (s.tmod 39 + 39) = s.tmod 39 + 39 := by simp [IntKind.wrap, IntKind.bits, IntKind.signed]; omega
  rw [h2]
  have h3 : 0 ≤ (s.tmod 39 + 39).tmod 39 ∧ (s.tmod 39 + 39).tmod 39 < 39 := ⟨Int.tmod_nonneg _ (by omega), Int.tmod_lt_of_pos _ (by decide)⟩
  refine ⟨(2 + (s.tmod 39 + 39).tmod 39).toNat, by omega, by omega, ?_⟩
  rw [show ((2 + (s.tmod 39 + 39).tmod 39).toNat : Int) = 2 + (s.tmod 39 + 39).tmod 39 by omega]
  simp [IntKind.wrap, IntKind.bits, IntKind.signed]; omega
theorem sz_nat (n : Nat) (h : n ≤ 1024) : sz (n : Int) = n := by unfold sz; omega
theorem Stay.first {n : Nat} (h : Hd) (hn : 2 ≤ n) : Stay (putR (List.replicate n e0) [] 0 0 h 7).1 h 0 := by
  have hf : fnd (List.replicate n e0) h = none := by
    unfold fnd
    rw [List.findIdx?_eq_none_iff]
    intro x hx
    rw [List.eq_of_mem_replicate hx]
    rfl
  have hfr : free (List.replicate n e0) = some 0 := free_at (by simp; omega) (by simp [e0]) (fun i _ h => by omega)
  unfold putR
  rw [if_neg (by simp; omega), hf, hfr]
  simp only
  refine ⟨by simp; omega, by simp [en1], by simp [en1, eqH_refl], by simp [en1], by simp [en1], fun j hj hj0 => ?_⟩
  rw [List.getElem_set_ne (by omega)]
  simp [e0]
theorem cam3_1 (x : B) (l : List Ent) (a : List (Hd × Nat)) (t hd : Nat) : (cam3 x l a t hd)[1]? = some x := rfl
theorem ne24 (h g : Hd) (hh : U64h h) (hg : U64h g) : eqV Try.prog 24 (.agg (hdC h)) (.agg (hdC g)) = some (eqH h g) := eq24 h g hh hg

theorem can3 {keep : List Nat} {env : Env} {h : Hd} {l : List Ent} {a : List (Hd × Nat)} {t hd : Nat} (vs : List V) {e' : Env} (hk : keep.map env = vs) (hL : reach (cam3 (.var 24 (hdC h)) l a t hd) 80 (List.range 0 ++ nmss vs) [] = [0, 1, 2, 3]) (hi : inDs (fun k => [0, 1, 2, 3].contains k) vs = true)
    (hv : rens (idx [0, 1, 2, 3]) vs = vs) (hE : mkEnv (keep.zip vs) = e') : canon 0 keep env (cam3 (.var 24 (hdC h)) l a t hd) = some (e', cam3 (.var 24 (hdC h)) l a t hd) := by
  refine canon_of vs [0, 1, 2, 3] hk hL hi ?_ hv hE rfl
  rw [closedL4 (n0 := 0) (n1 := 1) (n2 := 2) (n3 := 3) (b0 := cav 2 3 l.length t hd) (b1 := .var 24 (hdC h)) rfl rfl rfl rfl [0, 1, 2, 3] (by simp) rfl rfl (nfs_inDs _ _ (nfs_hd h)) (nfs_ens l) (nfp_at a)]
  rfl

set_option maxHeartbeats 4000000 in
theorem ans13 (size : Int) (h : Hd) (os : List Hd) (hh : U64h h) (ho : ∀ o ∈ os, U64h o) (hl : os.length < 281474976710656) : Ans Try.prog 13 [.int .i64 size, hdA h, hdsV os] (.bool true) := by
  refine Snd_of_W fol rfl rfl (by kernel_rfl) (by kernel_rfl) ?_
  obtain ⟨n, n1, n2, n3⟩ := sizeE size
  have nz : sz (n : Int) = n := sz_nat n (by omega)
  unfold hdA
  cases e2 : decide (200 < os.length)
  rotate_left
  · simp -implicitDefEqProofs only [sims.1, fx.1, tick_on, calleeK, List.getElem?_toArray, extractV, oneV, faddrK, nonnil, b_shr, b_shl, eq_self, beq_self_eq_true, fieldK, Option.bind_some, Option.map_some, Option.bind_none, Option.map_none, List.map_cons, List.map_nil, List.getD_cons_zero, List.getD_cons_succ, List.getD_nil, List.length_nil, List.length_cons, List.length_set, List.nil_append, List.cons_append, List.append_nil, List.getElem?_cons_zero, List.getElem?_cons_succ, List.getElem?_nil, List.set_cons_zero, List.set_cons_succ, Nat.reduceAdd, Nat.zero_add, Nat.add_zero, Nat.mul_one, Nat.mul_zero, Nat.zero_mul, Nat.reduceMul, Nat.reduceSub, Nat.reduceEqDiff, Nat.reduceLT, Nat.reduceLeDiff, Nat.reduceBEq, Nat.reduceBNe, Nat.succ_ne_self, reduceIte, if_true, if_false, ite_self, decide_true, decide_false, Bool.not_true, Bool.not_false, Bool.and_true, Bool.true_and, Bool.and_false, Bool.false_and, Bool.or_true, Bool.true_or, Bool.or_false, Bool.false_or, cond_true, cond_false, Int.reduceEq, Int.reduceLT, Int.reduceLE, Int.reduceNe, Int.reduceToNat, b_rem, Int.reduceEq, len_hds, gt200, e2]
    refine callD_ans ans26 en26 rfl rfl ?_
    simp -implicitDefEqProofs only [sims.1, fx.1, tick_on, calleeK, List.getElem?_toArray, extractV, oneV, faddrK, nonnil, b_shr, b_shl, eq_self, beq_self_eq_true, fieldK, Option.bind_some, Option.map_some, Option.bind_none, Option.map_none, List.map_cons, List.map_nil, List.getD_cons_zero, List.getD_cons_succ, List.getD_nil, List.length_nil, List.length_cons, List.length_set, List.nil_append, List.cons_append, List.append_nil, List.getElem?_cons_zero, List.getElem?_cons_succ, List.getElem?_nil, List.set_cons_zero, List.set_cons_succ, Nat.reduceAdd, Nat.zero_add, Nat.add_zero, Nat.mul_one, Nat.mul_zero, Nat.zero_mul, Nat.reduceMul, Nat.reduceSub, Nat.reduceEqDiff, Nat.reduceLT, Nat.reduceLeDiff, Nat.reduceBEq, Nat.reduceBNe, Nat.succ_ne_self, reduceIte, if_true, if_false, ite_self, decide_true, decide_false, Bool.not_true, Bool.not_false, Bool.and_true, Bool.true_and, Bool.and_false, Bool.false_and, Bool.or_true, Bool.true_or, Bool.or_false, Bool.false_or, cond_true, cond_false, Int.reduceEq, Int.reduceLT, Int.reduceLE, Int.reduceNe, Int.reduceToNat]
    exact ans_ret rfl
  have hol : os.length ≤ 200 := by simpa using of_decide_eq_false e2
  simp -implicitDefEqProofs only [sims.1, fx.1, tick_on, calleeK, List.getElem?_toArray, extractV, oneV, faddrK, nonnil, b_shr, b_shl, eq_self, beq_self_eq_true, fieldK, Option.bind_some, Option.map_some, Option.bind_none, Option.map_none, List.map_cons, List.map_nil, List.getD_cons_zero, List.getD_cons_succ, List.getD_nil, List.length_nil, List.length_cons, List.length_set, List.nil_append, List.cons_append, List.append_nil, List.getElem?_cons_zero, List.getElem?_cons_succ, List.getElem?_nil, List.set_cons_zero, List.set_cons_succ, Nat.reduceAdd, Nat.zero_add, Nat.add_zero, Nat.mul_one, Nat.mul_zero, Nat.zero_mul, Nat.reduceMul, Nat.reduceSub, Nat.reduceEqDiff, Nat.reduceLT, Nat.reduceLeDiff, Nat.reduceBEq, Nat.reduceBNe, Nat.succ_ne_self, reduceIte, if_true, if_false, ite_self, decide_true, decide_false, Bool.not_true, Bool.not_false, Bool.and_true, Bool.true_and, Bool.and_false, Bool.false_and, Bool.or_true, Bool.true_or, Bool.or_false, Bool.false_or, cond_true, cond_false, Int.reduceEq, Int.reduceLT, Int.reduceLE, Int.reduceNe, Int.reduceToNat, b_rem, Int.reduceEq, len_hds, gt200, e2, n3]
  have q27 := snd27 (n : Int)
  rw [nz] at q27
  refine callD_new' (v := .ptr 1 0) (m' := [.var 24 (hdC h), cav 2 3 n 0 0, .row 69 15 ((List.replicate n e0).map enC), .map []]) q27 en27 rfl rfl rfl (all3 _ _ _ _) (by kernel_rfl) (by simp only [caM, caV, List.length_replicate]; rfl) ?_
  simp -implicitDefEqProofs only [sims.1, fx.1, tick_on, calleeK, List.getElem?_toArray, extractV, oneV, faddrK, nonnil, b_shr, b_shl, eq_self, beq_self_eq_true, fieldK, Option.bind_some, Option.map_some, Option.bind_none, Option.map_none, List.map_cons, List.map_nil, List.getD_cons_zero, List.getD_cons_succ, List.getD_nil, List.length_nil, List.length_cons, List.length_set, List.nil_append, List.cons_append, List.append_nil, List.getElem?_cons_zero, List.getElem?_cons_succ, List.getElem?_nil, List.set_cons_zero, List.set_cons_succ, Nat.reduceAdd, Nat.zero_add, Nat.add_zero, Nat.mul_one, Nat.mul_zero, Nat.zero_mul, Nat.reduceMul, Nat.reduceSub, Nat.reduceEqDiff, Nat.reduceLT, Nat.reduceLeDiff, Nat.reduceBEq, Nat.reduceBNe, Nat.succ_ne_self, reduceIte, if_true, if_false, ite_self, decide_true, decide_false, Bool.not_true, Bool.not_false, Bool.and_true, Bool.true_and, Bool.and_false, Bool.false_and, Bool.or_true, Bool.true_or, Bool.or_false, Bool.false_or, cond_true, cond_false, Int.reduceEq, Int.reduceLT, Int.reduceLE, Int.reduceNe, Int.reduceToNat, part_hd]
  -- the first one
  have I0 : Inv (List.replicate n e0) [] := Inv.none
  have P := putR_inv (t := 0) (hd := 0) (id := 7) I0 hh (.inr (by simp; omega))
  have q31 := snd31 (List.replicate n e0) [] 0 0 h 7 I0 hh (by simp; omega) (.inr (by simp; omega))
  have S0 : ∃ p, Stay (putR (List.replicate n e0) [] 0 0 h 7).1 h p := ⟨0, Stay.first h (by omega)⟩
  generalize (putR (List.replicate n e0) [] 0 0 h 7).1 = l1 at *
  generalize (putR (List.replicate n e0) [] 0 0 h 7).2.1 = a1 at *
  generalize (putR (List.replicate n e0) [] 0 0 h 7).2.2 = hd1 at *
  obtain ⟨p, S⟩ := S0
  obtain ⟨I1, len1, hd1'⟩ := P
  simp only [List.length_replicate] at len1 hd1'
  have hq : view [1, 2, 3] [.var 24 (hdC h), cav 2 3 n 0 0, .row 69 15 ((List.replicate n e0).map enC), .map []] = caM (List.replicate n e0) [] 0 0 := by
    simp only [caM, caV, List.length_replicate]; rfl
  refine callD_at (m' := [.var 24 (hdC h), cav 2 3 l1.length 0 hd1, .row 69 15 (l1.map enC), .map (a1.map atC)]) [1, 2, 3] q31 en31 (by kernel_rfl) ?_ (by kernel_rfl) hq rfl (all3 _ _ _ _) (by kernel_rfl) rfl (by kernel_rfl) ?_
  · unfold okCall
    rw [closedL3 (n0 := 1) (n1 := 2) (n2 := 3) rfl rfl rfl rfl rfl (nfs_ens _) rfl]
    rfl
  simp -implicitDefEqProofs only [sims.1, fx.1, tick_on, calleeK, List.getElem?_toArray, extractV, oneV, faddrK, nonnil, b_shr, b_shl, eq_self, beq_self_eq_true, fieldK, Option.bind_some, Option.map_some, Option.bind_none, Option.map_none, List.map_cons, List.map_nil, List.getD_cons_zero, List.getD_cons_succ, List.getD_nil, List.length_nil, List.length_cons, List.length_set, List.nil_append, List.cons_append, List.append_nil, List.getElem?_cons_zero, List.getElem?_cons_succ, List.getElem?_nil, List.set_cons_zero, List.set_cons_succ, Nat.reduceAdd, Nat.zero_add, Nat.add_zero, Nat.mul_one, Nat.mul_zero, Nat.zero_mul, Nat.reduceMul, Nat.reduceSub, Nat.reduceEqDiff, Nat.reduceLT, Nat.reduceLeDiff, Nat.reduceBEq, Nat.reduceBNe, Nat.succ_ne_self, reduceIte, if_true, if_false, ite_self, decide_true, decide_false, Bool.not_true, Bool.not_false, Bool.and_true, Bool.true_and, Bool.and_false, Bool.false_and, Bool.or_true, Bool.true_or, Bool.or_false, Bool.false_or, cond_true, cond_false, Int.reduceEq, Int.reduceLT, Int.reduceLE, Int.reduceNe, Int.reduceToNat]
  refine W_loop (fun x : Nat × List Ent × List (Hd × Nat) × Nat => (mkEnv [(2, hdsV os), (8, .int .i64 (x.1 : Int)), (7, .ptr 0 0), (4, .ptr 1 0)], cam3 (.var 24 (hdC h)) x.2.1 x.2.2.1 0 x.2.2.2))
    (fun x => x.1 ≤ os.length ∧ Inv x.2.1 x.2.2.1 ∧ x.2.1.length = n ∧ x.2.2.2 < n ∧ ∃ p, Stay x.2.1 h p) (fun x => os.length + 1 - x.1) (0, l1, a1, hd1) ?_ ⟨by simp, I1, len1, by simp only; omega, p, S⟩ ?_
  · refine canon_of [hdsV os, .int .i64 0, .ptr 1 0, .ptr 0 0] [1, 0, 2, 3] (by kernel_rfl) (by kernel_rfl) (inDs_cons (nf_inD _ _ (nf_hds os)) rfl) ?_ (vs' := [hdsV os, .int .i64 0, .ptr 0 0, .ptr 1 0]) (by kernel_rfl) (by kernel_rfl) (by kernel_rfl)
    rw [closedL4 (n0 := 1) (n1 := 0) (n2 := 2) (n3 := 3) (b0 := cav 2 3 l1.length 0 hd1) (b1 := .var 24 (hdC h)) rfl rfl rfl rfl [1, 0, 2, 3] (by simp) rfl rfl (nfs_inDs _ _ (nfs_hd h)) (nfs_ens l1) (nfp_at a1)]
    rfl
  clear I1 len1 hd1' S q31
  rintro ⟨j, l, a, hd⟩ ⟨h1, I, hn, hhd, p, S⟩
  simp only at h1 I hn hhd S
  obtain ⟨g1, g2, g3⟩ := S.got I
  have q29 := snd29' l a 0 hd h I hh
  have I2 := get_inv I 0 h
  have S2 := S.mark true
  rw [g1, g2, g3] at q29
  rw [g2, g3] at I2
  have hlen2 : (l.set p { l[p]'S.lt with mark := true }).length = n := by simpa using hn
  have hm2 : ((l.set p { l[p]'S.lt with mark := true })[p]'S2.lt).mark = true := by simp
  clear g1 g2 g3
  generalize l.set p { l[p]'S.lt with mark := true } = l2 at *
  rcases Nat.lt_or_ge j os.length with hj | hj
  · have c1 : decide (j < os.length) = true := by simpa using hj
    have w1 := wrap_i64s j (by omega)
    have hoj := ho _ (List.getElem_mem hj)
    have io : ∀ {k : IntKind}, iaddrS 11 (hdsV os) (.int k (j : Int)) = some (.ip (hdC os[j])) := fun {k} => ia_hds hj
    have cq := eq24 os[j] h hoj hh
    simp -implicitDefEqProofs only [sims.1, fx.1, tick_on, calleeK, List.getElem?_toArray, extractV, oneV, faddrK, nonnil, b_shr, b_shl, eq_self, beq_self_eq_true, fieldK, Option.bind_some, Option.map_some, Option.bind_none, Option.map_none, List.map_cons, List.map_nil, List.getD_cons_zero, List.getD_cons_succ, List.getD_nil, List.length_nil, List.length_cons, List.length_set, List.nil_append, List.cons_append, List.append_nil, List.getElem?_cons_zero, List.getElem?_cons_succ, List.getElem?_nil, List.set_cons_zero, List.set_cons_succ, Nat.reduceAdd, Nat.zero_add, Nat.add_zero, Nat.mul_one, Nat.mul_zero, Nat.zero_mul, Nat.reduceMul, Nat.reduceSub, Nat.reduceEqDiff, Nat.reduceLT, Nat.reduceLeDiff, Nat.reduceBEq, Nat.reduceBNe, Nat.succ_ne_self, reduceIte, if_true, if_false, ite_self, decide_true, decide_false, Bool.not_true, Bool.not_false, Bool.and_true, Bool.true_and, Bool.and_false, Bool.false_and, Bool.or_true, Bool.true_or, Bool.or_false, Bool.false_or, cond_true, cond_false, Int.reduceEq, Int.reduceLT, Int.reduceLE, Int.reduceNe, Int.reduceToNat, len_hds, ltNat, c1]
    simp -implicitDefEqProofs only [sims.1, fx.1, tick_on, calleeK, List.getElem?_toArray, extractV, oneV, faddrK, nonnil, b_shr, b_shl, eq_self, beq_self_eq_true, fieldK, Option.bind_some, Option.map_some, Option.bind_none, Option.map_none, List.map_cons, List.map_nil, List.getD_cons_zero, List.getD_cons_succ, List.getD_nil, List.length_nil, List.length_cons, List.length_set, List.nil_append, List.cons_append, List.append_nil, List.getElem?_cons_zero, List.getElem?_cons_succ, List.getElem?_nil, List.set_cons_zero, List.set_cons_succ, Nat.reduceAdd, Nat.zero_add, Nat.add_zero, Nat.mul_one, Nat.mul_zero, Nat.zero_mul, Nat.reduceMul, Nat.reduceSub, Nat.reduceEqDiff, Nat.reduceLT, Nat.reduceLeDiff, Nat.reduceBEq, Nat.reduceBNe, Nat.succ_ne_self, reduceIte, if_true, if_false, ite_self, decide_true, decide_false, Bool.not_true, Bool.not_false, Bool.and_true, Bool.true_and, Bool.and_false, Bool.false_and, Bool.or_true, Bool.true_or, Bool.or_false, Bool.false_or, cond_true, cond_false, Int.reduceEq, Int.reduceLT, Int.reduceLE, Int.reduceNe, Int.reduceToNat, cam3_1, part_hd]
    refine callD_c3 q29 en29 (by kernel_rfl) (by kernel_rfl) (by kernel_rfl) rfl ?_
    simp -implicitDefEqProofs only [sims.1, fx.1, tick_on, calleeK, List.getElem?_toArray, extractV, oneV, faddrK, nonnil, b_shr, b_shl, eq_self, beq_self_eq_true, fieldK, Option.bind_some, Option.map_some, Option.bind_none, Option.map_none, List.map_cons, List.map_nil, List.getD_cons_zero, List.getD_cons_succ, List.getD_nil, List.length_nil, List.length_cons, List.length_set, List.nil_append, List.cons_append, List.append_nil, List.getElem?_cons_zero, List.getElem?_cons_succ, List.getElem?_nil, List.set_cons_zero, List.set_cons_succ, Nat.reduceAdd, Nat.zero_add, Nat.add_zero, Nat.mul_one, Nat.mul_zero, Nat.zero_mul, Nat.reduceMul, Nat.reduceSub, Nat.reduceEqDiff, Nat.reduceLT, Nat.reduceLeDiff, Nat.reduceBEq, Nat.reduceBNe, Nat.succ_ne_self, reduceIte, if_true, if_false, ite_self, decide_true, decide_false, Bool.not_true, Bool.not_false, Bool.and_true, Bool.true_and, Bool.and_false, Bool.false_and, Bool.or_true, Bool.true_or, Bool.or_false, Bool.false_or, cond_true, cond_false, Int.reduceEq, Int.reduceLT, Int.reduceLE, Int.reduceNe, Int.reduceToNat]
    refine w_quiet ?_
    simp -implicitDefEqProofs only [sims.1, fx.1, tick_on, calleeK, List.getElem?_toArray, extractV, oneV, faddrK, nonnil, b_shr, b_shl, eq_self, beq_self_eq_true, fieldK, Option.bind_some, Option.map_some, Option.bind_none, Option.map_none, List.map_cons, List.map_nil, List.getD_cons_zero, List.getD_cons_succ, List.getD_nil, List.length_nil, List.length_cons, List.length_set, List.nil_append, List.cons_append, List.append_nil, List.getElem?_cons_zero, List.getElem?_cons_succ, List.getElem?_nil, List.set_cons_zero, List.set_cons_succ, Nat.reduceAdd, Nat.zero_add, Nat.add_zero, Nat.mul_one, Nat.mul_zero, Nat.zero_mul, Nat.reduceMul, Nat.reduceSub, Nat.reduceEqDiff, Nat.reduceLT, Nat.reduceLeDiff, Nat.reduceBEq, Nat.reduceBNe, Nat.succ_ne_self, reduceIte, if_true, if_false, ite_self, decide_true, decide_false, Bool.not_true, Bool.not_false, Bool.and_true, Bool.true_and, Bool.and_false, Bool.false_and, Bool.or_true, Bool.true_or, Bool.or_false, Bool.false_or, cond_true, cond_false, Int.reduceEq, Int.reduceLT, Int.reduceLE, Int.reduceNe, Int.reduceToNat, io, part_hd, cam3_1, cq]
    cases eo : eqH os[j] h
    · simp -implicitDefEqProofs only [sims.1, fx.1, tick_on, calleeK, List.getElem?_toArray, extractV, oneV, faddrK, nonnil, b_shr, b_shl, eq_self, beq_self_eq_true, fieldK, Option.bind_some, Option.map_some, Option.bind_none, Option.map_none, List.map_cons, List.map_nil, List.getD_cons_zero, List.getD_cons_succ, List.getD_nil, List.length_nil, List.length_cons, List.length_set, List.nil_append, List.cons_append, List.append_nil, List.getElem?_cons_zero, List.getElem?_cons_succ, List.getElem?_nil, List.set_cons_zero, List.set_cons_succ, Nat.reduceAdd, Nat.zero_add, Nat.add_zero, Nat.mul_one, Nat.mul_zero, Nat.zero_mul, Nat.reduceMul, Nat.reduceSub, Nat.reduceEqDiff, Nat.reduceLT, Nat.reduceLeDiff, Nat.reduceBEq, Nat.reduceBNe, Nat.succ_ne_self, reduceIte, if_true, if_false, ite_self, decide_true, decide_false, Bool.not_true, Bool.not_false, Bool.and_true, Bool.true_and, Bool.and_false, Bool.false_and, Bool.or_true, Bool.true_or, Bool.or_false, Bool.false_or, cond_true, cond_false, Int.reduceEq, Int.reduceLT, Int.reduceLE, Int.reduceNe, Int.reduceToNat, io, part_hd]
      have q31 := snd31 l2 a 0 hd os[j] (j : Int) I2 hoj (by omega) (.inr (by omega))
      have P := putR_inv (t := 0) (hd := hd) (id := (j : Int)) I2 hoj (.inr (by omega))
      have S3 := Stay.put (hd := hd) (j : Int) I2 S2 (by omega) (by omega) eo hm2
      obtain ⟨l3, a3, hd3, hput⟩ : ∃ l3 a3 hd3, putR l2 a 0 hd os[j] (j : Int) = (l3, a3, hd3) := ⟨_, _, _, rfl⟩
      rw [hput] at q31 P S3
      simp only at q31 P S3
      refine callD_c3 q31 en31 (by kernel_rfl) (by kernel_rfl) (by kernel_rfl) rfl ?_
      simp -implicitDefEqProofs only [sims.1, fx.1, tick_on, calleeK, List.getElem?_toArray, extractV, oneV, faddrK, nonnil, b_shr, b_shl, eq_self, beq_self_eq_true, fieldK, Option.bind_some, Option.map_some, Option.bind_none, Option.map_none, List.map_cons, List.map_nil, List.getD_cons_zero, List.getD_cons_succ, List.getD_nil, List.length_nil, List.length_cons, List.length_set, List.nil_append, List.cons_append, List.append_nil, List.getElem?_cons_zero, List.getElem?_cons_succ, List.getElem?_nil, List.set_cons_zero, List.set_cons_succ, Nat.reduceAdd, Nat.zero_add, Nat.add_zero, Nat.mul_one, Nat.mul_zero, Nat.zero_mul, Nat.reduceMul, Nat.reduceSub, Nat.reduceEqDiff, Nat.reduceLT, Nat.reduceLeDiff, Nat.reduceBEq, Nat.reduceBNe, Nat.succ_ne_self, reduceIte, if_true, if_false, ite_self, decide_true, decide_false, Bool.not_true, Bool.not_false, Bool.and_true, Bool.true_and, Bool.and_false, Bool.false_and, Bool.or_true, Bool.true_or, Bool.or_false, Bool.false_or, cond_true, cond_false, Int.reduceEq, Int.reduceLT, Int.reduceLE, Int.reduceNe, Int.reduceToNat, w1]
      exact ⟨(j + 1, l3, a3, hd3), can3 [hdsV os, .int .i64 ((j + 1 : Nat) : Int), .ptr 0 0, .ptr 1 0] (by kernel_rfl) (by kernel_rfl) (inDs_cons (nf_inD _ _ (nf_hds os)) rfl) (by kernel_rfl) (by kernel_rfl), ⟨by simp only; omega, P.1, by simp only; omega, by have := P.2.2; simp only; omega, p, S3⟩, by simp only; omega⟩
    · simp -implicitDefEqProofs only [sims.1, fx.1, tick_on, calleeK, List.getElem?_toArray, extractV, oneV, faddrK, nonnil, b_shr, b_shl, eq_self, beq_self_eq_true, fieldK, Option.bind_some, Option.map_some, Option.bind_none, Option.map_none, List.map_cons, List.map_nil, List.getD_cons_zero, List.getD_cons_succ, List.getD_nil, List.length_nil, List.length_cons, List.length_set, List.nil_append, List.cons_append, List.append_nil, List.getElem?_cons_zero, List.getElem?_cons_succ, List.getElem?_nil, List.set_cons_zero, List.set_cons_succ, Nat.reduceAdd, Nat.zero_add, Nat.add_zero, Nat.mul_one, Nat.mul_zero, Nat.zero_mul, Nat.reduceMul, Nat.reduceSub, Nat.reduceEqDiff, Nat.reduceLT, Nat.reduceLeDiff, Nat.reduceBEq, Nat.reduceBNe, Nat.succ_ne_self, reduceIte, if_true, if_false, ite_self, decide_true, decide_false, Bool.not_true, Bool.not_false, Bool.and_true, Bool.true_and, Bool.and_false, Bool.false_and, Bool.or_true, Bool.true_or, Bool.or_false, Bool.false_or, cond_true, cond_false, Int.reduceEq, Int.reduceLT, Int.reduceLE, Int.reduceNe, Int.reduceToNat, w1]
      exact ⟨(j + 1, l2, a, hd), can3 [hdsV os, .int .i64 ((j + 1 : Nat) : Int), .ptr 0 0, .ptr 1 0] (by kernel_rfl) (by kernel_rfl) (inDs_cons (nf_inD _ _ (nf_hds os)) rfl) (by kernel_rfl) (by kernel_rfl), ⟨by simp only; omega, I2, hlen2, hhd, p, S2⟩, by simp only; omega⟩
  · have c1 : decide (j < os.length) = false := by simp; omega
    simp -implicitDefEqProofs only [sims.1, fx.1, tick_on, calleeK, List.getElem?_toArray, extractV, oneV, faddrK, nonnil, b_shr, b_shl, eq_self, beq_self_eq_true, fieldK, Option.bind_some, Option.map_some, Option.bind_none, Option.map_none, List.map_cons, List.map_nil, List.getD_cons_zero, List.getD_cons_succ, List.getD_nil, List.length_nil, List.length_cons, List.length_set, List.nil_append, List.cons_append, List.append_nil, List.getElem?_cons_zero, List.getElem?_cons_succ, List.getElem?_nil, List.set_cons_zero, List.set_cons_succ, Nat.reduceAdd, Nat.zero_add, Nat.add_zero, Nat.mul_one, Nat.mul_zero, Nat.zero_mul, Nat.reduceMul, Nat.reduceSub, Nat.reduceEqDiff, Nat.reduceLT, Nat.reduceLeDiff, Nat.reduceBEq, Nat.reduceBNe, Nat.succ_ne_self, reduceIte, if_true, if_false, ite_self, decide_true, decide_false, Bool.not_true, Bool.not_false, Bool.and_true, Bool.true_and, Bool.and_false, Bool.false_and, Bool.or_true, Bool.true_or, Bool.or_false, Bool.false_or, cond_true, cond_false, Int.reduceEq, Int.reduceLT, Int.reduceLE, Int.reduceNe, Int.reduceToNat, len_hds, ltNat, c1, cam3_1, part_hd]
    refine callD_c3 q29 en29 (by kernel_rfl) (by kernel_rfl) (by kernel_rfl) rfl ?_
    simp -implicitDefEqProofs only [sims.1, fx.1, tick_on, calleeK, List.getElem?_toArray, extractV, oneV, faddrK, nonnil, b_shr, b_shl, eq_self, beq_self_eq_true, fieldK, Option.bind_some, Option.map_some, Option.bind_none, Option.map_none, List.map_cons, List.map_nil, List.getD_cons_zero, List.getD_cons_succ, List.getD_nil, List.length_nil, List.length_cons, List.length_set, List.nil_append, List.cons_append, List.append_nil, List.getElem?_cons_zero, List.getElem?_cons_succ, List.getElem?_nil, List.set_cons_zero, List.set_cons_succ, Nat.reduceAdd, Nat.zero_add, Nat.add_zero, Nat.mul_one, Nat.mul_zero, Nat.zero_mul, Nat.reduceMul, Nat.reduceSub, Nat.reduceEqDiff, Nat.reduceLT, Nat.reduceLeDiff, Nat.reduceBEq, Nat.reduceBNe, Nat.succ_ne_self, reduceIte, if_true, if_false, ite_self, decide_true, decide_false, Bool.not_true, Bool.not_false, Bool.and_true, Bool.true_and, Bool.and_false, Bool.false_and, Bool.or_true, Bool.true_or, Bool.or_false, Bool.false_or, cond_true, cond_false, Int.reduceEq, Int.reduceLT, Int.reduceLE, Int.reduceNe, Int.reduceToNat]
    refine callD_ans ans26 en26 rfl rfl ?_
    simp -implicitDefEqProofs only [sims.1, fx.1, tick_on, calleeK, List.getElem?_toArray, extractV, oneV, faddrK, nonnil, b_shr, b_shl, eq_self, beq_self_eq_true, fieldK, Option.bind_some, Option.map_some, Option.bind_none, Option.map_none, List.map_cons, List.map_nil, List.getD_cons_zero, List.getD_cons_succ, List.getD_nil, List.length_nil, List.length_cons, List.length_set, List.nil_append, List.cons_append, List.append_nil, List.getElem?_cons_zero, List.getElem?_cons_succ, List.getElem?_nil, List.set_cons_zero, List.set_cons_succ, Nat.reduceAdd, Nat.zero_add, Nat.add_zero, Nat.mul_one, Nat.mul_zero, Nat.zero_mul, Nat.reduceMul, Nat.reduceSub, Nat.reduceEqDiff, Nat.reduceLT, Nat.reduceLeDiff, Nat.reduceBEq, Nat.reduceBNe, Nat.succ_ne_self, reduceIte, if_true, if_false, ite_self, decide_true, decide_false, Bool.not_true, Bool.not_false, Bool.and_true, Bool.true_and, Bool.and_false, Bool.false_and, Bool.or_true, Bool.true_or, Bool.or_false, Bool.false_or, cond_true, cond_false, Int.reduceEq, Int.reduceLT, Int.reduceLE, Int.reduceNe, Int.reduceToNat]
    exact ans_ret rfl
end Go.Proofs.Ytnhejkfbnjopjaa
