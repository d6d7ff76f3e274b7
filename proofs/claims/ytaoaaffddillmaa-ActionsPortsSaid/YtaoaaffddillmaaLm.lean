/- Copies in memory of their own; two lists of headers that are the same. No condition. -/
import Derived.Test.YtaoaaffddillmaaLl
namespace Go.Proofs.Ytaoaaffddillmaa
open Go Ab
set_option linter.unusedSimpArgs false
set_option linter.unusedVariables false
set_option maxRecDepth 20000

def cpR (c : List Act) : List V := [cpV c]
def cpsW (n : Nat) : List (List Act) → V
  | [] => .nils
  | c :: r => .sl 1 n 0 ((c :: r).map cpR).length
def cpsM : List (List Act) → Mem
  | [] => []
  | c :: r => [.row 42 1 ((c :: r).map cpR)]
theorem cpsW_nil (n : Nat) : cpsW n [] = .nils := rfl
theorem cpsW_cons (n : Nat) (c : List Act) (r : List (List Act)) : cpsW n (c :: r) = .sl 1 n 0 ((c :: r).map cpR).length := rfl
theorem cpsM_nil : cpsM [] = [] := rfl
theorem cpsM_cons (c : List Act) (r : List (List Act)) : cpsM (c :: r) = [.row 42 1 ((c :: r).map cpR)] := rfl
theorem nfs_cpR (l : List (List Act)) : nfss (l.map cpR) = true := nfs_cps l
theorem nfM_cps (l : List (List Act)) : nfM (cpsM l) = true := by
  cases l with
  | nil => rfl
  | cons c r => exact nfM_cons (nfs_cpR (c :: r)) rfl

theorem un27 : Try.prog.underlying 27 = some (.slice 42) := by kernel_rfl
theorem un42 : Try.prog.underlying 42 = some (.slice 45) := by kernel_rfl
theorem sl27 : isSliceT Try.prog 27 = true := by kernel_rfl
theorem sl42 : isSliceT Try.prog 42 = true := by kernel_rfl
theorem ze42 : zeroE Try.prog 42 = some ([.nils], 1, 24) := by kernel_rfl
theorem ze45 : zeroE Try.prog 45 = some ([.int .i8 0, .int .i8 0, .int .u64 0], 3, 16) := by kernel_rfl
theorem bs42 (m : Mem) : bsliceV Try.prog 42 0 [] m = some (.sl 3 m.length 0 0, m ++ [.row 45 3 []]) := by kernel_rfl
theorem bs27 (m : Mem) (n len ty : Nat) (es : List (List V)) (hm : m[n]? = some (.row ty 3 es)) (hl : len = es.length) : bsliceV Try.prog 27 1 [(0, .sl 3 n 0 len)] m = some (.sl 1 m.length 0 1, m.set n .dead ++ [.row 42 1 [[.isl 3 es]]]) :=
  bslice_one (t2 := 0) un27 ze42 hm hl
theorem ap42 (m : Mem) (n : Nat) (c : List Act) (hm : m[n]? = some (.row 45 3 [])) (hc : c.length < 1000000) : appendV Try.prog 42 42 (.sl 3 n 0 0) (cpV c) m = some (.sl 3 m.length 0 (c.map acC).length, m.set n .dead ++ [.row 45 3 (c.map acC)]) :=
  append_sl un42 ze45 sl42 cont_isl hm rfl (by simp; omega) (by simp; omega)
theorem ap27n (m : Mem) (n : Nat) (e : List V) (hm : m[n]? = some (.row 42 1 [e])) : appendV Try.prog 27 27 .nils (.sl 1 n 0 1) m = some (.sl 1 m.length 0 1, m ++ [.row 42 1 [e]]) :=
  append_nil un27 ze42 sl27 (cont_row hm rfl) (by simp) (by simp) (by simp)
theorem ap27 (m : Mem) (n k : Nat) (rows rows2 R : List (List V)) (hm : m[n]? = some (.row 42 1 rows)) (hk : m[k]? = some (.row 42 1 rows2)) (hb : rows.length + rows2.length < 1000000) (len len2 : Nat) (hl : len = rows.length) (hl2 : len2 = rows2.length) (hR : rows ++ rows2 = R) :
    appendV Try.prog 27 27 (.sl 1 n 0 len) (.sl 1 k 0 len2) m = some (.sl 1 m.length 0 R.length, m.set n .dead ++ [.row 42 1 R]) := by
  subst hR
  exact append_sl un27 ze42 sl27 (cont_row hk hl2) hm hl (by omega) (by omega)

theorem tot_at : ∀ {l : List (List Act)} {c : List Act}, c ∈ l → c.length ≤ tot l
  | d :: r, c, h => by
    simp only [tot]
    rcases List.mem_cons.1 h with rfl | h
    · omega
    · have := tot_at h; omega

set_option maxHeartbeats 2000000 in
theorem snd13 (l : List (List Act)) (hl : l.length ≤ 20000) (ht : tot l ≤ 20000) : Snd Try.prog 13 [cpsV l] [] fun r => r = .ret (cpsW 0 l) (cpsM l) := by
  refine Snd_of_W fol rfl rfl (by kernel_rfl) (by kernel_rfl) ?_
  simp -implicitDefEqProofs only [sims.1, fx.1, tick_on, calleeK, List.getElem?_toArray, extractV, oneV, faddrK, nonnil, b_shr, b_shl, eq_self, beq_self_eq_true, fieldK, Option.bind_some, Option.map_some, Option.bind_none, Option.map_none, List.map_cons, List.map_nil, List.getD_cons_zero, List.getD_cons_succ, List.getD_nil, List.length_nil, List.length_cons, List.length_set, List.nil_append, List.cons_append, List.append_nil, List.getElem?_cons_zero, List.getElem?_cons_succ, List.getElem?_nil, List.set_cons_zero, List.set_cons_succ, Nat.reduceAdd, Nat.zero_add, Nat.add_zero, Nat.mul_one, Nat.mul_zero, Nat.zero_mul, Nat.reduceMul, Nat.reduceSub, Nat.reduceEqDiff, Nat.reduceLT, Nat.reduceLeDiff, Nat.reduceBEq, Nat.reduceBNe, Nat.succ_ne_self, reduceIte, if_true, if_false, ite_self, decide_true, decide_false, Bool.not_true, Bool.not_false, Bool.and_true, Bool.true_and, Bool.and_false, Bool.false_and, Bool.or_true, Bool.true_or, Bool.or_false, Bool.false_or, cond_true, cond_false, Int.reduceEq, Int.reduceLT, Int.reduceLE, Int.reduceNe, Int.reduceToNat]
  refine W_loop (fun x : Nat × List (List Act) => (mkEnv [(0, cpsV l), (4, .int .i64 (x.1 : Int)), (3, cpsW 0 x.2)], cpsM x.2))
    (fun x => x.1 ≤ l.length ∧ x.2.length = x.1 ∧ x.2 ++ l.drop x.1 = l) (fun x => l.length + 1 - x.1) (0, [])
    (canon_flat (vs' := [cpsV l, .int .i64 0, .nils]) [cpsV l, .int .i64 0, .nils] [] rfl (by kernel_rfl) (inDs_cons (nf_inD _ _ (nf_cps l)) rfl) (by kernel_rfl) rfl rfl (by kernel_rfl) (by kernel_rfl) (by kernel_rfl)) ⟨by simp, rfl, by simp⟩ ?_
  rintro ⟨i, out⟩ ⟨h1, h2, h3⟩
  simp only at h1 h2 h3
  rcases Nat.lt_or_ge i l.length with hi | hi
  rotate_left
  · have c1 : decide (i < l.length) = false := by simp; omega
    rw [List.drop_eq_nil_of_le hi, List.append_nil] at h3
    subst h3
    simp -implicitDefEqProofs only [sims.1, fx.1, tick_on, calleeK, List.getElem?_toArray, extractV, oneV, faddrK, nonnil, b_shr, b_shl, eq_self, beq_self_eq_true, fieldK, Option.bind_some, Option.map_some, Option.bind_none, Option.map_none, List.map_cons, List.map_nil, List.getD_cons_zero, List.getD_cons_succ, List.getD_nil, List.length_nil, List.length_cons, List.length_set, List.nil_append, List.cons_append, List.append_nil, List.getElem?_cons_zero, List.getElem?_cons_succ, List.getElem?_nil, List.set_cons_zero, List.set_cons_succ, Nat.reduceAdd, Nat.zero_add, Nat.add_zero, Nat.mul_one, Nat.mul_zero, Nat.zero_mul, Nat.reduceMul, Nat.reduceSub, Nat.reduceEqDiff, Nat.reduceLT, Nat.reduceLeDiff, Nat.reduceBEq, Nat.reduceBNe, Nat.succ_ne_self, reduceIte, if_true, if_false, ite_self, decide_true, decide_false, Bool.not_true, Bool.not_false, Bool.and_true, Bool.true_and, Bool.and_false, Bool.false_and, Bool.or_true, Bool.true_or, Bool.or_false, Bool.false_or, cond_true, cond_false, Int.reduceEq, Int.reduceLT, Int.reduceLE, Int.reduceNe, Int.reduceToNat, len_cps, ltNat, c1]
  have c1 : decide (i < l.length) = true := by simpa using hi
  have w1 := wrap_i64s i (by omega)
  have ic : ∀ {k : IntKind}, iaddrS 1 (cpsV l) (.int k (i : Int)) = some (.ip [cpV l[i]]) := fun {k} => ia_cps hi
  have hc : l[i].length < 1000000 := by have := tot_at (List.getElem_mem hi); omega
  rw [List.drop_eq_getElem_cons hi] at h3
  generalize l[i] = c at *
  cases out with
  | nil =>
    simp -implicitDefEqProofs only [sims.1, fx.1, tick_on, calleeK, List.getElem?_toArray, extractV, oneV, faddrK, nonnil, b_shr, b_shl, eq_self, beq_self_eq_true, fieldK, Option.bind_some, Option.map_some, Option.bind_none, Option.map_none, List.map_cons, List.map_nil, List.getD_cons_zero, List.getD_cons_succ, List.getD_nil, List.length_nil, List.length_cons, List.length_set, List.nil_append, List.cons_append, List.append_nil, List.getElem?_cons_zero, List.getElem?_cons_succ, List.getElem?_nil, List.set_cons_zero, List.set_cons_succ, Nat.reduceAdd, Nat.zero_add, Nat.add_zero, Nat.mul_one, Nat.mul_zero, Nat.zero_mul, Nat.reduceMul, Nat.reduceSub, Nat.reduceEqDiff, Nat.reduceLT, Nat.reduceLeDiff, Nat.reduceBEq, Nat.reduceBNe, Nat.succ_ne_self, reduceIte, if_true, if_false, ite_self, decide_true, decide_false, Bool.not_true, Bool.not_false, Bool.and_true, Bool.true_and, Bool.and_false, Bool.false_and, Bool.or_true, Bool.true_or, Bool.or_false, Bool.false_or, cond_true, cond_false, Int.reduceEq, Int.reduceLT, Int.reduceLE, Int.reduceNe, Int.reduceToNat, len_cps, ltNat, c1, ic, cpsW_nil, cpsM_nil, bs42]
    refine bindO_some' (ap42 _ 0 c rfl hc) ?_
    simp -implicitDefEqProofs only [sims.1, fx.1, tick_on, calleeK, List.getElem?_toArray, extractV, oneV, faddrK, nonnil, b_shr, b_shl, eq_self, beq_self_eq_true, fieldK, Option.bind_some, Option.map_some, Option.bind_none, Option.map_none, List.map_cons, List.map_nil, List.getD_cons_zero, List.getD_cons_succ, List.getD_nil, List.length_nil, List.length_cons, List.length_set, List.nil_append, List.cons_append, List.append_nil, List.getElem?_cons_zero, List.getElem?_cons_succ, List.getElem?_nil, List.set_cons_zero, List.set_cons_succ, Nat.reduceAdd, Nat.zero_add, Nat.add_zero, Nat.mul_one, Nat.mul_zero, Nat.zero_mul, Nat.reduceMul, Nat.reduceSub, Nat.reduceEqDiff, Nat.reduceLT, Nat.reduceLeDiff, Nat.reduceBEq, Nat.reduceBNe, Nat.succ_ne_self, reduceIte, if_true, if_false, ite_self, decide_true, decide_false, Bool.not_true, Bool.not_false, Bool.and_true, Bool.true_and, Bool.and_false, Bool.false_and, Bool.or_true, Bool.true_or, Bool.or_false, Bool.false_or, cond_true, cond_false, Int.reduceEq, Int.reduceLT, Int.reduceLE, Int.reduceNe, Int.reduceToNat]
    refine bindO_some' (bs27 _ 1 _ 45 (c.map acC) rfl rfl) ?_
    simp -implicitDefEqProofs only [sims.1, fx.1, tick_on, calleeK, List.getElem?_toArray, extractV, oneV, faddrK, nonnil, b_shr, b_shl, eq_self, beq_self_eq_true, fieldK, Option.bind_some, Option.map_some, Option.bind_none, Option.map_none, List.map_cons, List.map_nil, List.getD_cons_zero, List.getD_cons_succ, List.getD_nil, List.length_nil, List.length_cons, List.length_set, List.nil_append, List.cons_append, List.append_nil, List.getElem?_cons_zero, List.getElem?_cons_succ, List.getElem?_nil, List.set_cons_zero, List.set_cons_succ, Nat.reduceAdd, Nat.zero_add, Nat.add_zero, Nat.mul_one, Nat.mul_zero, Nat.zero_mul, Nat.reduceMul, Nat.reduceSub, Nat.reduceEqDiff, Nat.reduceLT, Nat.reduceLeDiff, Nat.reduceBEq, Nat.reduceBNe, Nat.succ_ne_self, reduceIte, if_true, if_false, ite_self, decide_true, decide_false, Bool.not_true, Bool.not_false, Bool.and_true, Bool.true_and, Bool.and_false, Bool.false_and, Bool.or_true, Bool.true_or, Bool.or_false, Bool.false_or, cond_true, cond_false, Int.reduceEq, Int.reduceLT, Int.reduceLE, Int.reduceNe, Int.reduceToNat]
    refine bindO_some' (ap27n _ 2 [.isl 3 (c.map acC)] rfl) ?_
    simp -implicitDefEqProofs only [sims.1, fx.1, tick_on, calleeK, List.getElem?_toArray, extractV, oneV, faddrK, nonnil, b_shr, b_shl, eq_self, beq_self_eq_true, fieldK, Option.bind_some, Option.map_some, Option.bind_none, Option.map_none, List.map_cons, List.map_nil, List.getD_cons_zero, List.getD_cons_succ, List.getD_nil, List.length_nil, List.length_cons, List.length_set, List.nil_append, List.cons_append, List.append_nil, List.getElem?_cons_zero, List.getElem?_cons_succ, List.getElem?_nil, List.set_cons_zero, List.set_cons_succ, Nat.reduceAdd, Nat.zero_add, Nat.add_zero, Nat.mul_one, Nat.mul_zero, Nat.zero_mul, Nat.reduceMul, Nat.reduceSub, Nat.reduceEqDiff, Nat.reduceLT, Nat.reduceLeDiff, Nat.reduceBEq, Nat.reduceBNe, Nat.succ_ne_self, reduceIte, if_true, if_false, ite_self, decide_true, decide_false, Bool.not_true, Bool.not_false, Bool.and_true, Bool.true_and, Bool.and_false, Bool.false_and, Bool.or_true, Bool.true_or, Bool.or_false, Bool.false_or, cond_true, cond_false, Int.reduceEq, Int.reduceLT, Int.reduceLE, Int.reduceNe, Int.reduceToNat, w1]
    exact ⟨(i + 1, [c]), canon_flat (vs' := [cpsV l, .int .i64 ((i + 1 : Nat) : Int), .sl 1 0 0 1]) [cpsV l, .int .i64 ((i + 1 : Nat) : Int), .sl 1 3 0 1] [3] (nfM_cons rfl (nfM_cons rfl (nfM_cons (nfs_cpR [c]) (nfM_cons (nfs_cpR [c]) rfl)))) (by kernel_rfl) (inDs_cons (nf_inD _ _ (nf_cps l)) rfl) (by kernel_rfl) rfl rfl (by kernel_rfl) (by kernel_rfl) (by kernel_rfl),
      ⟨by simp only; omega, by simp only [List.length_cons, List.length_nil] at h2 ⊢; omega, h3⟩, by simp only; omega⟩
  | cons d r =>
    have eR : ((d :: r).map cpR) ++ [cpR c] = ((d :: (r ++ [c])).map cpR) := by simp
    simp -implicitDefEqProofs only [sims.1, fx.1, tick_on, calleeK, List.getElem?_toArray, extractV, oneV, faddrK, nonnil, b_shr, b_shl, eq_self, beq_self_eq_true, fieldK, Option.bind_some, Option.map_some, Option.bind_none, Option.map_none, List.map_cons, List.map_nil, List.getD_cons_zero, List.getD_cons_succ, List.getD_nil, List.length_nil, List.length_cons, List.length_set, List.nil_append, List.cons_append, List.append_nil, List.getElem?_cons_zero, List.getElem?_cons_succ, List.getElem?_nil, List.set_cons_zero, List.set_cons_succ, Nat.reduceAdd, Nat.zero_add, Nat.add_zero, Nat.mul_one, Nat.mul_zero, Nat.zero_mul, Nat.reduceMul, Nat.reduceSub, Nat.reduceEqDiff, Nat.reduceLT, Nat.reduceLeDiff, Nat.reduceBEq, Nat.reduceBNe, Nat.succ_ne_self, reduceIte, if_true, if_false, ite_self, decide_true, decide_false, Bool.not_true, Bool.not_false, Bool.and_true, Bool.true_and, Bool.and_false, Bool.false_and, Bool.or_true, Bool.true_or, Bool.or_false, Bool.false_or, cond_true, cond_false, Int.reduceEq, Int.reduceLT, Int.reduceLE, Int.reduceNe, Int.reduceToNat, len_cps, ltNat, c1, ic, cpsW_cons, cpsM_cons, bs42]
    refine bindO_some' (ap42 _ 1 c rfl hc) ?_
    simp -implicitDefEqProofs only [sims.1, fx.1, tick_on, calleeK, List.getElem?_toArray, extractV, oneV, faddrK, nonnil, b_shr, b_shl, eq_self, beq_self_eq_true, fieldK, Option.bind_some, Option.map_some, Option.bind_none, Option.map_none, List.map_cons, List.map_nil, List.getD_cons_zero, List.getD_cons_succ, List.getD_nil, List.length_nil, List.length_cons, List.length_set, List.nil_append, List.cons_append, List.append_nil, List.getElem?_cons_zero, List.getElem?_cons_succ, List.getElem?_nil, List.set_cons_zero, List.set_cons_succ, Nat.reduceAdd, Nat.zero_add, Nat.add_zero, Nat.mul_one, Nat.mul_zero, Nat.zero_mul, Nat.reduceMul, Nat.reduceSub, Nat.reduceEqDiff, Nat.reduceLT, Nat.reduceLeDiff, Nat.reduceBEq, Nat.reduceBNe, Nat.succ_ne_self, reduceIte, if_true, if_false, ite_self, decide_true, decide_false, Bool.not_true, Bool.not_false, Bool.and_true, Bool.true_and, Bool.and_false, Bool.false_and, Bool.or_true, Bool.true_or, Bool.or_false, Bool.false_or, cond_true, cond_false, Int.reduceEq, Int.reduceLT, Int.reduceLE, Int.reduceNe, Int.reduceToNat]
    refine bindO_some' (bs27 _ 2 _ 45 (c.map acC) rfl rfl) ?_
    simp -implicitDefEqProofs only [sims.1, fx.1, tick_on, calleeK, List.getElem?_toArray, extractV, oneV, faddrK, nonnil, b_shr, b_shl, eq_self, beq_self_eq_true, fieldK, Option.bind_some, Option.map_some, Option.bind_none, Option.map_none, List.map_cons, List.map_nil, List.getD_cons_zero, List.getD_cons_succ, List.getD_nil, List.length_nil, List.length_cons, List.length_set, List.nil_append, List.cons_append, List.append_nil, List.getElem?_cons_zero, List.getElem?_cons_succ, List.getElem?_nil, List.set_cons_zero, List.set_cons_succ, Nat.reduceAdd, Nat.zero_add, Nat.add_zero, Nat.mul_one, Nat.mul_zero, Nat.zero_mul, Nat.reduceMul, Nat.reduceSub, Nat.reduceEqDiff, Nat.reduceLT, Nat.reduceLeDiff, Nat.reduceBEq, Nat.reduceBNe, Nat.succ_ne_self, reduceIte, if_true, if_false, ite_self, decide_true, decide_false, Bool.not_true, Bool.not_false, Bool.and_true, Bool.true_and, Bool.and_false, Bool.false_and, Bool.or_true, Bool.true_or, Bool.or_false, Bool.false_or, cond_true, cond_false, Int.reduceEq, Int.reduceLT, Int.reduceLE, Int.reduceNe, Int.reduceToNat]
    refine bindO_some' (ap27 _ 0 3 ((d :: r).map cpR) [cpR c] ((d :: (r ++ [c])).map cpR) rfl rfl (by simp only [List.length_map, List.length_cons, List.length_nil] at h2 ⊢; omega) _ 1 rfl rfl eR) ?_
    simp -implicitDefEqProofs only [sims.1, fx.1, tick_on, calleeK, List.getElem?_toArray, extractV, oneV, faddrK, nonnil, b_shr, b_shl, eq_self, beq_self_eq_true, fieldK, Option.bind_some, Option.map_some, Option.bind_none, Option.map_none, List.map_cons, List.map_nil, List.getD_cons_zero, List.getD_cons_succ, List.getD_nil, List.length_nil, List.length_cons, List.length_set, List.nil_append, List.cons_append, List.append_nil, List.getElem?_cons_zero, List.getElem?_cons_succ, List.getElem?_nil, List.set_cons_zero, List.set_cons_succ, Nat.reduceAdd, Nat.zero_add, Nat.add_zero, Nat.mul_one, Nat.mul_zero, Nat.zero_mul, Nat.reduceMul, Nat.reduceSub, Nat.reduceEqDiff, Nat.reduceLT, Nat.reduceLeDiff, Nat.reduceBEq, Nat.reduceBNe, Nat.succ_ne_self, reduceIte, if_true, if_false, ite_self, decide_true, decide_false, Bool.not_true, Bool.not_false, Bool.and_true, Bool.true_and, Bool.and_false, Bool.false_and, Bool.or_true, Bool.true_or, Bool.or_false, Bool.false_or, cond_true, cond_false, Int.reduceEq, Int.reduceLT, Int.reduceLE, Int.reduceNe, Int.reduceToNat, w1]
    exact ⟨(i + 1, d :: (r ++ [c])), canon_flat (vs' := [cpsV l, .int .i64 ((i + 1 : Nat) : Int), .sl 1 0 0 ((d :: (r ++ [c])).map cpR).length]) [cpsV l, .int .i64 ((i + 1 : Nat) : Int), .sl 1 4 0 ((d :: (r ++ [c])).map cpR).length] [4] (nfM_cons rfl (nfM_cons rfl (nfM_cons rfl (nfM_cons (nfs_cpR [c]) (nfM_cons (nfs_cpR (d :: (r ++ [c]))) rfl))))) (by kernel_rfl) (inDs_cons (nf_inD _ _ (nf_cps l)) rfl) (by kernel_rfl) rfl rfl (by kernel_rfl) (by kernel_rfl) (by kernel_rfl),
      ⟨by simp only; omega, by simp only [List.length_cons, List.length_append, List.length_nil] at h2 ⊢; omega, by simpa using h3⟩, by simp only; omega⟩

theorem ans13 (l : List (List Act)) (hl : l.length ≤ 20000) (ht : tot l ≤ 20000) : Ans Try.prog 13 [cpsV l] (cpsV l) := by
  refine ans_frz (Snd.mono (snd13 l hl ht) ?_) (by intros; simp [cpsV])
  rintro r rfl
  refine ⟨_, _, rfl, ?_⟩
  cases l with
  | nil => exact ret1_nil
  | cons c r =>
    refine ret1_row (es := (c :: r).map cpR) rfl rfl ?_
    rw [List.all_eq_true]
    intro e he
    obtain ⟨x, _, rfl⟩ := List.mem_map.1 he
    exact nfs_cons (nf_cp x) rfl

/-! ### Two lists of headers -/

def hdsV (l : List Hd) : V := .isl 11 (l.map hdC)
theorem nf_hds (l : List Hd) : nf (hdsV l) = true := by simp only [nf, hdsV]; exact nfs_hds l
theorem len_hds (m : Mem) (l : List Hd) : lenV Try.prog m 37 (hdsV l) = some (.int .i64 (l.length : Int)) := by unfold hdsV; rw [lni37, List.length_map]
theorem ia_hds {l : List Hd} {j : Nat} {k : IntKind} (h : j < l.length) : iaddrS 11 (hdsV l) (.int k (j : Int)) = some (.ip (hdC l[j])) := iaddrS_isl (by simp [h])
theorem sh24 : shp Try.prog 9 24 = some ((List.range 11).map fun _ => Sh.ti .u64) := by kernel_rfl
theorem key24 : (Try.prog.keyTypeAt 8 24 && (!Try.prog.eqGuardType Try.prog.depth 24 && isAggT Try.prog 24)) = true := by kernel_rfl
theorem inK_hd {h : Hd} (hh : U64 11 h) : inK .u64 11 fun i => (h i : Int) := by
  intro i hi
  have := hh i hi
  simp [Lit.wf, IntKind.min, IntKind.max, IntKind.bits, IntKind.signed]
  omega
theorem eq24 (h g : Hd) (hh : U64 11 h) (hg : U64 11 g) : eqV Try.prog 24 (.agg (hdC h)) (.agg (hdC g)) = some (eqN 11 (fun i => (h i : Int)) fun i => (g i : Int)) := eqV_cl2 key24 sh24 (inK_hd hh) (inK_hd hg)
theorem eq24s (h : Hd) (hh : U64 11 h) : eqV Try.prog 24 (.agg (hdC h)) (.agg (hdC h)) = some true := by
  rw [eq24 h h hh hh]
  congr 1
  rw [eqN_iff]
  intros; rfl

theorem ans15 (a : List Hd) (hl : a.length < lim) (ha : ∀ h ∈ a, U64 11 h) : Ans Try.prog 15 [hdsV a, hdsV a] (.bool true) := by
  refine Snd_of_W fol rfl rfl (by kernel_rfl) (by kernel_rfl) ?_
  have hla : a.length < 281474976710656 := hl
  simp -implicitDefEqProofs only [sims.1, fx.1, tick_on, calleeK, List.getElem?_toArray, extractV, oneV, faddrK, nonnil, b_shr, b_shl, eq_self, beq_self_eq_true, fieldK, Option.bind_some, Option.map_some, Option.bind_none, Option.map_none, List.map_cons, List.map_nil, List.getD_cons_zero, List.getD_cons_succ, List.getD_nil, List.length_nil, List.length_cons, List.length_set, List.nil_append, List.cons_append, List.append_nil, List.getElem?_cons_zero, List.getElem?_cons_succ, List.getElem?_nil, List.set_cons_zero, List.set_cons_succ, Nat.reduceAdd, Nat.zero_add, Nat.add_zero, Nat.mul_one, Nat.mul_zero, Nat.zero_mul, Nat.reduceMul, Nat.reduceSub, Nat.reduceEqDiff, Nat.reduceLT, Nat.reduceLeDiff, Nat.reduceBEq, Nat.reduceBNe, Nat.succ_ne_self, reduceIte, if_true, if_false, ite_self, decide_true, decide_false, Bool.not_true, Bool.not_false, Bool.and_true, Bool.true_and, Bool.and_false, Bool.false_and, Bool.or_true, Bool.true_or, Bool.or_false, Bool.false_or, cond_true, cond_false, Int.reduceEq, Int.reduceLT, Int.reduceLE, Int.reduceNe, Int.reduceToNat, len_hds]
  refine W_loop (fun j : Nat => (mkEnv [(0, hdsV a), (1, hdsV a), (5, .int .i64 (j : Int))], []))
    (fun j => j ≤ a.length) (fun j => a.length + 1 - j) 0
    (canon_nil [hdsV a, hdsV a, .int .i64 0] (by kernel_rfl) (nfs_cons (nf_hds a) (nfs_cons (nf_hds a) rfl)) (by kernel_rfl)) (by omega) ?_
  rintro j h1
  rcases Nat.lt_or_ge j a.length with hj | hj
  · have c1 : decide (j < a.length) = true := by simpa using hj
    have w2 := wrap_i64s j (by omega)
    have q := eq24s a[j] (ha _ (List.getElem_mem hj))
    simp -implicitDefEqProofs only [sims.1, fx.1, tick_on, calleeK, List.getElem?_toArray, extractV, oneV, faddrK, nonnil, b_shr, b_shl, eq_self, beq_self_eq_true, fieldK, Option.bind_some, Option.map_some, Option.bind_none, Option.map_none, List.map_cons, List.map_nil, List.getD_cons_zero, List.getD_cons_succ, List.getD_nil, List.length_nil, List.length_cons, List.length_set, List.nil_append, List.cons_append, List.append_nil, List.getElem?_cons_zero, List.getElem?_cons_succ, List.getElem?_nil, List.set_cons_zero, List.set_cons_succ, Nat.reduceAdd, Nat.zero_add, Nat.add_zero, Nat.mul_one, Nat.mul_zero, Nat.zero_mul, Nat.reduceMul, Nat.reduceSub, Nat.reduceEqDiff, Nat.reduceLT, Nat.reduceLeDiff, Nat.reduceBEq, Nat.reduceBNe, Nat.succ_ne_self, reduceIte, if_true, if_false, ite_self, decide_true, decide_false, Bool.not_true, Bool.not_false, Bool.and_true, Bool.true_and, Bool.and_false, Bool.false_and, Bool.or_true, Bool.true_or, Bool.or_false, Bool.false_or, cond_true, cond_false, Int.reduceEq, Int.reduceLT, Int.reduceLE, Int.reduceNe, Int.reduceToNat, len_hds, ltNat, c1]
    refine w_quiet ?_
    simp -implicitDefEqProofs only [sims.1, fx.1, tick_on, calleeK, List.getElem?_toArray, extractV, oneV, faddrK, nonnil, b_shr, b_shl, eq_self, beq_self_eq_true, fieldK, Option.bind_some, Option.map_some, Option.bind_none, Option.map_none, List.map_cons, List.map_nil, List.getD_cons_zero, List.getD_cons_succ, List.getD_nil, List.length_nil, List.length_cons, List.length_set, List.nil_append, List.cons_append, List.append_nil, List.getElem?_cons_zero, List.getElem?_cons_succ, List.getElem?_nil, List.set_cons_zero, List.set_cons_succ, Nat.reduceAdd, Nat.zero_add, Nat.add_zero, Nat.mul_one, Nat.mul_zero, Nat.zero_mul, Nat.reduceMul, Nat.reduceSub, Nat.reduceEqDiff, Nat.reduceLT, Nat.reduceLeDiff, Nat.reduceBEq, Nat.reduceBNe, Nat.succ_ne_self, reduceIte, if_true, if_false, ite_self, decide_true, decide_false, Bool.not_true, Bool.not_false, Bool.and_true, Bool.true_and, Bool.and_false, Bool.false_and, Bool.or_true, Bool.true_or, Bool.or_false, Bool.false_or, cond_true, cond_false, Int.reduceEq, Int.reduceLT, Int.reduceLE, Int.reduceNe, Int.reduceToNat, ia_hds hj, part_hd, q, w2]
    exact ⟨j + 1, canon_nil [hdsV a, hdsV a, .int .i64 ((j + 1 : Nat) : Int)] (by kernel_rfl) (nfs_cons (nf_hds a) (nfs_cons (nf_hds a) rfl)) (by kernel_rfl), by omega, by omega⟩
  · have c1 : decide (j < a.length) = false := by simp; omega
    simp -implicitDefEqProofs only [sims.1, fx.1, tick_on, calleeK, List.getElem?_toArray, extractV, oneV, faddrK, nonnil, b_shr, b_shl, eq_self, beq_self_eq_true, fieldK, Option.bind_some, Option.map_some, Option.bind_none, Option.map_none, List.map_cons, List.map_nil, List.getD_cons_zero, List.getD_cons_succ, List.getD_nil, List.length_nil, List.length_cons, List.length_set, List.nil_append, List.cons_append, List.append_nil, List.getElem?_cons_zero, List.getElem?_cons_succ, List.getElem?_nil, List.set_cons_zero, List.set_cons_succ, Nat.reduceAdd, Nat.zero_add, Nat.add_zero, Nat.mul_one, Nat.mul_zero, Nat.zero_mul, Nat.reduceMul, Nat.reduceSub, Nat.reduceEqDiff, Nat.reduceLT, Nat.reduceLeDiff, Nat.reduceBEq, Nat.reduceBNe, Nat.succ_ne_self, reduceIte, if_true, if_false, ite_self, decide_true, decide_false, Bool.not_true, Bool.not_false, Bool.and_true, Bool.true_and, Bool.and_false, Bool.false_and, Bool.or_true, Bool.true_or, Bool.or_false, Bool.false_or, cond_true, cond_false, Int.reduceEq, Int.reduceLT, Int.reduceLE, Int.reduceNe, Int.reduceToNat, len_hds, ltNat, c1]
    exact ans_ret rfl
end Go.Proofs.Ytaoaaffddillmaa
