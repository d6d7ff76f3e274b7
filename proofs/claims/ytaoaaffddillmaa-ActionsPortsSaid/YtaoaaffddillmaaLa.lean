/- Copies of actions, and whether they are more than 2^12. No condition. -/
import Derived.Test.YtaoaaffddillmaaKc
namespace Go.Proofs.Ytaoaaffddillmaa
open Go Ab
set_option linter.unusedSimpArgs false
set_option linter.unusedVariables false
set_option maxRecDepth 20000

/-- An action: what it does, its field, its number. -/
structure Act where
  d : Int
  f : Int
  n : Nat
  deriving DecidableEq

def acC (a : Act) : List V := [.int .i8 a.d, .int .i8 a.f, .int .u64 (a.n : Int)]
def cpV (c : List Act) : V := .isl 3 (c.map acC)
def cpsV (l : List (List Act)) : V := .isl 1 (l.map fun c => [cpV c])
def lim : Nat := 281474976710656
def Small (l : List (List Act)) : Prop := l.length < lim ∧ ∀ c ∈ l, c.length < lim

def gr (n : Nat) : List (List Act) → Bool
  | [] => decide (4096 < n)
  | c :: r => if n ≤ 4096 then gr (n + c.length) r else true
theorem gr_big (n : Nat) (h : 4096 < n) : ∀ l, gr n l = true
  | [] => by simp [gr, h]
  | c :: r => by unfold gr; rw [if_neg (by omega)]
def great (l : List (List Act)) : Bool := gr l.length l
theorem wrap_i64n (j : Nat) (h : j < 9223372036854775808) : IntKind.i64.wrap (j : Int) = (j : Int) := by
  simp [IntKind.wrap, IntKind.bits, IntKind.signed]; omega
theorem wrap_add (a b : Nat) (h : a + b < 9223372036854775808) : IntKind.i64.wrap ((a : Int) + (b : Int)) = ((a + b : Nat) : Int) := by
  rw [show (a : Int) + (b : Int) = ((a + b : Nat) : Int) by omega]; exact wrap_i64n _ h
theorem nfs_acs : ∀ c : List Act, nfss (c.map acC) = true
  | [] => rfl
  | a :: r => by simp [nfss, nfs, nf, acC, nfs_acs r]
theorem nf_cp (c : List Act) : nf (cpV c) = true := by
  simp only [nf, cpV]
  exact nfs_acs c
theorem nfs_cps : ∀ l : List (List Act), nfss (l.map fun c => [cpV c]) = true
  | [] => rfl
  | c :: r => by simp only [List.map_cons, nfss, nfs, nf_cp, Bool.and_self, nfs_cps r]
theorem nf_cps (l : List (List Act)) : nf (cpsV l) = true := by
  simp only [nf, cpsV]
  exact nfs_cps l
theorem len_cp (m : Mem) (c : List Act) : lenV Try.prog m 42 (cpV c) = some (.int .i64 (c.length : Int)) := by unfold cpV; rw [lni42, List.length_map]
theorem len_cps (m : Mem) (l : List (List Act)) : lenV Try.prog m 27 (cpsV l) = some (.int .i64 (l.length : Int)) := by unfold cpsV; rw [lni27, List.length_map]
theorem ia_cps {l : List (List Act)} {j : Nat} {k : IntKind} (h : j < l.length) : iaddrS 1 (cpsV l) (.int k (j : Int)) = some (.ip [cpV l[j]]) := iaddrS_isl (by simp [h])
theorem ia_cp {c : List Act} {j : Nat} {k : IntKind} (h : j < c.length) : iaddrS 3 (cpV c) (.int k (j : Int)) = some (.ip (acC c[j])) := iaddrS_isl (by simp [h])
theorem at_cps {l : List (List Act)} {j : Nat} (h : j < l.length) : partK false 1 [cpV l[j]] 0 = some (cpV l[j]) := rfl

theorem ans9 (l : List (List Act)) (hs : Small l) : Ans Try.prog 9 [cpsV l] (.bool (great l)) := by
  refine Snd_of_W fol rfl rfl (by kernel_rfl) (by kernel_rfl) ?_
  have hl : l.length < 281474976710656 := hs.1
  simp -implicitDefEqProofs only [sims.1, fx.1, tick_on, calleeK, List.getElem?_toArray, extractV, oneV, faddrK, nonnil, b_shr, b_shl, eq_self, beq_self_eq_true, fieldK, Option.bind_some, Option.map_some, Option.bind_none, Option.map_none, List.map_cons, List.map_nil, List.getD_cons_zero, List.getD_cons_succ, List.getD_nil, List.length_nil, List.length_cons, List.length_set, List.nil_append, List.cons_append, List.append_nil, List.getElem?_cons_zero, List.getElem?_cons_succ, List.getElem?_nil, List.set_cons_zero, List.set_cons_succ, Nat.reduceAdd, Nat.zero_add, Nat.add_zero, Nat.mul_one, Nat.mul_zero, Nat.zero_mul, Nat.reduceMul, Nat.reduceSub, Nat.reduceEqDiff, Nat.reduceLT, Nat.reduceLeDiff, Nat.reduceBEq, Nat.reduceBNe, Nat.succ_ne_self, reduceIte, if_true, if_false, ite_self, decide_true, decide_false, Bool.not_true, Bool.not_false, Bool.and_true, Bool.true_and, Bool.and_false, Bool.false_and, Bool.or_true, Bool.true_or, Bool.or_false, Bool.false_or, cond_true, cond_false, Int.reduceEq, Int.reduceLT, Int.reduceLE, Int.reduceNe, Int.reduceToNat, len_cps]
  refine W_loop (fun x : Nat × Nat => (mkEnv [(0, cpsV l), (4, .int .i64 (x.1 : Int)), (3, .int .i64 (x.2 : Int))], []))
    (fun x => x.1 ≤ l.length ∧ x.2 < 600000000000000 ∧ gr x.2 (l.drop x.1) = great l) (fun x => l.length + 1 - x.1) (0, l.length) (canon_nil [cpsV l, .int .i64 0, .int .i64 (l.length : Int)] (by kernel_rfl) (nfs_cons (nf_cps l) rfl) (by kernel_rfl)) ⟨by simp, by simp only; omega, by simp [great]⟩ ?_
  rintro ⟨j, n⟩ ⟨h1, h2, h3⟩
  simp only at h1 h2 h3
  rcases Nat.lt_or_ge j l.length with hj | hj
  · have c1 : decide ((j : Int) < (l.length : Int)) = true := by simp; omega
    cases e1 : decide ((n : Int) ≤ 4096)
    · simp -implicitDefEqProofs only [sims.1, fx.1, tick_on, calleeK, List.getElem?_toArray, extractV, oneV, faddrK, nonnil, b_shr, b_shl, eq_self, beq_self_eq_true, fieldK, Option.bind_some, Option.map_some, Option.bind_none, Option.map_none, List.map_cons, List.map_nil, List.getD_cons_zero, List.getD_cons_succ, List.getD_nil, List.length_nil, List.length_cons, List.length_set, List.nil_append, List.cons_append, List.append_nil, List.getElem?_cons_zero, List.getElem?_cons_succ, List.getElem?_nil, List.set_cons_zero, List.set_cons_succ, Nat.reduceAdd, Nat.zero_add, Nat.add_zero, Nat.mul_one, Nat.mul_zero, Nat.zero_mul, Nat.reduceMul, Nat.reduceSub, Nat.reduceEqDiff, Nat.reduceLT, Nat.reduceLeDiff, Nat.reduceBEq, Nat.reduceBNe, Nat.succ_ne_self, reduceIte, if_true, if_false, ite_self, decide_true, decide_false, Bool.not_true, Bool.not_false, Bool.and_true, Bool.true_and, Bool.and_false, Bool.false_and, Bool.or_true, Bool.true_or, Bool.or_false, Bool.false_or, cond_true, cond_false, Int.reduceEq, Int.reduceLT, Int.reduceLE, Int.reduceNe, Int.reduceToNat, len_cps, c1, e1]
      have c3 : decide ((4096 : Int) < (n : Int)) = true := by simp at e1 ⊢; omega
      simp -implicitDefEqProofs only [sims.1, fx.1, tick_on, calleeK, List.getElem?_toArray, extractV, oneV, faddrK, nonnil, b_shr, b_shl, eq_self, beq_self_eq_true, fieldK, Option.bind_some, Option.map_some, Option.bind_none, Option.map_none, List.map_cons, List.map_nil, List.getD_cons_zero, List.getD_cons_succ, List.getD_nil, List.length_nil, List.length_cons, List.length_set, List.nil_append, List.cons_append, List.append_nil, List.getElem?_cons_zero, List.getElem?_cons_succ, List.getElem?_nil, List.set_cons_zero, List.set_cons_succ, Nat.reduceAdd, Nat.zero_add, Nat.add_zero, Nat.mul_one, Nat.mul_zero, Nat.zero_mul, Nat.reduceMul, Nat.reduceSub, Nat.reduceEqDiff, Nat.reduceLT, Nat.reduceLeDiff, Nat.reduceBEq, Nat.reduceBNe, Nat.succ_ne_self, reduceIte, if_true, if_false, ite_self, decide_true, decide_false, Bool.not_true, Bool.not_false, Bool.and_true, Bool.true_and, Bool.and_false, Bool.false_and, Bool.or_true, Bool.true_or, Bool.or_false, Bool.false_or, cond_true, cond_false, Int.reduceEq, Int.reduceLT, Int.reduceLE, Int.reduceNe, Int.reduceToNat, c3]
      refine ans_ret ?_
      rw [← h3, gr_big n (by simp at e1; omega)]
    · have hc : l[j].length < 281474976710656 := hs.2 _ (List.getElem_mem hj)
      have w1 := wrap_add n l[j].length (by omega)
      have w2 := wrap_i64s j (by omega)
      simp -implicitDefEqProofs only [sims.1, fx.1, tick_on, calleeK, List.getElem?_toArray, extractV, oneV, faddrK, nonnil, b_shr, b_shl, eq_self, beq_self_eq_true, fieldK, Option.bind_some, Option.map_some, Option.bind_none, Option.map_none, List.map_cons, List.map_nil, List.getD_cons_zero, List.getD_cons_succ, List.getD_nil, List.length_nil, List.length_cons, List.length_set, List.nil_append, List.cons_append, List.append_nil, List.getElem?_cons_zero, List.getElem?_cons_succ, List.getElem?_nil, List.set_cons_zero, List.set_cons_succ, Nat.reduceAdd, Nat.zero_add, Nat.add_zero, Nat.mul_one, Nat.mul_zero, Nat.zero_mul, Nat.reduceMul, Nat.reduceSub, Nat.reduceEqDiff, Nat.reduceLT, Nat.reduceLeDiff, Nat.reduceBEq, Nat.reduceBNe, Nat.succ_ne_self, reduceIte, if_true, if_false, ite_self, decide_true, decide_false, Bool.not_true, Bool.not_false, Bool.and_true, Bool.true_and, Bool.and_false, Bool.false_and, Bool.or_true, Bool.true_or, Bool.or_false, Bool.false_or, cond_true, cond_false, Int.reduceEq, Int.reduceLT, Int.reduceLE, Int.reduceNe, Int.reduceToNat, len_cps, len_cp, ia_cps hj, c1, e1, w1, w2]
      refine ⟨(j + 1, n + l[j].length), canon_nil [cpsV l, .int .i64 ((j + 1 : Nat) : Int), .int .i64 ((n + l[j].length : Nat) : Int)] (by kernel_rfl) (nfs_cons (nf_cps l) rfl) (by kernel_rfl), ⟨by simp only; omega, by simp at e1; simp only; omega, ?_⟩, by simp only; omega⟩
      simp only
      rw [← h3, List.drop_eq_getElem_cons hj]
      simp only [gr]
      rw [if_pos (by simp at e1; omega)]
  · have c1 : decide ((j : Int) < (l.length : Int)) = false := by simp; omega
    simp -implicitDefEqProofs only [sims.1, fx.1, tick_on, calleeK, List.getElem?_toArray, extractV, oneV, faddrK, nonnil, b_shr, b_shl, eq_self, beq_self_eq_true, fieldK, Option.bind_some, Option.map_some, Option.bind_none, Option.map_none, List.map_cons, List.map_nil, List.getD_cons_zero, List.getD_cons_succ, List.getD_nil, List.length_nil, List.length_cons, List.length_set, List.nil_append, List.cons_append, List.append_nil, List.getElem?_cons_zero, List.getElem?_cons_succ, List.getElem?_nil, List.set_cons_zero, List.set_cons_succ, Nat.reduceAdd, Nat.zero_add, Nat.add_zero, Nat.mul_one, Nat.mul_zero, Nat.zero_mul, Nat.reduceMul, Nat.reduceSub, Nat.reduceEqDiff, Nat.reduceLT, Nat.reduceLeDiff, Nat.reduceBEq, Nat.reduceBNe, Nat.succ_ne_self, reduceIte, if_true, if_false, ite_self, decide_true, decide_false, Bool.not_true, Bool.not_false, Bool.and_true, Bool.true_and, Bool.and_false, Bool.false_and, Bool.or_true, Bool.true_or, Bool.or_false, Bool.false_or, cond_true, cond_false, Int.reduceEq, Int.reduceLT, Int.reduceLE, Int.reduceNe, Int.reduceToNat, len_cps, c1]
    refine ans_ret ?_
    rw [← h3, List.drop_eq_nil_of_le hj]
    simp [gr]
    omega
end Go.Proofs.Ytaoaaffddillmaa
