/- Probes without the nonce differ; nothing is tied; the law's own probes. No condition. -/
import Derived.Test.YtpmbhjmlghoogaaUj
namespace Go.Proofs.Ytpmbhjmlghoogaa
open Go Ab
set_option linter.unusedSimpArgs false
set_option linter.unusedVariables false
set_option maxRecDepth 20000

theorem putB_succ (x n : Nat) : putB x (n + 1) (n + 1) = putB (x / 256) n n ++ [x % 256] := by
  unfold putB
  rw [List.range_succ, List.map_append]
  congr 1
  · refine List.map_congr_left fun i hi => ?_
    have hi := List.mem_range.1 hi
    have e : 8 * (n + 1 - 1 - i) = 8 + 8 * (n - 1 - i) := by omega
    rw [e, Nat.pow_add, ← Nat.div_div_eq_div_mul]
  · simp
theorem putB_cat (a b n : Nat) : ∀ k, b < 256 ^ k → putB (a * 256 ^ k + b) (n + k) (n + k) = putB a n n ++ putB b k k := by
  intro k
  induction k generalizing b with
  | zero =>
    intro h
    have : b = 0 := by simpa using h
    subst this
    simp [putB]
  | succ k ih =>
    intro h
    rw [← Nat.add_assoc, putB_succ, putB_succ b k, ← List.append_assoc]
    rw [Nat.pow_succ] at h ⊢
    have e1 : (a * (256 ^ k * 256) + b) / 256 = a * 256 ^ k + b / 256 := by
      rw [← Nat.mul_assoc]
      omega
    have e2 : (a * (256 ^ k * 256) + b) % 256 = b % 256 := by
      rw [← Nat.mul_assoc]
      omega
    rw [e1, e2, ih (b / 256) (by omega)]
theorem putB_mod (x n : Nat) : ∀ k, putB (x % 256 ^ k) k k = putB x k k := by
  intro k
  induction k generalizing x with
  | zero => simp [putB]
  | succ k ih =>
    rw [putB_succ, putB_succ]
    have e1 : x % 256 ^ (k + 1) / 256 = x / 256 % 256 ^ k := by
      rw [Nat.pow_succ, Nat.mul_comm, Nat.mod_mul_right_div_self]
    have e2 : x % 256 ^ (k + 1) % 256 = x % 256 := Nat.mod_mod_of_dvd _ ⟨256 ^ k, by rw [Nat.pow_succ, Nat.mul_comm]⟩
    rw [e1, e2, ih]
theorem num_put (x : Nat) : ∀ k, num (putB x k k) = x % 256 ^ k := by
  intro k
  induction k generalizing x with
  | zero => simp [putB, num, Nat.mod_one]
  | succ k ih =>
    rw [putB_succ, num_snoc, ih, Nat.pow_succ, Nat.mul_comm (256 ^ k) 256, Nat.mod_mul]
    omega

theorem rp_ne {n k s p t s2 p2 t2 : Nat} (hn : n < 18446744073709551616) (hk : k < 18446744073709551616) (h : rpB k s p t = prbF n s2 p2 t2) : k = n := by
  rw [prbF_eq] at h
  have e1 : (rpB k s p t).drop 14 = (putB k 8 8 ++ putB s 2 2 ++ putB p 2 2 ++ putB t 4 4) := by
    simp only [rpB, List.append_assoc]
    rw [← List.append_assoc, ← List.append_assoc, List.drop_left' (by simp [putB_len])]
  have e2 : ((putB 1652522221582 6 6 ++ putB 0 6 6 ++ putB 34997 2 2) ++ prbB n s2 p2 t2).drop 14 = prbB n s2 p2 t2 := by
    rw [List.drop_left' (by simp [putB_len])]
  have h1 : putB k 8 8 ++ putB s 2 2 ++ putB p 2 2 ++ putB t 4 4 = prbB n s2 p2 t2 := by rw [← e1, ← e2, h]
  have h2 := congrArg (List.take 8) h1
  simp only [prbB, List.append_assoc] at h2
  rw [List.take_left' (putB_len _ _ _), List.take_left' (putB_len _ _ _)] at h2
  have h3 := congrArg num h2
  rw [num_put, num_put] at h3
  omega

/-! ### Nothing is tied -/
theorem ans29n : Ans Try.prog 29 [.nils, .fn 30 [] []] .nils := ans_run fol 3000 (by kernel_rfl)
theorem snd12e {n a t : Int} {g H : B} (hg : nfB g = true) (hH : nfB H = true) : Snd Try.prog 12 [.ptr 0 0] (lay n a t g (.map [] [] 0) H) fun r => r = .ret .nils (lay n a t g (.map [] [] 0) H) := by
  refine Snd_dropN (lay_closed hg rfl hH) rfl ?_
  refine Snd_of_W fol rfl rfl (by kernel_rfl) (by kernel_rfl) ?_
  unfold lay
  simp -implicitDefEqProofs only [sims.1, fx.1, tick_on, calleeK, List.getElem?_toArray, extractV, oneV, faddrK, nonnil, b_shr, b_shl, eq_self, beq_self_eq_true, fieldK, Option.bind_some, Option.map_some, Option.bind_none, Option.map_none, List.map_cons, List.map_nil, List.getD_cons_zero, List.getD_cons_succ, List.getD_nil, List.length_nil, List.length_cons, List.length_set, List.nil_append, List.cons_append, List.append_nil, List.getElem?_cons_zero, List.getElem?_cons_succ, List.getElem?_nil, List.set_cons_zero, List.set_cons_succ, Nat.reduceAdd, Nat.zero_add, Nat.add_zero, Nat.mul_one, Nat.mul_zero, Nat.zero_mul, Nat.reduceMul, Nat.reduceSub, Nat.reduceEqDiff, Nat.reduceLT, Nat.reduceLeDiff, Nat.reduceBEq, Nat.reduceBNe, Nat.succ_ne_self, reduceIte, if_true, if_false, ite_self, decide_true, decide_false, Bool.not_true, Bool.not_false, Bool.and_true, Bool.true_and, Bool.and_false, Bool.false_and, Bool.or_true, Bool.true_or, Bool.or_false, Bool.false_or, cond_true, cond_false, Int.reduceEq, Int.reduceLT, Int.reduceLE, Int.reduceNe, Int.reduceToNat, pe24, rg68]
  refine W_loopM (fun _ : Unit => [(12, .ptr 4 0), (0, .ptr 0 0), (3, .nils)]) (fun _ mm => mm = [.var 71 [.int .u64 n, .int .i64 a, .int .i64 t, .mp 1, .mp 2, .mp 3], g, .map [] [] 0, H, .iter 2 0 [] 0]) (fun _ => 0) () (by kernel_rfl) rfl ?_
  rintro _ mm rfl
  have nx : nextV [.var 71 [.int .u64 n, .int .i64 a, .int .i64 t, .mp 1, .mp 2, .mp 3], g, .map [] [] 0, H, .iter 2 0 [] 0] (.ptr 4 0) = some [(.tup [.bool false], [.var 71 [.int .u64 n, .int .i64 a, .int .i64 t, .mp 1, .mp 2, .mp 3], g, .map [] [] 0, H, .dead])] := rfl
  simp -implicitDefEqProofs only [sims.1, fx.1, tick_on, calleeK, List.getElem?_toArray, extractV, oneV, faddrK, nonnil, b_shr, b_shl, eq_self, beq_self_eq_true, fieldK, Option.bind_some, Option.map_some, Option.bind_none, Option.map_none, List.map_cons, List.map_nil, List.getD_cons_zero, List.getD_cons_succ, List.getD_nil, List.length_nil, List.length_cons, List.length_set, List.nil_append, List.cons_append, List.append_nil, List.getElem?_cons_zero, List.getElem?_cons_succ, List.getElem?_nil, List.set_cons_zero, List.set_cons_succ, Nat.reduceAdd, Nat.zero_add, Nat.add_zero, Nat.mul_one, Nat.mul_zero, Nat.zero_mul, Nat.reduceMul, Nat.reduceSub, Nat.reduceEqDiff, Nat.reduceLT, Nat.reduceLeDiff, Nat.reduceBEq, Nat.reduceBNe, Nat.succ_ne_self, reduceIte, if_true, if_false, ite_self, decide_true, decide_false, Bool.not_true, Bool.not_false, Bool.and_true, Bool.true_and, Bool.and_false, Bool.false_and, Bool.or_true, Bool.true_or, Bool.or_false, Bool.false_or, cond_true, cond_false, Int.reduceEq, Int.reduceLT, Int.reduceLE, Int.reduceNe, Int.reduceToNat, nx]
  intro p hp
  obtain rfl := List.mem_singleton.1 hp
  simp -implicitDefEqProofs only [sims.1, fx.1, tick_on, calleeK, List.getElem?_toArray, extractV, oneV, faddrK, nonnil, b_shr, b_shl, eq_self, beq_self_eq_true, fieldK, Option.bind_some, Option.map_some, Option.bind_none, Option.map_none, List.map_cons, List.map_nil, List.getD_cons_zero, List.getD_cons_succ, List.getD_nil, List.length_nil, List.length_cons, List.length_set, List.nil_append, List.cons_append, List.append_nil, List.getElem?_cons_zero, List.getElem?_cons_succ, List.getElem?_nil, List.set_cons_zero, List.set_cons_succ, Nat.reduceAdd, Nat.zero_add, Nat.add_zero, Nat.mul_one, Nat.mul_zero, Nat.zero_mul, Nat.reduceMul, Nat.reduceSub, Nat.reduceEqDiff, Nat.reduceLT, Nat.reduceLeDiff, Nat.reduceBEq, Nat.reduceBNe, Nat.succ_ne_self, reduceIte, if_true, if_false, ite_self, decide_true, decide_false, Bool.not_true, Bool.not_false, Bool.and_true, Bool.true_and, Bool.and_false, Bool.false_and, Bool.or_true, Bool.true_or, Bool.or_false, Bool.false_or, cond_true, cond_false, Int.reduceEq, Int.reduceLT, Int.reduceLE, Int.reduceNe, Int.reduceToNat]
  refine callD_ans ans29n en29 rfl rfl ?_
  simp -implicitDefEqProofs only [sims.1, fx.1, tick_on, calleeK, List.getElem?_toArray, extractV, oneV, faddrK, nonnil, b_shr, b_shl, eq_self, beq_self_eq_true, fieldK, Option.bind_some, Option.map_some, Option.bind_none, Option.map_none, List.map_cons, List.map_nil, List.getD_cons_zero, List.getD_cons_succ, List.getD_nil, List.length_nil, List.length_cons, List.length_set, List.nil_append, List.cons_append, List.append_nil, List.getElem?_cons_zero, List.getElem?_cons_succ, List.getElem?_nil, List.set_cons_zero, List.set_cons_succ, Nat.reduceAdd, Nat.zero_add, Nat.add_zero, Nat.mul_one, Nat.mul_zero, Nat.zero_mul, Nat.reduceMul, Nat.reduceSub, Nat.reduceEqDiff, Nat.reduceLT, Nat.reduceLeDiff, Nat.reduceBEq, Nat.reduceBNe, Nat.succ_ne_self, reduceIte, if_true, if_false, ite_self, decide_true, decide_false, Bool.not_true, Bool.not_false, Bool.and_true, Bool.true_and, Bool.and_false, Bool.false_and, Bool.or_true, Bool.true_or, Bool.or_false, Bool.false_or, cond_true, cond_false, Int.reduceEq, Int.reduceLT, Int.reduceLE, Int.reduceNe, Int.reduceToNat]
  exact ⟨[.dead], rfl⟩

/-! ### The law's probes -/
structure Dl where
  w : Int
  s : Nat
  p : Nat
  os : Nat
  op : Nat
  e : V
  i : V
  up : V
  f : V
  k : Nat
  b : Int
def dlC (x : Dl) : List V := [.int .i64 x.w, .int .u16 (x.s : Int), .int .u16 (x.p : Int), .int .u16 (x.os : Int), .int .u16 (x.op : Int), x.e, x.i, x.up, x.f, .int .u64 (x.k : Int), .int .i64 x.b]
structure DlOk (x : Dl) : Prop where
  s : x.s < 65536
  p : x.p < 65536
  os : x.os < 65536
  op : x.op < 65536
  k : x.k < 18446744073709551616
  e : nf x.e = true
  i : nf x.i = true
  up : nf x.up = true
  f : nf x.f = true
  b : (Lit.int .i64 x.b).wf = true
theorem wrap_nat (z : Int) : ∃ k : Nat, IntKind.u64.wrap z = (k : Int) := ⟨(IntKind.u64.wrap z).toNat, by rw [IntKind.wrap_u64]; omega⟩
theorem nfs_dl {x : Dl} (h : DlOk x) : nfs (dlC x) = true := by simp only [dlC, nfs, nf, h.e, h.i, h.up, h.f, Bool.and_self]
theorem ans11 {x : Dl} (h : DlOk x) (h7 : x.w = 7) (now : Int) : ∃ tk : Nat, Ans Try.prog 11 [.agg (dlC x), .int .u64 now] (byV (rpB x.k x.os x.op tk)) := by
  obtain ⟨tk, htk⟩ := wrap_nat (now - IntKind.u64.wrap (x.b.tmod 8))
  refine ⟨tk, ?_⟩
  refine Snd_of_W fol rfl rfl (by kernel_rfl) (by kernel_rfl) ?_
  have c0 : (dlC x)[0]? = some (.int .i64 7) := by rw [← h7]; rfl
  have c9 : (dlC x)[9]? = some (.int .u64 (x.k : Int)) := rfl
  have c10 : (dlC x)[10]? = some (.int .i64 x.b) := rfl
  have cS : partK true 2 (dlC x) 3 = some (.agg (spC x.os x.op)) := rfl
  simp -implicitDefEqProofs only [sims.1, fx.1, tick_on, calleeK, List.getElem?_toArray, extractV, oneV, faddrK, nonnil, b_shr, b_shl, eq_self, beq_self_eq_true, fieldK, Option.bind_some, Option.map_some, Option.bind_none, Option.map_none, List.map_cons, List.map_nil, List.getD_cons_zero, List.getD_cons_succ, List.getD_nil, List.length_nil, List.length_cons, List.length_set, List.nil_append, List.cons_append, List.append_nil, List.getElem?_cons_zero, List.getElem?_cons_succ, List.getElem?_nil, List.set_cons_zero, List.set_cons_succ, Nat.reduceAdd, Nat.zero_add, Nat.add_zero, Nat.mul_one, Nat.mul_zero, Nat.zero_mul, Nat.reduceMul, Nat.reduceSub, Nat.reduceEqDiff, Nat.reduceLT, Nat.reduceLeDiff, Nat.reduceBEq, Nat.reduceBNe, Nat.succ_ne_self, reduceIte, if_true, if_false, ite_self, decide_true, decide_false, Bool.not_true, Bool.not_false, Bool.and_true, Bool.true_and, Bool.and_false, Bool.false_and, Bool.or_true, Bool.true_or, Bool.or_false, Bool.false_or, cond_true, cond_false, Int.reduceEq, Int.reduceLT, Int.reduceLE, Int.reduceNe, Int.reduceToNat, c0, c9, c10, cS, htk]
  refine callD_ans (ans28 h.os h.op) en28 rfl (nf_by _) ?_
  simp -implicitDefEqProofs only [sims.1, fx.1, tick_on, calleeK, List.getElem?_toArray, extractV, oneV, faddrK, nonnil, b_shr, b_shl, eq_self, beq_self_eq_true, fieldK, Option.bind_some, Option.map_some, Option.bind_none, Option.map_none, List.map_cons, List.map_nil, List.getD_cons_zero, List.getD_cons_succ, List.getD_nil, List.length_nil, List.length_cons, List.length_set, List.nil_append, List.cons_append, List.append_nil, List.getElem?_cons_zero, List.getElem?_cons_succ, List.getElem?_nil, List.set_cons_zero, List.set_cons_succ, Nat.reduceAdd, Nat.zero_add, Nat.add_zero, Nat.mul_one, Nat.mul_zero, Nat.zero_mul, Nat.reduceMul, Nat.reduceSub, Nat.reduceEqDiff, Nat.reduceLT, Nat.reduceLeDiff, Nat.reduceBEq, Nat.reduceBNe, Nat.succ_ne_self, reduceIte, if_true, if_false, ite_self, decide_true, decide_false, Bool.not_true, Bool.not_false, Bool.and_true, Bool.true_and, Bool.and_false, Bool.false_and, Bool.or_true, Bool.true_or, Bool.or_false, Bool.false_or, cond_true, cond_false, Int.reduceEq, Int.reduceLT, Int.reduceLE, Int.reduceNe, Int.reduceToNat]
  exact ans_ret rfl
end Go.Proofs.Ytpmbhjmlghoogaa
