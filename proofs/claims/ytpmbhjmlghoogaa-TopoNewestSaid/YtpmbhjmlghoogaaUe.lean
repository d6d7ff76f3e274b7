/- The document's probe; calls that only look at the map. No condition. -/
import Derived.Test.YtpmbhjmlghoogaaUd
namespace Go.Proofs.Ytpmbhjmlghoogaa
open Go Ab
set_option linter.unusedSimpArgs false
set_option linter.unusedVariables false
set_option maxRecDepth 20000

theorem callD_rput {m : Mem} {K Kp : V → Mem → Prop} {n q x : Nat} {k : Int} (j : Nat) (l : List Nat) (hn : m[n]? = some (rowB l)) (hq : l.length = q) (hk : k = ((j + 1 : Nat) : Int)) (hj : j < 8) (hl : q < 100000)
    (h : K (.sl 1 m.length 0 (q + (j + 1))) (m.set n .dead ++ [rowB (l ++ putB x (j + 1) (j + 1))])) : callD Try.prog 47 [.sl 1 n 0 q, .int .u64 (x : Int), .int .i64 k] m K Kp := by
  subst hq hk
  exact callD_row (snd42s l hl x (j + 1) (by omega) (by omega)) en47 (nfB_row _) (nfM_cons rfl (nfM_cons (nfB_row _) rfl)) hn rfl rfl h
def rpB (n s p t : Nat) : List Nat := (((((putB 1652522221582 6 6 ++ putB 0 6 6) ++ putB 34997 2 2) ++ putB n 8 8) ++ putB s 2 2) ++ putB p 2 2) ++ putB t 4 4
theorem rpB_len (n s p t : Nat) : (rpB n s p t).length = 30 := by simp [rpB, putB_len]
theorem rpB_lt (n s p t : Nat) : ∀ x ∈ rpB n s p t, x < 256 := by
  intro x hx
  simp only [rpB, List.mem_append] at hx
  rcases hx with (((((h | h) | h) | h) | h) | h) | h <;> exact putB_lt _ _ _ _ h
set_option maxHeartbeats 2000000 in
theorem ansB28 {n s p t : Nat} (hs : s < 65536) (hp : p < 65536) : AnsB Try.prog 28 [.int .u64 (n : Int), spA s p, .int .u64 (t : Int)] (byV (rpB n s p t)) := by
  refine ansB_of ?_
  refine Snd_of_W fol rfl rfl (by kernel_rfl) (by kernel_rfl) ?_
  have c0 : (spC s p)[0]? = some (.int .u16 (s : Int)) := rfl
  have c1 : (spC s p)[1]? = some (.int .u16 (p : Int)) := rfl
  have w1 := spw s hs
  have w2 := spw p hp
  simp -implicitDefEqProofs only [sims.1, fx.1, tick_on, calleeK, List.getElem?_toArray, extractV, oneV, faddrK, nonnil, b_shr, b_shl, eq_self, beq_self_eq_true, fieldK, Option.bind_some, Option.map_some, Option.bind_none, Option.map_none, List.map_cons, List.map_nil, List.getD_cons_zero, List.getD_cons_succ, List.getD_nil, List.length_nil, List.length_cons, List.length_set, List.nil_append, List.cons_append, List.append_nil, List.getElem?_cons_zero, List.getElem?_cons_succ, List.getElem?_nil, List.set_cons_zero, List.set_cons_succ, Nat.reduceAdd, Nat.zero_add, Nat.add_zero, Nat.mul_one, Nat.mul_zero, Nat.zero_mul, Nat.reduceMul, Nat.reduceSub, Nat.reduceEqDiff, Nat.reduceLT, Nat.reduceLeDiff, Nat.reduceBEq, Nat.reduceBNe, Nat.succ_ne_self, reduceIte, if_true, if_false, ite_self, decide_true, decide_false, Bool.not_true, Bool.not_false, Bool.and_true, Bool.true_and, Bool.and_false, Bool.false_and, Bool.or_true, Bool.true_or, Bool.or_false, Bool.false_or, cond_true, cond_false, Int.reduceEq, Int.reduceLT, Int.reduceLE, Int.reduceNe, Int.reduceToNat, spA]
  refine callD_putn (x := 1652522221582) 5 (snd42n _ 6 (by decide) (by decide)) en47 rfl (by decide) ?_
  simp -implicitDefEqProofs only [sims.1, fx.1, tick_on, calleeK, List.getElem?_toArray, extractV, oneV, faddrK, nonnil, b_shr, b_shl, eq_self, beq_self_eq_true, fieldK, Option.bind_some, Option.map_some, Option.bind_none, Option.map_none, List.map_cons, List.map_nil, List.getD_cons_zero, List.getD_cons_succ, List.getD_nil, List.length_nil, List.length_cons, List.length_set, List.nil_append, List.cons_append, List.append_nil, List.getElem?_cons_zero, List.getElem?_cons_succ, List.getElem?_nil, List.set_cons_zero, List.set_cons_succ, Nat.reduceAdd, Nat.zero_add, Nat.add_zero, Nat.mul_one, Nat.mul_zero, Nat.zero_mul, Nat.reduceMul, Nat.reduceSub, Nat.reduceEqDiff, Nat.reduceLT, Nat.reduceLeDiff, Nat.reduceBEq, Nat.reduceBNe, Nat.succ_ne_self, reduceIte, if_true, if_false, ite_self, decide_true, decide_false, Bool.not_true, Bool.not_false, Bool.and_true, Bool.true_and, Bool.and_false, Bool.false_and, Bool.or_true, Bool.true_or, Bool.or_false, Bool.false_or, cond_true, cond_false, Int.reduceEq, Int.reduceLT, Int.reduceLE, Int.reduceNe, Int.reduceToNat]
  refine callD_rput (x := 0) 5 (putB 1652522221582 6 6) rfl (putB_len _ _ _) rfl (by decide) (by decide) ?_
  simp -implicitDefEqProofs only [sims.1, fx.1, tick_on, calleeK, List.getElem?_toArray, extractV, oneV, faddrK, nonnil, b_shr, b_shl, eq_self, beq_self_eq_true, fieldK, Option.bind_some, Option.map_some, Option.bind_none, Option.map_none, List.map_cons, List.map_nil, List.getD_cons_zero, List.getD_cons_succ, List.getD_nil, List.length_nil, List.length_cons, List.length_set, List.nil_append, List.cons_append, List.append_nil, List.getElem?_cons_zero, List.getElem?_cons_succ, List.getElem?_nil, List.set_cons_zero, List.set_cons_succ, Nat.reduceAdd, Nat.zero_add, Nat.add_zero, Nat.mul_one, Nat.mul_zero, Nat.zero_mul, Nat.reduceMul, Nat.reduceSub, Nat.reduceEqDiff, Nat.reduceLT, Nat.reduceLeDiff, Nat.reduceBEq, Nat.reduceBNe, Nat.succ_ne_self, reduceIte, if_true, if_false, ite_self, decide_true, decide_false, Bool.not_true, Bool.not_false, Bool.and_true, Bool.true_and, Bool.and_false, Bool.false_and, Bool.or_true, Bool.true_or, Bool.or_false, Bool.false_or, cond_true, cond_false, Int.reduceEq, Int.reduceLT, Int.reduceLE, Int.reduceNe, Int.reduceToNat]
  refine callD_rput (x := 34997) 1 (putB 1652522221582 6 6 ++ putB 0 6 6) rfl (by simp [putB_len]) rfl (by decide) (by decide) ?_
  simp -implicitDefEqProofs only [sims.1, fx.1, tick_on, calleeK, List.getElem?_toArray, extractV, oneV, faddrK, nonnil, b_shr, b_shl, eq_self, beq_self_eq_true, fieldK, Option.bind_some, Option.map_some, Option.bind_none, Option.map_none, List.map_cons, List.map_nil, List.getD_cons_zero, List.getD_cons_succ, List.getD_nil, List.length_nil, List.length_cons, List.length_set, List.nil_append, List.cons_append, List.append_nil, List.getElem?_cons_zero, List.getElem?_cons_succ, List.getElem?_nil, List.set_cons_zero, List.set_cons_succ, Nat.reduceAdd, Nat.zero_add, Nat.add_zero, Nat.mul_one, Nat.mul_zero, Nat.zero_mul, Nat.reduceMul, Nat.reduceSub, Nat.reduceEqDiff, Nat.reduceLT, Nat.reduceLeDiff, Nat.reduceBEq, Nat.reduceBNe, Nat.succ_ne_self, reduceIte, if_true, if_false, ite_self, decide_true, decide_false, Bool.not_true, Bool.not_false, Bool.and_true, Bool.true_and, Bool.and_false, Bool.false_and, Bool.or_true, Bool.true_or, Bool.or_false, Bool.false_or, cond_true, cond_false, Int.reduceEq, Int.reduceLT, Int.reduceLE, Int.reduceNe, Int.reduceToNat]
  refine callD_rput (x := n) 7 ((putB 1652522221582 6 6 ++ putB 0 6 6) ++ putB 34997 2 2) rfl (by simp [putB_len]) rfl (by decide) (by decide) ?_
  simp -implicitDefEqProofs only [sims.1, fx.1, tick_on, calleeK, List.getElem?_toArray, extractV, oneV, faddrK, nonnil, b_shr, b_shl, eq_self, beq_self_eq_true, fieldK, Option.bind_some, Option.map_some, Option.bind_none, Option.map_none, List.map_cons, List.map_nil, List.getD_cons_zero, List.getD_cons_succ, List.getD_nil, List.length_nil, List.length_cons, List.length_set, List.nil_append, List.cons_append, List.append_nil, List.getElem?_cons_zero, List.getElem?_cons_succ, List.getElem?_nil, List.set_cons_zero, List.set_cons_succ, Nat.reduceAdd, Nat.zero_add, Nat.add_zero, Nat.mul_one, Nat.mul_zero, Nat.zero_mul, Nat.reduceMul, Nat.reduceSub, Nat.reduceEqDiff, Nat.reduceLT, Nat.reduceLeDiff, Nat.reduceBEq, Nat.reduceBNe, Nat.succ_ne_self, reduceIte, if_true, if_false, ite_self, decide_true, decide_false, Bool.not_true, Bool.not_false, Bool.and_true, Bool.true_and, Bool.and_false, Bool.false_and, Bool.or_true, Bool.true_or, Bool.or_false, Bool.false_or, cond_true, cond_false, Int.reduceEq, Int.reduceLT, Int.reduceLE, Int.reduceNe, Int.reduceToNat, c0, c1, w1, w2]
  refine callD_rput (x := s) 1 (((putB 1652522221582 6 6 ++ putB 0 6 6) ++ putB 34997 2 2) ++ putB n 8 8) rfl (by simp [putB_len]) rfl (by decide) (by decide) ?_
  simp -implicitDefEqProofs only [sims.1, fx.1, tick_on, calleeK, List.getElem?_toArray, extractV, oneV, faddrK, nonnil, b_shr, b_shl, eq_self, beq_self_eq_true, fieldK, Option.bind_some, Option.map_some, Option.bind_none, Option.map_none, List.map_cons, List.map_nil, List.getD_cons_zero, List.getD_cons_succ, List.getD_nil, List.length_nil, List.length_cons, List.length_set, List.nil_append, List.cons_append, List.append_nil, List.getElem?_cons_zero, List.getElem?_cons_succ, List.getElem?_nil, List.set_cons_zero, List.set_cons_succ, Nat.reduceAdd, Nat.zero_add, Nat.add_zero, Nat.mul_one, Nat.mul_zero, Nat.zero_mul, Nat.reduceMul, Nat.reduceSub, Nat.reduceEqDiff, Nat.reduceLT, Nat.reduceLeDiff, Nat.reduceBEq, Nat.reduceBNe, Nat.succ_ne_self, reduceIte, if_true, if_false, ite_self, decide_true, decide_false, Bool.not_true, Bool.not_false, Bool.and_true, Bool.true_and, Bool.and_false, Bool.false_and, Bool.or_true, Bool.true_or, Bool.or_false, Bool.false_or, cond_true, cond_false, Int.reduceEq, Int.reduceLT, Int.reduceLE, Int.reduceNe, Int.reduceToNat, c0, c1, w1, w2]
  refine callD_rput (x := p) 1 ((((putB 1652522221582 6 6 ++ putB 0 6 6) ++ putB 34997 2 2) ++ putB n 8 8) ++ putB s 2 2) rfl (by simp [putB_len]) rfl (by decide) (by decide) ?_
  simp -implicitDefEqProofs only [sims.1, fx.1, tick_on, calleeK, List.getElem?_toArray, extractV, oneV, faddrK, nonnil, b_shr, b_shl, eq_self, beq_self_eq_true, fieldK, Option.bind_some, Option.map_some, Option.bind_none, Option.map_none, List.map_cons, List.map_nil, List.getD_cons_zero, List.getD_cons_succ, List.getD_nil, List.length_nil, List.length_cons, List.length_set, List.nil_append, List.cons_append, List.append_nil, List.getElem?_cons_zero, List.getElem?_cons_succ, List.getElem?_nil, List.set_cons_zero, List.set_cons_succ, Nat.reduceAdd, Nat.zero_add, Nat.add_zero, Nat.mul_one, Nat.mul_zero, Nat.zero_mul, Nat.reduceMul, Nat.reduceSub, Nat.reduceEqDiff, Nat.reduceLT, Nat.reduceLeDiff, Nat.reduceBEq, Nat.reduceBNe, Nat.succ_ne_self, reduceIte, if_true, if_false, ite_self, decide_true, decide_false, Bool.not_true, Bool.not_false, Bool.and_true, Bool.true_and, Bool.and_false, Bool.false_and, Bool.or_true, Bool.true_or, Bool.or_false, Bool.false_or, cond_true, cond_false, Int.reduceEq, Int.reduceLT, Int.reduceLE, Int.reduceNe, Int.reduceToNat, c0, c1, w1, w2]
  refine callD_rput (x := t) 3 (((((putB 1652522221582 6 6 ++ putB 0 6 6) ++ putB 34997 2 2) ++ putB n 8 8) ++ putB s 2 2) ++ putB p 2 2) rfl (by simp [putB_len]) rfl (by decide) (by decide) ?_
  simp -implicitDefEqProofs only [sims.1, fx.1, tick_on, calleeK, List.getElem?_toArray, extractV, oneV, faddrK, nonnil, b_shr, b_shl, eq_self, beq_self_eq_true, fieldK, Option.bind_some, Option.map_some, Option.bind_none, Option.map_none, List.map_cons, List.map_nil, List.getD_cons_zero, List.getD_cons_succ, List.getD_nil, List.length_nil, List.length_cons, List.length_set, List.nil_append, List.cons_append, List.append_nil, List.getElem?_cons_zero, List.getElem?_cons_succ, List.getElem?_nil, List.set_cons_zero, List.set_cons_succ, Nat.reduceAdd, Nat.zero_add, Nat.add_zero, Nat.mul_one, Nat.mul_zero, Nat.zero_mul, Nat.reduceMul, Nat.reduceSub, Nat.reduceEqDiff, Nat.reduceLT, Nat.reduceLeDiff, Nat.reduceBEq, Nat.reduceBNe, Nat.succ_ne_self, reduceIte, if_true, if_false, ite_self, decide_true, decide_false, Bool.not_true, Bool.not_false, Bool.and_true, Bool.true_and, Bool.and_false, Bool.false_and, Bool.or_true, Bool.true_or, Bool.or_false, Bool.false_or, cond_true, cond_false, Int.reduceEq, Int.reduceLT, Int.reduceLE, Int.reduceNe, Int.reduceToNat]
  exact ⟨_, _, rfl, ret1_row rfl (by rw [List.length_map]; exact (rpB_len n s p t).symm) (bare_row (rpB n s p t))⟩
theorem ans28 {n s p t : Nat} (hs : s < 65536) (hp : p < 65536) : Ans Try.prog 28 [.int .u64 (n : Int), spA s p, .int .u64 (t : Int)] (byV (rpB n s p t)) := (ansB28 hs hp).ans rfl (nf_by _)

/-! ### Calls that only look at the map -/
theorem view_lay {n a t : Int} {g S H : B} (hg : nfB g = true) (hS : nfB S = true) (hH : nfB H = true) : view [0, 1, 2, 3] (lay n a t g S H) = lay n a t g S H := by
  simp only [view, lay, List.map_cons, List.map_nil, List.getD_cons_zero, List.getD_cons_succ, nfB_renB _ hg, nfB_renB _ hS, nfB_renB _ hH]
  rfl
theorem look_lay {f : FuncId} {vs : List V} {v : V} {n a t : Int} {g S H : B} (hg : nfB g = true) (hS : nfB S = true) (hH : nfB H = true) (hi : inDs (fun k => [0, 1, 2, 3].contains k) vs = true) (hr : rens (idx [0, 1, 2, 3]) vs = vs) (hv : nf v = true)
    (h : Snd Try.prog f vs (lay n a t g S H) fun r => r = .ret v (lay n a t g S H)) {m : Mem} (h0 : m[0]? = some (.var 71 [.int .u64 n, .int .i64 a, .int .i64 t, .mp 1, .mp 2, .mp 3])) (h1 : m[1]? = some g) (h2 : m[2]? = some S) (h3 : m[3]? = some H) :
    ∀ m2 : Mem, (∀ k ∈ [0, 1, 2, 3], m2[k]? = m[k]?) → Snd Try.prog f vs m2 fun r => r = .ret v m2 := by
  intro m2 hm2
  have hc := lay_closed (n := n) (a := a) (t := t) hg hS hH
  have e : List.range 4 = [0, 1, 2, 3] := rfl
  rw [e] at hc
  refine quietI (m := lay n a t g S H) (L := [0, 1, 2, 3]) (by unfold okCall; rw [hi, hc]; rfl) ?_ hv (by rw [hr, view_lay hg hS hH]; exact h) m2 fun k hk => ?_
  · rw [view_lay hg hS hH]
    simp only [lay, List.all_cons, List.all_nil, nfB_inDB _ hg, nfB_inDB _ hS, nfB_inDB _ hH, Bool.and_true]
    rfl
  · rw [hm2 k hk]
    simp only [List.mem_cons, List.not_mem_nil, or_false] at hk
    rcases hk with rfl | rfl | rfl | rfl
    · rw [h0]; rfl
    · rw [h1]; rfl
    · rw [h2]; rfl
    · rw [h3]; rfl
theorem callQ_lay {f : FuncId} {vs : List V} {v : V} {n a t : Int} {g S H : B} {m : Mem} {K : V → Prop} (h : Snd Try.prog f vs (lay n a t g S H) fun r => r = .ret v (lay n a t g S H)) (he : enterable Try.prog f = true) (hg : nfB g = true) (hS : nfB S = true) (hH : nfB H = true)
    (hi : inDs (fun k => [0, 1, 2, 3].contains k) vs = true) (hr : rens (idx [0, 1, 2, 3]) vs = vs) (hv : nf v = true) (h0 : m[0]? = some (.var 71 [.int .u64 n, .int .i64 a, .int .i64 t, .mp 1, .mp 2, .mp 3])) (h1 : m[1]? = some g) (h2 : m[2]? = some S) (h3 : m[3]? = some H) (hk : K v) :
    callQ Try.prog f vs m K :=
  .inr ⟨he, v, [0, 1, 2, 3], fun k hk => by
    have hl : 3 < m.length := (List.getElem?_eq_some_iff.1 h3).1
    simp only [List.mem_cons, List.not_mem_nil, or_false] at hk
    omega, look_lay hg hS hH hi hr hv h h0 h1 h2 h3, hk⟩
theorem callD_lay {f : FuncId} {vs : List V} {v : V} {n a t : Int} {g S H : B} {m : Mem} {K Kp : V → Mem → Prop} (h : Snd Try.prog f vs (lay n a t g S H) fun r => r = .ret v (lay n a t g S H)) (he : enterable Try.prog f = true) (hg : nfB g = true) (hS : nfB S = true) (hH : nfB H = true)
    (hi : inDs (fun k => [0, 1, 2, 3].contains k) vs = true) (hr : rens (idx [0, 1, 2, 3]) vs = vs) (hv : nf v = true) (h0 : m[0]? = some (.var 71 [.int .u64 n, .int .i64 a, .int .i64 t, .mp 1, .mp 2, .mp 3])) (h1 : m[1]? = some g) (h2 : m[2]? = some S) (h3 : m[3]? = some H) (hk : K v m) :
    callD Try.prog f vs m K Kp := callD_all (look_lay hg hS hH hi hr hv h h0 h1 h2 h3 m fun _ _ => rfl) he hk
end Go.Proofs.Ytpmbhjmlghoogaa
