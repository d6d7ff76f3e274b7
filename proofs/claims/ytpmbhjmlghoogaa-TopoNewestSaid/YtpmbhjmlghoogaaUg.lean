/- New maps; ticks; nothing seen. No condition. -/
import Derived.Test.YtpmbhjmlghoogaaUf
namespace Go.Proofs.Ytpmbhjmlghoogaa
open Go Ab
set_option linter.unusedSimpArgs false
set_option linter.unusedVariables false
set_option maxRecDepth 20000

def ageI (a : Int) : Int := if (1048576 : Int) < (if (1 : Int) > a then 1 else a) then 1048576 else (if (1 : Int) > a then 1 else a)
theorem mx1 (a : Int) : minmaxV true (.int .i64 a) (.int .i64 1) = some (.int .i64 (if (1 : Int) > a then 1 else a)) := rfl
theorem mn1 (a : Int) : minmaxV false (.int .i64 (if (1 : Int) > a then 1 else a)) (.int .i64 1048576) = some (.int .i64 (ageI a)) := rfl
theorem pn24 (n o : Nat) (env : Env) : binV Try.prog .neq 24 (.ptr n o) (evO env (.const (.pointer none))) = some (.bool true) := rfl
theorem un68 : Try.prog.underlying 68 = some (.map 84 87) := by kernel_rfl
theorem rg68 {b0 b1 : B} {es : List (V × V)} {bs : List Nat} {clk : Nat} {r : Mem} : rangeV Try.prog 68 (b0 :: b1 :: .map es bs clk :: r) (.mp 2) = some (.ptr (r.length + 3) 0, (b0 :: b1 :: .map es bs clk :: r) ++ [B.iter 2 clk [] clk]) := by
  simp only [rangeV, un68]
  rfl
theorem snd7 (n a : Int) : Snd Try.prog 7 [.int .u64 n, .int .i64 a] [] fun r => r = .ret (.ptr 3 0) [.map [] [] 0, .map [] [] 0, .map [] [] 0, .var 71 [.int .u64 n, .int .i64 (ageI a), .int .i64 0, .mp 0, .mp 1, .mp 2]] := by
  refine Snd_of_W fol rfl rfl (by kernel_rfl) (by kernel_rfl) ?_
  have b71 : ∀ x : Int, buildV Try.prog 71 [(0, .int .u64 n), (1, .int .i64 x), (3, .mp 0), (4, .mp 1), (5, .mp 2)] = some (.agg [.int .u64 n, .int .i64 x, .int .i64 0, .mp 0, .mp 1, .mp 2]) := fun x => by kernel_rfl
  simp -implicitDefEqProofs only [sims.1, fx.1, tick_on, calleeK, List.getElem?_toArray, extractV, oneV, faddrK, nonnil, b_shr, b_shl, eq_self, beq_self_eq_true, fieldK, Option.bind_some, Option.map_some, Option.bind_none, Option.map_none, List.map_cons, List.map_nil, List.getD_cons_zero, List.getD_cons_succ, List.getD_nil, List.length_nil, List.length_cons, List.length_set, List.nil_append, List.cons_append, List.append_nil, List.getElem?_cons_zero, List.getElem?_cons_succ, List.getElem?_nil, List.set_cons_zero, List.set_cons_succ, Nat.reduceAdd, Nat.zero_add, Nat.add_zero, Nat.mul_one, Nat.mul_zero, Nat.zero_mul, Nat.reduceMul, Nat.reduceSub, Nat.reduceEqDiff, Nat.reduceLT, Nat.reduceLeDiff, Nat.reduceBEq, Nat.reduceBNe, Nat.succ_ne_self, reduceIte, if_true, if_false, ite_self, decide_true, decide_false, Bool.not_true, Bool.not_false, Bool.and_true, Bool.true_and, Bool.and_false, Bool.false_and, Bool.or_true, Bool.true_or, Bool.or_false, Bool.false_or, cond_true, cond_false, Int.reduceEq, Int.reduceLT, Int.reduceLE, Int.reduceNe, Int.reduceToNat, b71, mx1, mn1]
theorem snd9 {n a : Int} {t : Nat} {g S H : B} (ht : t < 1000000) : Snd Try.prog 9 [.ptr 0 0] (lay n a t g S H) fun r => r = .ret (.tup []) (lay n a ((t + 1 : Nat) : Int) g S H) := by
  refine Snd_of_W fol rfl rfl (by kernel_rfl) (by kernel_rfl) ?_
  have w1 := wrap_i64s t (by omega)
  unfold lay
  simp -implicitDefEqProofs only [sims.1, fx.1, tick_on, calleeK, List.getElem?_toArray, extractV, oneV, faddrK, nonnil, b_shr, b_shl, eq_self, beq_self_eq_true, fieldK, Option.bind_some, Option.map_some, Option.bind_none, Option.map_none, List.map_cons, List.map_nil, List.getD_cons_zero, List.getD_cons_succ, List.getD_nil, List.length_nil, List.length_cons, List.length_set, List.nil_append, List.cons_append, List.append_nil, List.getElem?_cons_zero, List.getElem?_cons_succ, List.getElem?_nil, List.set_cons_zero, List.set_cons_succ, Nat.reduceAdd, Nat.zero_add, Nat.add_zero, Nat.mul_one, Nat.mul_zero, Nat.zero_mul, Nat.reduceMul, Nat.reduceSub, Nat.reduceEqDiff, Nat.reduceLT, Nat.reduceLeDiff, Nat.reduceBEq, Nat.reduceBNe, Nat.succ_ne_self, reduceIte, if_true, if_false, ite_self, decide_true, decide_false, Bool.not_true, Bool.not_false, Bool.and_true, Bool.true_and, Bool.and_false, Bool.false_and, Bool.or_true, Bool.true_or, Bool.or_false, Bool.false_or, cond_true, cond_false, Int.reduceEq, Int.reduceLT, Int.reduceLE, Int.reduceNe, Int.reduceToNat, w1, pn24]
  rfl
theorem next_none {m : Mem} {r n since last clk : Nat} {bs seen : List Nat} {es : List (V × V)} (h1 : m[r]? = some (.iter n since seen last)) (h2 : m[n]? = some (.map es bs clk)) (hb : bs.all (fun b => Nat.blt b since) = true) (hl : Nat.ble since last = true)
    (hn : (es.zip bs).filter (fun p => !seen.contains p.2) = []) : nextV m (.ptr r 0) = some [(.tup [.bool false], m.set r .dead)] := by
  simp only [nextV, h1, h2, hb, hl, Bool.and_self, cond_true, hn]
theorem at_end {α : Type} (l : List α) (a : α) : (l ++ [a])[l.length]? = some a := List.getElem?_concat_length
theorem set_end {α : Type} (l : List α) (a b : α) : (l ++ [a]).set l.length b = l ++ [b] := by
  induction l with
  | nil => rfl
  | cons x l ih => simp [ih]
theorem snd21 {n a t : Int} {g H : B} {ex : Mem} {clk : Nat} (v : V) : Snd Try.prog 21 [.ptr 0 0, v] (lay n a t g (.map [] [] clk) H ++ ex) fun r => r = .ret (.tup []) (lay n a t g (.map [] [] clk) H ++ ex ++ [B.dead]) := by
  refine Snd_of_W fol rfl rfl (by kernel_rfl) (by kernel_rfl) ?_
  unfold lay
  simp -implicitDefEqProofs only [sims.1, fx.1, tick_on, calleeK, List.getElem?_toArray, extractV, oneV, faddrK, nonnil, b_shr, b_shl, eq_self, beq_self_eq_true, fieldK, Option.bind_some, Option.map_some, Option.bind_none, Option.map_none, List.map_cons, List.map_nil, List.getD_cons_zero, List.getD_cons_succ, List.getD_nil, List.length_nil, List.length_cons, List.length_set, List.nil_append, List.cons_append, List.append_nil, List.getElem?_cons_zero, List.getElem?_cons_succ, List.getElem?_nil, List.set_cons_zero, List.set_cons_succ, Nat.reduceAdd, Nat.zero_add, Nat.add_zero, Nat.mul_one, Nat.mul_zero, Nat.zero_mul, Nat.reduceMul, Nat.reduceSub, Nat.reduceEqDiff, Nat.reduceLT, Nat.reduceLeDiff, Nat.reduceBEq, Nat.reduceBNe, Nat.succ_ne_self, reduceIte, if_true, if_false, ite_self, decide_true, decide_false, Bool.not_true, Bool.not_false, Bool.and_true, Bool.true_and, Bool.and_false, Bool.false_and, Bool.or_true, Bool.true_or, Bool.or_false, Bool.false_or, cond_true, cond_false, Int.reduceEq, Int.reduceLT, Int.reduceLE, Int.reduceNe, Int.reduceToNat, rg68]
  refine W_loopM (fun _ : Unit => [(9, .ptr (ex.length + 4) 0), (1, v), (0, .ptr 0 0)]) (fun _ mm => mm = lay n a t g (.map [] [] clk) H ++ (ex ++ [B.iter 2 clk [] clk])) (fun _ => 0) () (by kernel_rfl) rfl ?_
  rintro _ mm rfl
  have nx : nextV (lay n a t g (.map [] [] clk) H ++ (ex ++ [B.iter 2 clk [] clk])) (.ptr (ex.length + 4) 0) = some [(.tup [.bool false], lay n a t g (.map [] [] clk) H ++ (ex ++ [B.dead]))] := by
    have h1 : (lay n a t g (.map [] [] clk) H ++ (ex ++ [B.iter 2 clk [] clk]))[ex.length + 4]? = some (B.iter 2 clk [] clk) := at_end ex (B.iter 2 clk [] clk)
    rw [next_none (es := []) (bs := []) (clk := clk) h1 rfl rfl (by simp) rfl]
    have : (lay n a t g (.map [] [] clk) H ++ (ex ++ [B.iter 2 clk [] clk])).set (ex.length + 4) .dead = lay n a t g (.map [] [] clk) H ++ (ex ++ [B.dead]) := by
      show _ :: _ :: _ :: _ :: (ex ++ [B.iter 2 clk [] clk]).set ex.length B.dead = _
      rw [set_end]
      rfl
    rw [this]
  simp -implicitDefEqProofs only [sims.1, fx.1, tick_on, calleeK, List.getElem?_toArray, extractV, oneV, faddrK, nonnil, b_shr, b_shl, eq_self, beq_self_eq_true, fieldK, Option.bind_some, Option.map_some, Option.bind_none, Option.map_none, List.map_cons, List.map_nil, List.getD_cons_zero, List.getD_cons_succ, List.getD_nil, List.length_nil, List.length_cons, List.length_set, List.nil_append, List.cons_append, List.append_nil, List.getElem?_cons_zero, List.getElem?_cons_succ, List.getElem?_nil, List.set_cons_zero, List.set_cons_succ, Nat.reduceAdd, Nat.zero_add, Nat.add_zero, Nat.mul_one, Nat.mul_zero, Nat.zero_mul, Nat.reduceMul, Nat.reduceSub, Nat.reduceEqDiff, Nat.reduceLT, Nat.reduceLeDiff, Nat.reduceBEq, Nat.reduceBNe, Nat.succ_ne_self, reduceIte, if_true, if_false, ite_self, decide_true, decide_false, Bool.not_true, Bool.not_false, Bool.and_true, Bool.true_and, Bool.and_false, Bool.false_and, Bool.or_true, Bool.true_or, Bool.or_false, Bool.false_or, cond_true, cond_false, Int.reduceEq, Int.reduceLT, Int.reduceLE, Int.reduceNe, Int.reduceToNat, nx]
  intro p hp
  obtain rfl := List.mem_singleton.1 hp
  simp -implicitDefEqProofs only [sims.1, fx.1, tick_on, calleeK, List.getElem?_toArray, extractV, oneV, faddrK, nonnil, b_shr, b_shl, eq_self, beq_self_eq_true, fieldK, Option.bind_some, Option.map_some, Option.bind_none, Option.map_none, List.map_cons, List.map_nil, List.getD_cons_zero, List.getD_cons_succ, List.getD_nil, List.length_nil, List.length_cons, List.length_set, List.nil_append, List.cons_append, List.append_nil, List.getElem?_cons_zero, List.getElem?_cons_succ, List.getElem?_nil, List.set_cons_zero, List.set_cons_succ, Nat.reduceAdd, Nat.zero_add, Nat.add_zero, Nat.mul_one, Nat.mul_zero, Nat.zero_mul, Nat.reduceMul, Nat.reduceSub, Nat.reduceEqDiff, Nat.reduceLT, Nat.reduceLeDiff, Nat.reduceBEq, Nat.reduceBNe, Nat.succ_ne_self, reduceIte, if_true, if_false, ite_self, decide_true, decide_false, Bool.not_true, Bool.not_false, Bool.and_true, Bool.true_and, Bool.and_false, Bool.false_and, Bool.or_true, Bool.true_or, Bool.or_false, Bool.false_or, cond_true, cond_false, Int.reduceEq, Int.reduceLT, Int.reduceLE, Int.reduceNe, Int.reduceToNat]
  show CR.ret _ _ = CR.ret _ _
  rw [List.append_assoc]
  rfl
end Go.Proofs.Ytpmbhjmlghoogaa
