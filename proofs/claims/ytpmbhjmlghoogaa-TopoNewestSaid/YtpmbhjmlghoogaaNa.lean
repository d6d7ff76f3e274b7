/- Bytes, told by numbers; the cursor's 'take'. No condition. -/
import Derived.Test.YtpmbhjmlghoogaaFx
namespace Go.Proofs.Ytpmbhjmlghoogaa
open Go Ab
set_option linter.unusedSimpArgs false
set_option linter.unusedVariables false
set_option maxRecDepth 20000

def byC (b : Nat) : List V := [.int .u8 (b : Int)]
def byV (l : List Nat) : V := .isl 1 (l.map byC)
theorem nfs_by : ∀ l : List Nat, nfss (l.map byC) = true
  | [] => rfl
  | a :: r => by simp [nfss, nfs, nf, byC, nfs_by r]
theorem nf_by (l : List Nat) : nf (byV l) = true := by simp only [nf, byV]; exact nfs_by l
theorem len_by (m : Mem) (l : List Nat) : lenV Try.prog m 31 (byV l) = some (.int .i64 (l.length : Int)) := by unfold byV; rw [lni31, List.length_map]
theorem ia_by {l : List Nat} {j : Nat} {k : IntKind} (h : j < l.length) : iaddrS 1 (byV l) (.int k (j : Int)) = some (.ip (byC l[j])) := iaddrS_isl (by simp [h])
theorem un22 : Try.prog.underlying 31 = some (.slice 5) := by kernel_rfl
theorem in5 : ∃ i, Try.prog.info? 5 = some i ∧ i.size = 1 := ⟨(Try.prog.info? 5).get rfl, rfl, by kernel_rfl⟩
theorem sl_to (l : List Nat) (n : Nat) (h : n ≤ l.length) : sliceV Try.prog 31 (byV l) none (some (.int .i64 (n : Int))) = some (byV (l.take n)) := by
  obtain ⟨i, h1, h2⟩ := in5
  simp only [sliceV, byV, un22, h1, h2, bndV, List.length_map]
  simp only [show Nat.beq 1 1 = true from rfl, cond_true]
  rw [if_pos ⟨by omega, by omega, by omega⟩]
  simp [List.map_take]
theorem sl_from (l : List Nat) (n : Nat) (h : n ≤ l.length) : sliceV Try.prog 31 (byV l) (some (.int .i64 (n : Int))) none = some (byV (l.drop n)) := by
  obtain ⟨i, h1, h2⟩ := in5
  simp only [sliceV, byV, un22, h1, h2, bndV, List.length_map]
  simp only [show Nat.beq 1 1 = true from rfl, cond_true]
  rw [if_pos ⟨by omega, by omega, by omega⟩]
  simp only [Int.toNat_natCast]
  rw [← List.map_drop, List.take_of_length_le (by simp)]

def shortV : V := .ifc 103 (.agg [])
theorem rl1 (n o : Nat) : nonnil (.ptr n o) = true := rfl
theorem co53 : Try.prog.concrete 103 = true := by kernel_rfl
theorem ltNat (j k : Nat) : decide ((j : Int) < (k : Int)) = decide (j < k) := by rw [Bool.eq_iff_iff]; simp
theorem canK {l : List Nat} {keep : List Nat} {env : Env} {ex : Mem} (vs : List V) {e' : Env} (hk : keep.map env = vs) (hL : reach (.var 107 [byV l] :: ex) 2000 (List.range 1 ++ nmss vs) [] = [0]) (hi : inDs (fun k => [0].contains k) vs = true)
    (hv : rens (idx [0]) vs = vs) (hE : mkEnv (keep.zip vs) = e') : canon 1 keep env (.var 107 [byV l] :: ex) = some (e', [.var 107 [byV l]]) := by
  refine canon_of vs [0] hk hL hi ?_ hv hE ?_
  · have : inDB (fun k => [0].contains k) (.var 107 [byV l]) = true := inDs_cons (nf_inD _ _ (nf_by l)) rfl
    simp only [closedB, List.all_cons, List.all_nil, List.getD_cons_zero, this]
    simp
    exact ⟨rfl, rfl⟩
  · simp only [view, List.map_cons, List.map_nil, List.getD_cons_zero, renB, rens, ren_nf _ _ (nf_by l)]

theorem snd30 (l : List Nat) (n : Nat) (h : n ≤ l.length) : Snd Try.prog 39 [.ptr 0 0, .int .i64 (n : Int)] [.var 107 [byV l]] fun r => r = .ret (byV (l.take n)) [.var 107 [byV (l.drop n)]] := by
  refine Snd_of_W fol rfl rfl (by kernel_rfl) (by kernel_rfl) ?_
  have c1 : decide (l.length < n) = false := by simp; omega
  simp -implicitDefEqProofs only [sims.1, fx.1, tick_on, calleeK, List.getElem?_toArray, extractV, oneV, faddrK, nonnil, b_shr, b_shl, eq_self, beq_self_eq_true, fieldK, Option.bind_some, Option.map_some, Option.bind_none, Option.map_none, List.map_cons, List.map_nil, List.getD_cons_zero, List.getD_cons_succ, List.getD_nil, List.length_nil, List.length_cons, List.length_set, List.nil_append, List.cons_append, List.append_nil, List.getElem?_cons_zero, List.getElem?_cons_succ, List.getElem?_nil, List.set_cons_zero, List.set_cons_succ, Nat.reduceAdd, Nat.zero_add, Nat.add_zero, Nat.mul_one, Nat.mul_zero, Nat.zero_mul, Nat.reduceMul, Nat.reduceSub, Nat.reduceEqDiff, Nat.reduceLT, Nat.reduceLeDiff, Nat.reduceBEq, Nat.reduceBNe, Nat.succ_ne_self, reduceIte, if_true, if_false, ite_self, decide_true, decide_false, Bool.not_true, Bool.not_false, Bool.and_true, Bool.true_and, Bool.and_false, Bool.false_and, Bool.or_true, Bool.true_or, Bool.or_false, Bool.false_or, cond_true, cond_false, Int.reduceEq, Int.reduceLT, Int.reduceLE, Int.reduceNe, Int.reduceToNat, rl1, len_by, ltNat, c1, sl_to l n h, sl_from l n h]
  exact ⟨_, rfl, rfl⟩
theorem snd30p (l : List Nat) (n : Nat) (h : l.length < n) : Snd Try.prog 39 [.ptr 0 0, .int .i64 (n : Int)] [.var 107 [byV l]] fun r => r = .pan shortV [.var 107 [byV l]] := by
  refine Snd_of_W fol rfl rfl (by kernel_rfl) (by kernel_rfl) ?_
  have c1 : decide (l.length < n) = true := by simpa using h
  simp -implicitDefEqProofs only [sims.1, fx.1, tick_on, calleeK, List.getElem?_toArray, extractV, oneV, faddrK, nonnil, b_shr, b_shl, eq_self, beq_self_eq_true, fieldK, Option.bind_some, Option.map_some, Option.bind_none, Option.map_none, List.map_cons, List.map_nil, List.getD_cons_zero, List.getD_cons_succ, List.getD_nil, List.length_nil, List.length_cons, List.length_set, List.nil_append, List.cons_append, List.append_nil, List.getElem?_cons_zero, List.getElem?_cons_succ, List.getElem?_nil, List.set_cons_zero, List.set_cons_succ, Nat.reduceAdd, Nat.zero_add, Nat.add_zero, Nat.mul_one, Nat.mul_zero, Nat.zero_mul, Nat.reduceMul, Nat.reduceSub, Nat.reduceEqDiff, Nat.reduceLT, Nat.reduceLeDiff, Nat.reduceBEq, Nat.reduceBNe, Nat.succ_ne_self, reduceIte, if_true, if_false, ite_self, decide_true, decide_false, Bool.not_true, Bool.not_false, Bool.and_true, Bool.true_and, Bool.and_false, Bool.false_and, Bool.or_true, Bool.true_or, Bool.or_false, Bool.false_or, cond_true, cond_false, Int.reduceEq, Int.reduceLT, Int.reduceLE, Int.reduceNe, Int.reduceToNat, rl1, len_by, ltNat, c1, bu103, co53]
  rfl
end Go.Proofs.Ytpmbhjmlghoogaa
