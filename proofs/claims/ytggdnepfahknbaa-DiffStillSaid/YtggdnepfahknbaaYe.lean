/- Rules are put in order by falling ranks. No condition. -/
import Derived.Test.YtggdnepfahknbaaYd
import Derived.Test.YtggdnepfahknbaaSgU
namespace Go.Proofs.Ytggdnepfahknbaa
open Go Ab
set_option linter.unusedSimpArgs false
set_option linter.unusedVariables false
set_option maxRecDepth 20000

def cmpI (x y : Int) : Int := if x < y then -1 else if y < x then 1 else 0
theorem ans37 (x : Int) : Ans Try.prog 37 [.int .i64 x] (.bool false) := by
  refine Snd_of_W fol rfl rfl (by kernel_rfl) (by kernel_rfl) ?_
  have e : decide (x = x) = true := by simp
  simp -implicitDefEqProofs only [sims.1, fx.1, keeps.1, tick_on, calleeK, extractV, oneV, faddrK, nonnil, b_shr, b_shl, fieldK, Nat.reduceAdd, Nat.reduceMul, Nat.reduceSub, Nat.reduceEqDiff, Nat.reduceLT, Nat.reduceLeDiff, Nat.reduceBEq, Nat.reduceBNe, reduceIte, Int.reduceEq, Int.reduceLT, Int.reduceLE, Int.reduceNe, Int.reduceToNat, e]
  exact ans_ret rfl
theorem ans32 (x y : Int) : Ans Try.prog 32 [.int .i64 x, .int .i64 y] (.int .i64 (cmpI x y)) := by
  refine Snd_of_W fol rfl rfl (by kernel_rfl) (by kernel_rfl) ?_
  simp -implicitDefEqProofs only [sims.1, fx.1, keeps.1, tick_on, calleeK, extractV, oneV, faddrK, nonnil, b_shr, b_shl, fieldK, Nat.reduceAdd, Nat.reduceMul, Nat.reduceSub, Nat.reduceEqDiff, Nat.reduceLT, Nat.reduceLeDiff, Nat.reduceBEq, Nat.reduceBNe, reduceIte, Int.reduceEq, Int.reduceLT, Int.reduceLE, Int.reduceNe, Int.reduceToNat]
  refine callD_ans (ans37 x) en37 rfl rfl ?_
  simp -implicitDefEqProofs only [sims.1, fx.1, keeps.1, tick_on, calleeK, extractV, oneV, faddrK, nonnil, b_shr, b_shl, fieldK, Nat.reduceAdd, Nat.reduceMul, Nat.reduceSub, Nat.reduceEqDiff, Nat.reduceLT, Nat.reduceLeDiff, Nat.reduceBEq, Nat.reduceBNe, reduceIte, Int.reduceEq, Int.reduceLT, Int.reduceLE, Int.reduceNe, Int.reduceToNat]
  refine callD_ans (ans37 y) en37 rfl rfl ?_
  unfold cmpI
  by_cases h : x < y
  · have d : decide (x < y) = true := by simpa using h
    simp -implicitDefEqProofs only [sims.1, fx.1, keeps.1, tick_on, calleeK, extractV, oneV, faddrK, nonnil, b_shr, b_shl, fieldK, Nat.reduceAdd, Nat.reduceMul, Nat.reduceSub, Nat.reduceEqDiff, Nat.reduceLT, Nat.reduceLeDiff, Nat.reduceBEq, Nat.reduceBNe, reduceIte, Int.reduceEq, Int.reduceLT, Int.reduceLE, Int.reduceNe, Int.reduceToNat, d]
    rw [if_pos h]
    exact ans_ret rfl
  · have d : decide (x < y) = false := by simpa using h
    rw [if_neg h]
    by_cases h2 : y < x
    · have d2 : decide (y < x) = true := by simpa using h2
      simp -implicitDefEqProofs only [sims.1, fx.1, keeps.1, tick_on, calleeK, extractV, oneV, faddrK, nonnil, b_shr, b_shl, fieldK, Nat.reduceAdd, Nat.reduceMul, Nat.reduceSub, Nat.reduceEqDiff, Nat.reduceLT, Nat.reduceLeDiff, Nat.reduceBEq, Nat.reduceBNe, reduceIte, Int.reduceEq, Int.reduceLT, Int.reduceLE, Int.reduceNe, Int.reduceToNat, d, d2]
      rw [if_pos h2]
      exact ans_ret rfl
    · have d2 : decide (y < x) = false := by simpa using h2
      simp -implicitDefEqProofs only [sims.1, fx.1, keeps.1, tick_on, calleeK, extractV, oneV, faddrK, nonnil, b_shr, b_shl, fieldK, Nat.reduceAdd, Nat.reduceMul, Nat.reduceSub, Nat.reduceEqDiff, Nat.reduceLT, Nat.reduceLeDiff, Nat.reduceBEq, Nat.reduceBNe, reduceIte, Int.reduceEq, Int.reduceLT, Int.reduceLE, Int.reduceNe, Int.reduceToNat, d, d2]
      rw [if_neg h2]
      exact ans_ret rfl
theorem ans17 (r : Ru) : Ans Try.prog 17 [ruV r] (.int .i64 r.rank) := by
  refine Snd_of_W fol rfl rfl (by kernel_rfl) (by kernel_rfl) ?_
  simp -implicitDefEqProofs only [sims.1, fx.1, keeps.1, tick_on, calleeK, extractV, oneV, faddrK, nonnil, b_shr, b_shl, fieldK, Nat.reduceAdd, Nat.reduceMul, Nat.reduceSub, Nat.reduceEqDiff, Nat.reduceLT, Nat.reduceLeDiff, Nat.reduceBEq, Nat.reduceBNe, reduceIte, Int.reduceEq, Int.reduceLT, Int.reduceLE, Int.reduceNe, Int.reduceToNat, ruV, p0]
  exact ans_ret rfl
theorem ans31 (a b : Ru) : Ans Try.prog 31 [ruV a, ruV b, .ip [.fn 17 [] []]] (.int .i64 (cmpI b.rank a.rank)) := by
  refine Snd_of_W fol rfl rfl (by kernel_rfl) (by kernel_rfl) ?_
  have l58 : ∀ m, loadV Try.prog m 58 (.ip [.fn 17 [] []]) = some (.fn 17 [] []) := fun _ => rfl
  have n1 : ∀ r, nfs [ruV r] = true := fun r => nfs_cons (nf_ru r) rfl
  simp -implicitDefEqProofs only [sims.1, fx.1, keeps.1, tick_on, calleeK, extractV, oneV, faddrK, nonnil, b_shr, b_shl, fieldK, Nat.reduceAdd, Nat.reduceMul, Nat.reduceSub, Nat.reduceEqDiff, Nat.reduceLT, Nat.reduceLeDiff, Nat.reduceBEq, Nat.reduceBNe, reduceIte, Int.reduceEq, Int.reduceLT, Int.reduceLE, Int.reduceNe, Int.reduceToNat, ruV]
  refine w_quiet ?_
  simp -implicitDefEqProofs only [sims.1, fx.1, keeps.1, tick_on, calleeK, extractV, oneV, faddrK, nonnil, b_shr, b_shl, fieldK, Nat.reduceAdd, Nat.reduceMul, Nat.reduceSub, Nat.reduceEqDiff, Nat.reduceLT, Nat.reduceLeDiff, Nat.reduceBEq, Nat.reduceBNe, reduceIte, Int.reduceEq, Int.reduceLT, Int.reduceLE, Int.reduceNe, Int.reduceToNat, l58, pR]
  refine callQ_ans (ans17 b) en17 (n1 b) rfl ?_
  simp -implicitDefEqProofs only [sims.1, fx.1, keeps.1, tick_on, calleeK, extractV, oneV, faddrK, nonnil, b_shr, b_shl, fieldK, Nat.reduceAdd, Nat.reduceMul, Nat.reduceSub, Nat.reduceEqDiff, Nat.reduceLT, Nat.reduceLeDiff, Nat.reduceBEq, Nat.reduceBNe, reduceIte, Int.reduceEq, Int.reduceLT, Int.reduceLE, Int.reduceNe, Int.reduceToNat, l58, pR]
  refine callQ_ans (ans17 a) en17 (n1 a) rfl ?_
  simp -implicitDefEqProofs only [sims.1, fx.1, keeps.1, tick_on, calleeK, extractV, oneV, faddrK, nonnil, b_shr, b_shl, fieldK, Nat.reduceAdd, Nat.reduceMul, Nat.reduceSub, Nat.reduceEqDiff, Nat.reduceLT, Nat.reduceLeDiff, Nat.reduceBEq, Nat.reduceBNe, reduceIte, Int.reduceEq, Int.reduceLT, Int.reduceLE, Int.reduceNe, Int.reduceToNat]
  refine callQ_ans (ans32 b.rank a.rank) en32 rfl rfl ?_
  simp -implicitDefEqProofs only [sims.1, fx.1, keeps.1, tick_on, calleeK, extractV, oneV, faddrK, nonnil, b_shr, b_shl, fieldK, Nat.reduceAdd, Nat.reduceMul, Nat.reduceSub, Nat.reduceEqDiff, Nat.reduceLT, Nat.reduceLeDiff, Nat.reduceBEq, Nat.reduceBNe, reduceIte, Int.reduceEq, Int.reduceLT, Int.reduceLE, Int.reduceNe, Int.reduceToNat]
  exact ans_ret rfl
def ltD (a b : Ru) : Bool := decide (b.rank < a.rank)
theorem cmp_ltD (a b : Ru) : decide (cmpI b.rank a.rank < 0) = ltD a b := by
  unfold cmpI ltD
  by_cases h : b.rank < a.rank
  · rw [if_pos h]; simp [h]
  · rw [if_neg h]
    split <;> simp [h]
theorem ordD : Ord Ru ltD := ⟨fun a => by simp [ltD], fun a b c h1 h2 => by simp [ltD] at *; omega, fun a b c h1 h2 => by simp [ltD] at *; omega⟩
theorem eltD : Elt true 25 ruC ruV := ⟨fun _ => rfl, fun _ => rfl, fun _ => rfl, fun _ => rfl⟩
theorem cmpD {m0 : Mem} {q b n : Nat} (hb : m0[b]? = some (.var 58 [.fn 17 [] []])) (hq : b ≠ q) : Cmp Try.prog ltD ruV 31 [] [.ptr b 0] fun g => RW m0 q 36 25 ((seg g 0 n).map ruC) := by
  intro g x y K hK
  have hb2 : (RW m0 q 36 25 ((seg g 0 n).map ruC))[b]? = some (.var 58 [.fn 17 [] []]) := by
    unfold RW
    rw [List.getElem?_set_ne (Ne.symm hq)]
    exact hb
  refine callQ_look [ruV x, ruV y, .ip [.fn 17 [] []]] (ans31 x y) en31 ?_ (nfs_cons (nf_ru x) (nfs_cons (nf_ru y) rfl)) rfl (hK _ (cmp_ltD x y))
  have h1 : ∀ r, lookV (RW m0 q 36 25 ((seg g 0 n).map ruC)) (ruV r) = ruV r := fun r => by
    unfold ruV lookV
    exact nf_lend (nf_ru r)
  simp only [List.nil_append, List.cons_append, List.map_cons, List.map_nil, h1]
  simp only [lookV, hb2]
  rfl
theorem snd16 {m : Mem} {q : Nat} {l : List Ru} (h : m[q]? = some (.row 36 25 (l.map ruC))) (hl : l.length < 200001) :
    Snd Try.prog 16 [.sl 25 q 0 l.length, .fn 17 [] []] m fun r => r = .ret (.tup []) ((m ++ [B.var 58 [.fn 17 [] []]]).set q (.row 36 25 ((ssort ltD l).map ruC))) := by
  refine Snd_of_W fol rfl rfl (by kernel_rfl) (by kernel_rfl) ?_
  have hql := (List.getElem?_eq_some_iff.1 h).1
  have nv : ∀ m : Mem, newV 58 m (.fn 17 [] []) = some (.ptr m.length 0, m ++ [.var 58 [.fn 17 [] []]]) := fun m => newV_one rfl
  have rs16 : ∀ (env : Env) (m : Mem), resV Try.prog Try.prog.funcs[16] env m = some (.tup []) := fun _ _ => rfl
  simp -implicitDefEqProofs only [sims.1, fx.1, keeps.1, tick_on, calleeK, extractV, oneV, faddrK, nonnil, b_shr, b_shl, fieldK, Nat.reduceAdd, Nat.reduceMul, Nat.reduceSub, Nat.reduceEqDiff, Nat.reduceLT, Nat.reduceLeDiff, Nat.reduceBEq, Nat.reduceBNe, reduceIte, Int.reduceEq, Int.reduceLT, Int.reduceLE, Int.reduceNe, Int.reduceToNat, nv]
  have h0 : (m ++ [B.var 58 [.fn 17 [] []]])[q]? = some (.row 36 25 (l.map ruC)) := by rw [List.getElem?_append_left hql]; exact h
  have hb : (m ++ [B.var 58 [.fn 17 [] []]])[m.length]? = some (.var 58 [.fn 17 [] []]) := by simp
  have hq0 : q < (m ++ [B.var 58 [.fn 17 [] []]]).length := (List.getElem?_eq_some_iff.1 h0).1
  generalize m ++ [B.var 58 [.fn 17 [] []]] = m0 at h0 hb hq0 ⊢
  have hs := snd30 ordD eltD hq0 31 [] [.ptr m.length 0] l.length (cmpD hb (by omega)) (fun i => l.getD i ⟨0, fun _ => 0, [], 0⟩) (by show 4 * l.length + 100 < 4611686018427387904; omega)
  rw [seg_of, rw_id h0] at hs
  refine callD_allQ hs en30 ?_
  rintro r ⟨f', rfl, hf⟩
  refine ⟨_, _, rfl, ?_⟩
  simp -implicitDefEqProofs only [sims.1, fx.1, keeps.1, tick_on, calleeK, extractV, oneV, faddrK, nonnil, b_shr, b_shl, fieldK, Nat.reduceAdd, Nat.reduceMul, Nat.reduceSub, Nat.reduceEqDiff, Nat.reduceLT, Nat.reduceLeDiff, Nat.reduceBEq, Nat.reduceBNe, reduceIte, Int.reduceEq, Int.reduceLT, Int.reduceLE, Int.reduceNe, Int.reduceToNat, rs16]
  rw [hf]
  rfl
theorem ans16n : Ans Try.prog 16 [.nils, .fn 17 [] []] (.tup []) := ans_run fol 200 (by kernel_rfl)
end Go.Proofs.Ytggdnepfahknbaa
