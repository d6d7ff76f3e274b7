/- Comparing; the order of what is in a row; what is left of a header under a mask. No condition. -/
import Derived.Test.YtffhmbdpmpgddaaWa
import Derived.Test.YtffhmbdpmpgddaaSgI
namespace Go.Proofs.Ytffhmbdpmpgddaa
open Go Ab
set_option linter.unusedSimpArgs false
set_option linter.unusedVariables false
set_option maxRecDepth 20000

def cmpI (x y : Int) : Int := if x < y then -1 else if y < x then 1 else 0
def orI (x y : Int) : Int := if x = 0 then y else x
theorem ans35 (x : Int) : Ans Try.prog 35 [.int .i64 x] (.bool false) := by
  refine Snd_of_W fol rfl rfl (by kernel_rfl) (by kernel_rfl) ?_
  have e : decide (x = x) = true := by simp
  simp -implicitDefEqProofs only [sims.1, fx.1, keeps.1, tick_on, calleeK, extractV, oneV, faddrK, nonnil, b_shr, b_shl, fieldK, Nat.reduceAdd, Nat.reduceMul, Nat.reduceSub, Nat.reduceEqDiff, Nat.reduceLT, Nat.reduceLeDiff, Nat.reduceBEq, Nat.reduceBNe, reduceIte, Int.reduceEq, Int.reduceLT, Int.reduceLE, Int.reduceNe, Int.reduceToNat, e]
  exact ans_ret rfl
theorem ans24 (x y : Int) : Ans Try.prog 24 [.int .i64 x, .int .i64 y] (.int .i64 (cmpI x y)) := by
  refine Snd_of_W fol rfl rfl (by kernel_rfl) (by kernel_rfl) ?_
  simp -implicitDefEqProofs only [sims.1, fx.1, keeps.1, tick_on, calleeK, extractV, oneV, faddrK, nonnil, b_shr, b_shl, fieldK, Nat.reduceAdd, Nat.reduceMul, Nat.reduceSub, Nat.reduceEqDiff, Nat.reduceLT, Nat.reduceLeDiff, Nat.reduceBEq, Nat.reduceBNe, reduceIte, Int.reduceEq, Int.reduceLT, Int.reduceLE, Int.reduceNe, Int.reduceToNat]
  refine callD_ans (ans35 x) en35 rfl rfl ?_
  simp -implicitDefEqProofs only [sims.1, fx.1, keeps.1, tick_on, calleeK, extractV, oneV, faddrK, nonnil, b_shr, b_shl, fieldK, Nat.reduceAdd, Nat.reduceMul, Nat.reduceSub, Nat.reduceEqDiff, Nat.reduceLT, Nat.reduceLeDiff, Nat.reduceBEq, Nat.reduceBNe, reduceIte, Int.reduceEq, Int.reduceLT, Int.reduceLE, Int.reduceNe, Int.reduceToNat]
  refine callD_ans (ans35 y) en35 rfl rfl ?_
  unfold cmpI
  by_cases h : x < y
  · have d : decide (x < y) = true := by simpa using h
    simp -implicitDefEqProofs only [sims.1, fx.1, keeps.1, tick_on, calleeK, extractV, oneV, faddrK, nonnil, b_shr, b_shl, fieldK, Nat.reduceAdd, Nat.reduceMul, Nat.reduceSub, Nat.reduceEqDiff, Nat.reduceLT, Nat.reduceLeDiff, Nat.reduceBEq, Nat.reduceBNe, reduceIte, Int.reduceEq, Int.reduceLT, Int.reduceLE, Int.reduceNe, Int.reduceToNat, d]
    rw [if_pos h]
    exact ans_ret rfl
  · have d : decide (x < y) = false := by simpa using h
    rw [if_neg h]
    by_cases h2 : y < x
    · have d2 : decide (y < x) = true := by simpa using h2
      simp -implicitDefEqProofs only [sims.1, fx.1, keeps.1, tick_on, calleeK, extractV, oneV, faddrK, nonnil, b_shr, b_shl, fieldK, Nat.reduceAdd, Nat.reduceMul, Nat.reduceSub, Nat.reduceEqDiff, Nat.reduceLT, Nat.reduceLeDiff, Nat.reduceBEq, Nat.reduceBNe, reduceIte, Int.reduceEq, Int.reduceLT, Int.reduceLE, Int.reduceNe, Int.reduceToNat, d, d2]
      rw [if_pos h2]
      exact ans_ret rfl
    · have d2 : decide (y < x) = false := by simpa using h2
      simp -implicitDefEqProofs only [sims.1, fx.1, keeps.1, tick_on, calleeK, extractV, oneV, faddrK, nonnil, b_shr, b_shl, fieldK, Nat.reduceAdd, Nat.reduceMul, Nat.reduceSub, Nat.reduceEqDiff, Nat.reduceLT, Nat.reduceLeDiff, Nat.reduceBEq, Nat.reduceBNe, reduceIte, Int.reduceEq, Int.reduceLT, Int.reduceLE, Int.reduceNe, Int.reduceToNat, d, d2]
      rw [if_neg h2]
      exact ans_ret rfl
def row2I (x y : Int) : B := .row 3 1 [[.int .i64 x], [.int .i64 y]]
theorem snd23 (x y : Int) : Snd Try.prog 23 [.sl 1 0 0 2] [row2I x y] fun q => q = .ret (.int .i64 (orI x y)) [row2I x y] := by
  refine Snd_of_W fol rfl rfl (by kernel_rfl) (by kernel_rfl) ?_
  simp -implicitDefEqProofs only [sims.1, fx.1, keeps.1, tick_on, calleeK, extractV, oneV, faddrK, nonnil, b_shr, b_shl, fieldK, Nat.reduceAdd, Nat.reduceMul, Nat.reduceSub, Nat.reduceEqDiff, Nat.reduceLT, Nat.reduceLeDiff, Nat.reduceBEq, Nat.reduceBNe, reduceIte, Int.reduceEq, Int.reduceLT, Int.reduceLE, Int.reduceNe, Int.reduceToNat]
  refine W_loopM (fun j : Nat => [(7, .int .i64 2), (6, .sl 1 0 0 2), (8, .int .i64 (j : Int)), (3, .int .i64 0)])
    (fun j mm => j ≤ 2 ∧ (0 < j → x = 0) ∧ (1 < j → y = 0) ∧ mm = [row2I x y]) (fun j => 2 - j) 0 (by kernel_rfl) ⟨by omega, by omega, by omega, rfl⟩ ?_
  rintro j mm ⟨hj, hx, hy, rfl⟩
  have hj3 : j = 0 ∨ j = 1 ∨ j = 2 := by omega
  rcases hj3 with rfl | rfl | rfl
  · have c1 : decide (((0 : Nat) : Int) < 2) = true := rfl
    have i1 : ∀ {kk : IntKind}, iaddrS 1 (.sl 1 0 0 2) (.int kk ((0 : Nat) : Int)) = some (.ep 1 0 0 0) := rfl
    have l1 : loadK false 1 [row2I x y] (.ep 1 0 0 0) = some (.int .i64 x) := rfl
    by_cases h : x = 0
    · have d : decide (x = 0) = true := by simpa using h
      simp -implicitDefEqProofs only [sims.1, fx.1, keeps.1, tick_on, calleeK, extractV, oneV, faddrK, nonnil, b_shr, b_shl, fieldK, Nat.reduceAdd, Nat.reduceMul, Nat.reduceSub, Nat.reduceEqDiff, Nat.reduceLT, Nat.reduceLeDiff, Nat.reduceBEq, Nat.reduceBNe, reduceIte, Int.reduceEq, Int.reduceLT, Int.reduceLE, Int.reduceNe, Int.reduceToNat, c1, i1, l1, d]
      exact ⟨1, by kernel_rfl, ⟨by omega, fun _ => h, by omega, (by trivial)⟩, by omega⟩
    · have d : decide (x = 0) = false := by simpa using h
      simp -implicitDefEqProofs only [sims.1, fx.1, keeps.1, tick_on, calleeK, extractV, oneV, faddrK, nonnil, b_shr, b_shl, fieldK, Nat.reduceAdd, Nat.reduceMul, Nat.reduceSub, Nat.reduceEqDiff, Nat.reduceLT, Nat.reduceLeDiff, Nat.reduceBEq, Nat.reduceBNe, reduceIte, Int.reduceEq, Int.reduceLT, Int.reduceLE, Int.reduceNe, Int.reduceToNat, c1, i1, l1, d]
      have e : orI x y = x := by simp [orI, h]
      rw [e]
  · have c1 : decide (((1 : Nat) : Int) < 2) = true := rfl
    have i1 : ∀ {kk : IntKind}, iaddrS 1 (.sl 1 0 0 2) (.int kk ((1 : Nat) : Int)) = some (.ep 1 0 1 0) := rfl
    have l1 : loadK false 1 [row2I x y] (.ep 1 0 1 0) = some (.int .i64 y) := rfl
    have e : orI x y = y := by simp [orI, hx (by omega)]
    by_cases h : y = 0
    · have d : decide (y = 0) = true := by simpa using h
      simp -implicitDefEqProofs only [sims.1, fx.1, keeps.1, tick_on, calleeK, extractV, oneV, faddrK, nonnil, b_shr, b_shl, fieldK, Nat.reduceAdd, Nat.reduceMul, Nat.reduceSub, Nat.reduceEqDiff, Nat.reduceLT, Nat.reduceLeDiff, Nat.reduceBEq, Nat.reduceBNe, reduceIte, Int.reduceEq, Int.reduceLT, Int.reduceLE, Int.reduceNe, Int.reduceToNat, c1, i1, l1, d]
      exact ⟨2, by kernel_rfl, ⟨by omega, fun _ => hx (by omega), fun _ => h, (by trivial)⟩, by omega⟩
    · have d : decide (y = 0) = false := by simpa using h
      simp -implicitDefEqProofs only [sims.1, fx.1, keeps.1, tick_on, calleeK, extractV, oneV, faddrK, nonnil, b_shr, b_shl, fieldK, Nat.reduceAdd, Nat.reduceMul, Nat.reduceSub, Nat.reduceEqDiff, Nat.reduceLT, Nat.reduceLeDiff, Nat.reduceBEq, Nat.reduceBNe, reduceIte, Int.reduceEq, Int.reduceLT, Int.reduceLE, Int.reduceNe, Int.reduceToNat, c1, i1, l1, d]
      rw [e]
  · have c1 : decide (((2 : Nat) : Int) < 2) = false := rfl
    have e : orI x y = 0 := by simp [orI, hx (by omega), hy (by omega)]
    simp -implicitDefEqProofs only [sims.1, fx.1, keeps.1, tick_on, calleeK, extractV, oneV, faddrK, nonnil, b_shr, b_shl, fieldK, Nat.reduceAdd, Nat.reduceMul, Nat.reduceSub, Nat.reduceEqDiff, Nat.reduceLT, Nat.reduceLeDiff, Nat.reduceBEq, Nat.reduceBNe, reduceIte, Int.reduceEq, Int.reduceLT, Int.reduceLE, Int.reduceNe, Int.reduceToNat, c1]
    rw [e]
def inC (a : Int × Int) : List V := [.int .i64 a.1, .int .i64 a.2]
def inA (a : Int × Int) : V := .agg (inC a)
theorem bs80 (m : Mem) (x y : Int) : bsliceV Try.prog 80 2 [(0, .int .i64 x), (1, .int .i64 y)] m = some (.sl 1 m.length 0 2, m ++ [row2I x y]) := by kernel_rfl
theorem ans22 (a b : Int × Int) : Ans Try.prog 22 [inA a, inA b] (.int .i64 (orI (cmpI b.2 a.2) (cmpI a.1 b.1))) := by
  refine Snd_of_W fol rfl rfl (by kernel_rfl) (by kernel_rfl) ?_
  have c0 : ∀ a : Int × Int, (inC a)[0]? = some (.int .i64 a.1) := fun _ => rfl
  have c1 : ∀ a : Int × Int, (inC a)[1]? = some (.int .i64 a.2) := fun _ => rfl
  simp -implicitDefEqProofs only [sims.1, fx.1, keeps.1, tick_on, calleeK, extractV, oneV, faddrK, nonnil, b_shr, b_shl, fieldK, Nat.reduceAdd, Nat.reduceMul, Nat.reduceSub, Nat.reduceEqDiff, Nat.reduceLT, Nat.reduceLeDiff, Nat.reduceBEq, Nat.reduceBNe, reduceIte, Int.reduceEq, Int.reduceLT, Int.reduceLE, Int.reduceNe, Int.reduceToNat, inA]
  refine w_noisy ?_
  simp -implicitDefEqProofs only [sims.1, fx.1, keeps.1, tick_on, calleeK, extractV, oneV, faddrK, nonnil, b_shr, b_shl, fieldK, Nat.reduceAdd, Nat.reduceMul, Nat.reduceSub, Nat.reduceEqDiff, Nat.reduceLT, Nat.reduceLeDiff, Nat.reduceBEq, Nat.reduceBNe, reduceIte, Int.reduceEq, Int.reduceLT, Int.reduceLE, Int.reduceNe, Int.reduceToNat, c0, c1]
  iterate 3
    first
    | (refine orderP_of (by kernel_rfl) ?_
       simp -implicitDefEqProofs only [sims.1, fx.1, keeps.1, tick_on, calleeK, extractV, oneV, faddrK, nonnil, b_shr, b_shl, fieldK, Nat.reduceAdd, Nat.reduceMul, Nat.reduceSub, Nat.reduceEqDiff, Nat.reduceLT, Nat.reduceLeDiff, Nat.reduceBEq, Nat.reduceBNe, reduceIte, Int.reduceEq, Int.reduceLT, Int.reduceLE, Int.reduceNe, Int.reduceToNat, c0, c1])
    | skip
  refine callE_ans (ans24 _ _) en24 rfl rfl ?_
  simp -implicitDefEqProofs only [sims.1, fx.1, keeps.1, tick_on, calleeK, extractV, oneV, faddrK, nonnil, b_shr, b_shl, fieldK, Nat.reduceAdd, Nat.reduceMul, Nat.reduceSub, Nat.reduceEqDiff, Nat.reduceLT, Nat.reduceLeDiff, Nat.reduceBEq, Nat.reduceBNe, reduceIte, Int.reduceEq, Int.reduceLT, Int.reduceLE, Int.reduceNe, Int.reduceToNat, c0, c1]
  iterate 4
    first
    | (refine orderP_of (by kernel_rfl) ?_
       simp -implicitDefEqProofs only [sims.1, fx.1, keeps.1, tick_on, calleeK, extractV, oneV, faddrK, nonnil, b_shr, b_shl, fieldK, Nat.reduceAdd, Nat.reduceMul, Nat.reduceSub, Nat.reduceEqDiff, Nat.reduceLT, Nat.reduceLeDiff, Nat.reduceBEq, Nat.reduceBNe, reduceIte, Int.reduceEq, Int.reduceLT, Int.reduceLE, Int.reduceNe, Int.reduceToNat, c0, c1, bs80])
    | skip
  refine callE_ans (ans24 _ _) en24 rfl rfl ?_
  simp -implicitDefEqProofs only [sims.1, fx.1, keeps.1, tick_on, calleeK, extractV, oneV, faddrK, nonnil, b_shr, b_shl, fieldK, Nat.reduceAdd, Nat.reduceMul, Nat.reduceSub, Nat.reduceEqDiff, Nat.reduceLT, Nat.reduceLeDiff, Nat.reduceBEq, Nat.reduceBNe, reduceIte, Int.reduceEq, Int.reduceLT, Int.reduceLE, Int.reduceNe, Int.reduceToNat, bs80]
  iterate 4
    first
    | (refine orderP_of (by kernel_rfl) ?_
       simp -implicitDefEqProofs only [sims.1, fx.1, keeps.1, tick_on, calleeK, extractV, oneV, faddrK, nonnil, b_shr, b_shl, fieldK, Nat.reduceAdd, Nat.reduceMul, Nat.reduceSub, Nat.reduceEqDiff, Nat.reduceLT, Nat.reduceLeDiff, Nat.reduceBEq, Nat.reduceBNe, reduceIte, Int.reduceEq, Int.reduceLT, Int.reduceLE, Int.reduceNe, Int.reduceToNat, c0, c1, bs80])
    | skip
  refine callE_sl (snd23 _ _) en23 rfl rfl (n := 2) rfl rfl rfl ?_
  simp -implicitDefEqProofs only [sims.1, fx.1, keeps.1, tick_on, calleeK, extractV, oneV, faddrK, nonnil, b_shr, b_shl, fieldK, Nat.reduceAdd, Nat.reduceMul, Nat.reduceSub, Nat.reduceEqDiff, Nat.reduceLT, Nat.reduceLeDiff, Nat.reduceBEq, Nat.reduceBNe, reduceIte, Int.reduceEq, Int.reduceLT, Int.reduceLE, Int.reduceNe, Int.reduceToNat]
  iterate 4
    first
    | (refine orderP_of (by kernel_rfl) ?_
       simp -implicitDefEqProofs only [sims.1, fx.1, keeps.1, tick_on, calleeK, extractV, oneV, faddrK, nonnil, b_shr, b_shl, fieldK, Nat.reduceAdd, Nat.reduceMul, Nat.reduceSub, Nat.reduceEqDiff, Nat.reduceLT, Nat.reduceLeDiff, Nat.reduceBEq, Nat.reduceBNe, reduceIte, Int.reduceEq, Int.reduceLT, Int.reduceLE, Int.reduceNe, Int.reduceToNat, c0, c1, bs80])
    | skip
  exact ⟨_, rfl⟩
def ltIn (a b : Int × Int) : Bool := decide (b.2 < a.2) || (decide (a.2 = b.2) && decide (a.1 < b.1))
theorem ltIn_or (a b : Int × Int) : decide (orI (cmpI b.2 a.2) (cmpI a.1 b.1) < 0) = ltIn a b := by
  unfold orI cmpI ltIn
  by_cases h1 : b.2 < a.2
  · rw [if_pos h1]
    simp [h1]
  · rw [if_neg h1]
    by_cases h2 : a.2 < b.2
    · rw [if_pos h2]
      have : ¬ a.2 = b.2 := by omega
      simp [h1, this]
    · rw [if_neg h2]
      have : a.2 = b.2 := by omega
      rw [if_pos rfl]
      by_cases h3 : a.1 < b.1
      · simp [h1, this, h3]
      · simp only [h3, if_false]
        by_cases h4 : b.1 < a.1 <;> simp [h1, h4]
theorem ordIn : Ord (Int × Int) ltIn := by
  refine ⟨fun a => ?_, fun a b c h1 h2 => ?_, fun a b c h1 h2 => ?_⟩
  · simp [ltIn]
  · simp [ltIn] at h1 h2 ⊢
    omega
  · simp [ltIn] at h1 h2 ⊢
    omega
theorem eltIn : Elt true 2 inC inA := ⟨fun _ => rfl, fun _ => rfl, fun _ => rfl, fun _ => rfl⟩
/-- A row's list is put into order: the greatest rank first, then the least number. -/
theorem snd34I {m0 : Mem} {q : Nat} (hq : q < m0.length) (f : Nat → Int × Int) (n : Nat) (hn : 4 * n + 100 < big) :
    Snd Try.prog 34 [.sl 2 q 0 n, .fn 22 [] []] (RW m0 q 65 2 ((seg f 0 n).map inC)) fun r => ∃ f', r = .ret (.tup []) (RW m0 q 65 2 ((seg f' 0 n).map inC)) ∧ seg f' 0 n = ssort ltIn (seg f 0 n) := by
  refine snd34 ordIn eltIn hq 22 [] [] n (fun g x y K hk => ?_) f hn
  exact callQ_ans (ans22 x y) en22 rfl rfl (hk _ (ltIn_or x y))
def undH (h k : Nat → Nat) : Nat → Nat := fun i => h i &&& k i
theorem ans26 (h k : Nat → Nat) (hh : U64 11 h) (hk : U64 11 k) : Ans Try.prog 26 [hv h, hv k] (hv (undH h k)) := by
  refine Snd_of_W fol rfl rfl (by kernel_rfl) (by kernel_rfl) ?_
  simp -implicitDefEqProofs only [sims.1, fx.1, keeps.1, tick_on, calleeK, extractV, oneV, faddrK, nonnil, b_shr, b_shl, fieldK, Nat.reduceAdd, Nat.reduceMul, Nat.reduceSub, Nat.reduceEqDiff, Nat.reduceLT, Nat.reduceLeDiff, Nat.reduceBEq, Nat.reduceBNe, reduceIte, Int.reduceEq, Int.reduceLT, Int.reduceLE, Int.reduceNe, Int.reduceToNat, hv]
  refine W_loopM (fun j : Nat => [(3, .ptr 1 0), (6, .int .i64 (j : Int)), (2, .ptr 0 0), (4, .ptr 2 0)])
    (fun j mm => j ≤ 11 ∧ ∃ f : Nat → Int, (∀ i, i < 11 → f i = ((if i < j then h i &&& k i else h i : Nat) : Int)) ∧ mm = [.var 25 (cl .u64 11 f), .var 25 (cl .u64 11 fun i => (k i : Int)), .var 25 (cl .u64 11 fun _ => 0)]) (fun j => 11 - j) 0
    (by kernel_rfl) ⟨by omega, _, fun i _ => by simp, rfl⟩ ?_
  rintro j mm ⟨hj, f, hf, rfl⟩
  rcases Nat.lt_or_ge j 11 with h1 | h1
  · have c1 : decide ((j : Int) < 11) = true := by simp; omega
    have c7 := wrap_i64s j (by omega)
    have e1 : f j = (h j : Int) := by rw [hf j h1, if_neg (Nat.lt_irrefl j)]
    have x1 := bits_and_u64_nat (h j) (k j) (hh j h1) (hk j h1)
    simp -implicitDefEqProofs only [sims.1, fx.1, keeps.1, tick_on, calleeK, extractV, oneV, faddrK, nonnil, b_shr, b_shl, fieldK, Nat.reduceAdd, Nat.reduceMul, Nat.reduceSub, Nat.reduceEqDiff, Nat.reduceLT, Nat.reduceLeDiff, Nat.reduceBEq, Nat.reduceBNe, reduceIte, Int.reduceEq, Int.reduceLT, Int.reduceLE, Int.reduceNe, Int.reduceToNat, c1]
    refine w_noisy ?_
    simp -implicitDefEqProofs only [sims.1, fx.1, keeps.1, tick_on, calleeK, extractV, oneV, faddrK, nonnil, b_shr, b_shl, fieldK, Nat.reduceAdd, Nat.reduceMul, Nat.reduceSub, Nat.reduceEqDiff, Nat.reduceLT, Nat.reduceLeDiff, Nat.reduceBEq, Nat.reduceBNe, reduceIte, Int.reduceEq, Int.reduceLT, Int.reduceLE, Int.reduceNe, Int.reduceToNat, h1, cl_get, e1, x1]
    iterate 6
      first
      | (refine orderP_of (by kernel_rfl) ?_
         simp -implicitDefEqProofs only [sims.1, fx.1, keeps.1, tick_on, calleeK, extractV, oneV, faddrK, nonnil, b_shr, b_shl, fieldK, Nat.reduceAdd, Nat.reduceMul, Nat.reduceSub, Nat.reduceEqDiff, Nat.reduceLT, Nat.reduceLeDiff, Nat.reduceBEq, Nat.reduceBNe, reduceIte, Int.reduceEq, Int.reduceLT, Int.reduceLE, Int.reduceNe, Int.reduceToNat, h1, cl_get, e1, x1, c7])
      | skip
    refine ⟨j + 1, by kernel_rfl, ⟨h1, ub f j ((h j &&& k j : Nat) : Int), fun i hi => ?_, by rw [cl_ub h1]⟩, by omega⟩
    unfold ub
    by_cases hij : i = j
    · rw [if_pos hij, if_pos (by omega), hij]
    · rw [if_neg hij, hf i hi]
      have : (i < j) ↔ (i < j + 1) := by omega
      simp only [this]
  · have c1 : decide ((j : Int) < 11) = false := by simp; omega
    have e : cl .u64 11 f = cl .u64 11 fun i => (undH h k i : Int) := cl_congr fun i hi => by rw [hf i hi, if_pos (by omega)]; rfl
    simp -implicitDefEqProofs only [sims.1, fx.1, keeps.1, tick_on, calleeK, extractV, oneV, faddrK, nonnil, b_shr, b_shl, fieldK, Nat.reduceAdd, Nat.reduceMul, Nat.reduceSub, Nat.reduceEqDiff, Nat.reduceLT, Nat.reduceLeDiff, Nat.reduceBEq, Nat.reduceBNe, reduceIte, Int.reduceEq, Int.reduceLT, Int.reduceLE, Int.reduceNe, Int.reduceToNat, c1, e, partK_all, storeK_agg, splice_all]
    exact ⟨_, rfl⟩
end Go.Proofs.Ytffhmbdpmpgddaa
