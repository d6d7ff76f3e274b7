/- A row of places turned round. No condition. -/
import Derived.Test.YtggdnepfahknbaaYe
import Derived.Test.YtggdnepfahknbaaYg
namespace Go.Proofs.Ytggdnepfahknbaa
open Go Ab
set_option linter.unusedSimpArgs false
set_option linter.unusedVariables false
set_option maxRecDepth 20000

def plV (r : Ru) : V := .agg (plC r)
theorem eltP : Elt true 23 plC plV := ⟨fun _ => rfl, fun _ => rfl, fun _ => rfl, fun _ => rfl⟩
section
variable {α : Type}
def revf (f : Nat → α) (n i : Nat) : Nat → α := fun k => if k < i ∨ (n - i ≤ k ∧ k < n) then f (n - 1 - k) else f k
theorem revf_zero (f : Nat → α) (n : Nat) : seg (revf f n 0) 0 n = seg f 0 n := by
  refine List.ext_getElem? fun k => ?_
  rcases Nat.lt_or_ge k n with h | h
  · rw [seg_get _ (by omega), seg_get _ (by omega)]
    simp only [revf, Nat.zero_add]
    rw [if_neg (by omega)]
  · rw [List.getElem?_eq_none (by rw [seg_len]; omega), List.getElem?_eq_none (by rw [seg_len]; omega)]
theorem revf_step (f : Nat → α) (n i : Nat) (h : i < n - 1 - i) : up (up (revf f n i) i (revf f n i (n - 1 - i))) (n - 1 - i) (revf f n i i) = revf f n (i + 1) := by
  funext k
  simp only [up, revf]
  by_cases h1 : k = n - 1 - i
  · subst h1
    rw [if_pos rfl, if_neg (by omega), if_pos (by omega)]
    congr 1; omega
  · rw [if_neg h1]
    by_cases h2 : k = i
    · subst h2
      rw [if_pos rfl, if_neg (by omega), if_pos (by omega)]
    · rw [if_neg h2]
      by_cases h3 : k < i ∨ (n - i ≤ k ∧ k < n)
      · rw [if_pos h3, if_pos (by omega)]
      · rw [if_neg h3, if_neg (by omega)]
theorem revf_end (f : Nat → α) (n i : Nat) (h : n - 1 - i ≤ i) : seg (revf f n i) 0 n = (seg f 0 n).reverse := by
  refine List.ext_getElem? fun k => ?_
  rcases Nat.lt_or_ge k n with hk | hk
  · rw [seg_get _ (by omega), List.getElem?_reverse (by rw [seg_len]; omega), seg_len, seg_get _ (by omega)]
    simp only [revf, Nat.zero_add, Nat.sub_zero]
    by_cases h3 : k < i ∨ (n - i ≤ k ∧ k < n)
    · rw [if_pos h3]
    · rw [if_neg h3]
      have : n - 1 - k = k := by omega
      rw [this]
  · rw [List.getElem?_eq_none (by rw [seg_len]; omega), List.getElem?_eq_none (by rw [List.length_reverse, seg_len]; omega)]
end
theorem rs26 (env : Env) (m : Mem) : resV Try.prog Try.prog.funcs[26] env m = some (.tup []) := rfl
set_option maxHeartbeats 2000000 in
theorem snd26 {m0 : Mem} {q : Nat} (hq : q < m0.length) (f : Nat → Ru) (n : Nat) (hn : n < big) (h0 : 0 < n) :
    Snd Try.prog 26 [.sl 23 q 0 n] (RW m0 q 54 23 ((seg f 0 n).map plC)) fun r => r = .ret (.tup []) (RW m0 q 54 23 (((seg f 0 n).reverse).map plC)) := by
  have hbig : big = 4611686018427387904 := rfl
  refine Snd_of_W fol rfl rfl (by kernel_rfl) (by kernel_rfl) ?_
  have w0 : IntKind.i64.wrap ((n : Int) - 1) = ((n - 1 : Nat) : Int) := sub1N n h0 (by omega)
  simp -implicitDefEqProofs only [sims.1, fx.1, keeps.1, tick_on, calleeK, extractV, oneV, faddrK, nonnil, b_shr, b_shl, fieldK, Nat.reduceAdd, Nat.reduceMul, Nat.reduceSub, Nat.reduceEqDiff, Nat.reduceLT, Nat.reduceLeDiff, Nat.reduceBEq, Nat.reduceBNe, reduceIte, Int.reduceEq, Int.reduceLT, Int.reduceLE, Int.reduceNe, Int.reduceToNat, w0]
  refine W_loopM (fun i : Nat => [(0, .sl 23 q 0 n), (2, .int .i64 (i : Int)), (3, .int .i64 ((n - 1 - i : Nat) : Int))]) (fun i m => i ≤ n - 1 - i + 1 ∧ i < n ∧ m = RW m0 q 54 23 ((seg (revf f n i) 0 n).map plC)) (fun i => n - i) 0 (by kernel_rfl) ⟨by omega, h0, by rw [revf_zero]⟩ ?_
  rintro i m ⟨hi, hin, rfl⟩
  rcases Nat.lt_or_ge i (n - 1 - i) with h | h
  · have c1 : decide (i < n - 1 - i) = true := by simpa using h
    have w1 := add1N i (by omega)
    have w2 : IntKind.i64.wrap (((n - 1 - i : Nat) : Int) - 1) = ((n - 1 - (i + 1) : Nat) : Int) := by rw [sub1N _ (by omega) (by omega), Nat.sub_sub]
    have i1 : ∀ {kk : IntKind}, iaddrS 23 (.sl 23 q 0 n) (.int kk (i : Int)) = some (.ep 23 q i 0) := row_ia (by omega)
    have i2 : ∀ {kk : IntKind}, iaddrS 23 (.sl 23 q 0 n) (.int kk ((n - 1 - i : Nat) : Int)) = some (.ep 23 q (n - 1 - i) 0) := row_ia (by omega)
    have l1 := row_ld eltP hq (ty := 54) (f := revf f n i) (n := n) (i := i) (by omega)
    have l2 := row_ld eltP hq (ty := 54) (f := revf f n i) (n := n) (i := n - 1 - i) (by omega)
    have s1 := row_st eltP hq (ty := 54) (f := revf f n i) (n := n) (i := i) (x := revf f n i (n - 1 - i)) (by omega)
    have s2 := row_st eltP hq (ty := 54) (f := up (revf f n i) i (revf f n i (n - 1 - i))) (n := n) (i := n - 1 - i) (x := revf f n i i) (by omega)
    simp -implicitDefEqProofs only [sims.1, fx.1, keeps.1, tick_on, calleeK, extractV, oneV, faddrK, nonnil, b_shr, b_shl, fieldK, Nat.reduceAdd, Nat.reduceMul, Nat.reduceSub, Nat.reduceEqDiff, Nat.reduceLT, Nat.reduceLeDiff, Nat.reduceBEq, Nat.reduceBNe, reduceIte, Int.reduceEq, Int.reduceLT, Int.reduceLE, Int.reduceNe, Int.reduceToNat, ltNat, c1]
    refine w_noisy ?_
    simp -implicitDefEqProofs only [sims.1, fx.1, keeps.1, tick_on, calleeK, extractV, oneV, faddrK, nonnil, b_shr, b_shl, fieldK, Nat.reduceAdd, Nat.reduceMul, Nat.reduceSub, Nat.reduceEqDiff, Nat.reduceLT, Nat.reduceLeDiff, Nat.reduceBEq, Nat.reduceBNe, reduceIte, Int.reduceEq, Int.reduceLT, Int.reduceLE, Int.reduceNe, Int.reduceToNat, i1, i2, l1, l2, s1, s2]
    iterate 2
      (refine orderP_of (accB_lt (rd_ep hq) (by kernel_rfl)) ?_
       simp -implicitDefEqProofs only [sims.1, fx.1, keeps.1, tick_on, calleeK, extractV, oneV, faddrK, nonnil, b_shr, b_shl, fieldK, Nat.reduceAdd, Nat.reduceMul, Nat.reduceSub, Nat.reduceEqDiff, Nat.reduceLT, Nat.reduceLeDiff, Nat.reduceBEq, Nat.reduceBNe, reduceIte, Int.reduceEq, Int.reduceLT, Int.reduceLE, Int.reduceNe, Int.reduceToNat, i1, i2, l1, l2, s1, s2])
    iterate 2
      (refine orderP_of (accB_lt (wr_ep hq) (by kernel_rfl)) ?_
       simp -implicitDefEqProofs only [sims.1, fx.1, keeps.1, tick_on, calleeK, extractV, oneV, faddrK, nonnil, b_shr, b_shl, fieldK, Nat.reduceAdd, Nat.reduceMul, Nat.reduceSub, Nat.reduceEqDiff, Nat.reduceLT, Nat.reduceLeDiff, Nat.reduceBEq, Nat.reduceBNe, reduceIte, Int.reduceEq, Int.reduceLT, Int.reduceLE, Int.reduceNe, Int.reduceToNat, i1, i2, l1, l2, s1, s2])
    have hw := revf_step f n i h
    simp -implicitDefEqProofs only [sims.1, fx.1, keeps.1, tick_on, calleeK, extractV, oneV, faddrK, nonnil, b_shr, b_shl, fieldK, Nat.reduceAdd, Nat.reduceMul, Nat.reduceSub, Nat.reduceEqDiff, Nat.reduceLT, Nat.reduceLeDiff, Nat.reduceBEq, Nat.reduceBNe, reduceIte, Int.reduceEq, Int.reduceLT, Int.reduceLE, Int.reduceNe, Int.reduceToNat, w1, w2, hw]
    exact ⟨i + 1, by kernel_rfl, ⟨by omega, by omega, rfl⟩, by omega⟩
  · have c1 : decide (i < n - 1 - i) = false := by simpa using h
    have hr := revf_end f n i h
    simp -implicitDefEqProofs only [sims.1, fx.1, keeps.1, tick_on, calleeK, extractV, oneV, faddrK, nonnil, b_shr, b_shl, fieldK, Nat.reduceAdd, Nat.reduceMul, Nat.reduceSub, Nat.reduceEqDiff, Nat.reduceLT, Nat.reduceLeDiff, Nat.reduceBEq, Nat.reduceBNe, reduceIte, Int.reduceEq, Int.reduceLT, Int.reduceLE, Int.reduceNe, Int.reduceToNat, ltNat, c1, rs26, hr]
theorem ans26n : Ans Try.prog 26 [.nils] (.tup []) := ans_run fol 200 (by kernel_rfl)
/-- A row of places, turned round. -/
theorem snd26r {m : Mem} {q : Nat} {l : List Ru} (h : m[q]? = some (.row 54 23 (l.map plC))) (hl : l.length < 200001) (h0 : l ≠ []) :
    Snd Try.prog 26 [.sl 23 q 0 l.length] m fun r => r = .ret (.tup []) (m.set q (.row 54 23 (l.reverse.map plC))) := by
  have hq := (List.getElem?_eq_some_iff.1 h).1
  have hs := snd26 hq (fun i => l.getD i ⟨0, fun _ => 0, [], 0⟩) l.length (by show l.length < 4611686018427387904; omega) (List.length_pos_iff.2 h0)
  rw [seg_of, rw_id h] at hs
  exact hs
end Go.Proofs.Ytggdnepfahknbaa
