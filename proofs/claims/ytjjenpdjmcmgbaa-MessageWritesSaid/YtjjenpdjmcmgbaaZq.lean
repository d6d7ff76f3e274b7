/- Matches put behind bytes, by the reference: the call. No condition. -/
import Derived.Test.YtjjenpdjmcmgbaaZp
namespace Go.Proofs.Ytjjenpdjmcmgbaa
open Go Ab
set_option linter.unusedSimpArgs false
set_option linter.unusedVariables false
set_option maxRecDepth 20000

theorem Ke.var {k : Nat} {l : List Nat} {m m' : Mem} {n ty : Nat} {c : List V} (h : Ke k l m m') (hb : Bf m k l) (hm : m[n]? = some (.var ty c)) : m'[n]? = some (.var ty c) :=
  h.2 n _ (fun hl e => by rw [e, hb hl] at hm; cases hm) hm
theorem lt11i (j : Nat) : decide ((j : Int) < 11) = decide (j < 11) := by rw [Bool.eq_iff_iff]; simp; omega
set_option maxHeartbeats 4000000 in
theorem snd63 {m : Mem} {k : Nat} {l : List Nat} {w : Nat → Nat} (hm : Bf m k l) (hw : U64 22 w) (hb : l.length + 200 ≤ bnd) : Snd Try.prog 63 [buf k l, .agg (mC w)] m (PQ k m l (encM w)) := by
  refine Snd_of_W fol rfl rfl (by kernel_rfl) (by kernel_rfl) ?_
  simp -implicitDefEqProofs only [sims.1, fx.1, keeps.1, tick_on, calleeK, extractV, oneV, faddrK, nonnil, b_shr, b_shl, fieldK, Nat.reduceAdd, Nat.reduceMul, Nat.reduceSub, Nat.reduceEqDiff, Nat.reduceLT, Nat.reduceLeDiff, Nat.reduceBEq, Nat.reduceBNe, reduceIte, Int.reduceEq, Int.reduceLT, Int.reduceLE, Int.reduceNe, Int.reduceToNat]
  refine W_loopM (loop63a w k m.length l) (fun j M => j ≤ 11 ∧ M = m ++ [.var 28 (mC w)]) (fun j => 12 - j) 0 (by kernel_rfl) ⟨by omega, rfl⟩ ?_
  rintro j M ⟨h1, rfl⟩
  rcases Nat.lt_or_ge j 11 with hj | hj
  · have c1 : decide (j < 11) = true := by simpa using hj
    have c2 := eqC0 (w (11 + j))
    have n1 : ¬ ((j : Int) < 0) := by omega
    have w1 := wrapU j (by omega)
    have w2 := add1N j (by omega)
    have s1 := shl1 j hj
    have o1 := or_bit (bitsN w j) j (bitsN_lt w j) hj
    have a1 : (mC w)[11 + j]? = some (.int .u64 (w (11 + j) : Int)) := mC_at' w (by omega)
    cases e : decide (w (11 + j) = 0)
    · rw [e] at c2
      have e' : ¬ w (11 + j) = 0 := by simpa using e
      simp -implicitDefEqProofs only [sims.1, fx.1, keeps.1, tick_on, calleeK, extractV, oneV, faddrK, nonnil, b_shr, b_shl, fieldK, Nat.reduceAdd, Nat.reduceMul, Nat.reduceSub, Nat.reduceEqDiff, Nat.reduceLT, Nat.reduceLeDiff, Nat.reduceBEq, Nat.reduceBNe, reduceIte, Int.reduceEq, Int.reduceLT, Int.reduceLE, Int.reduceNe, Int.reduceToNat, loop63a, lt11, c1, hj, at_app0, a1, c2, w1, n1, s1, o1, w2, Int.toNat_natCast]
      exact ⟨j + 1, by simp only [loop63a, bitsN, if_neg e']; kernel_rfl, ⟨by omega, by trivial⟩, by omega⟩
    · rw [e] at c2
      have e' : w (11 + j) = 0 := by simpa using e
      simp -implicitDefEqProofs only [sims.1, fx.1, keeps.1, tick_on, calleeK, extractV, oneV, faddrK, nonnil, b_shr, b_shl, fieldK, Nat.reduceAdd, Nat.reduceMul, Nat.reduceSub, Nat.reduceEqDiff, Nat.reduceLT, Nat.reduceLeDiff, Nat.reduceBEq, Nat.reduceBNe, reduceIte, Int.reduceEq, Int.reduceLT, Int.reduceLE, Int.reduceNe, Int.reduceToNat, loop63a, lt11, c1, hj, at_app0, a1, c2, w1, n1, s1, o1, w2, Int.toNat_natCast]
      exact ⟨j + 1, by simp only [loop63a, bitsN, if_pos e', Nat.add_zero]; kernel_rfl, ⟨by omega, by trivial⟩, by omega⟩
  obtain rfl : j = 11 := by omega
  have c1 : decide ((11 : Int) < 11) = false := rfl
  simp -implicitDefEqProofs only [sims.1, fx.1, keeps.1, tick_on, calleeK, extractV, oneV, faddrK, nonnil, b_shr, b_shl, fieldK, Nat.reduceAdd, Nat.reduceMul, Nat.reduceSub, Nat.reduceEqDiff, Nat.reduceLT, Nat.reduceLeDiff, Nat.reduceBEq, Nat.reduceBNe, reduceIte, Int.reduceEq, Int.reduceLT, Int.reduceLE, Int.reduceNe, Int.reduceToNat, loop63a, Int.cast_ofNat_Int, c1]
  refine callD_p (snd32 (n := 2) (hm.app _) (by omega) (by omega) (by omega)) en32 ?_
  intro k1 m1 b1 e1 f1
  have g1 := e1.var (hm.app _) at_app0
  have e1' := (Ke.app k l m [.var 28 (mC w)]).trans (.inr ⟨rfl, rfl⟩) e1
  have f1' : Fr' m k l k1 (l ++ enc (bitsN w 11) 2) := by
    rcases f1 with f1 | f1
    · exact .inl (by simp at f1; omega)
    · exact .inr f1
  simp -implicitDefEqProofs only [sims.1, fx.1, keeps.1, tick_on, calleeK, extractV, oneV, faddrK, nonnil, b_shr, b_shl, fieldK, Nat.reduceAdd, Nat.reduceMul, Nat.reduceSub, Nat.reduceEqDiff, Nat.reduceLT, Nat.reduceLeDiff, Nat.reduceBEq, Nat.reduceBNe, reduceIte, Int.reduceEq, Int.reduceLT, Int.reduceLE, Int.reduceNe, Int.reduceToNat]
  refine W_loopM (loop63b w m.length l) (fun s M => s.1 ≤ 11 ∧ M[m.length]? = some (.var 28 (mC w)) ∧ Bf M s.2 (l ++ (enc (bitsN w 11) 2 ++ (List.range s.1).flatMap (encF w))) ∧ Ke k l m M ∧ Fr' m k l s.2 (l ++ (enc (bitsN w 11) 2 ++ (List.range s.1).flatMap (encF w)))) (fun s => 12 - s.1) (0, k1)
    (Eq.trans (b := [(3, .ptr m.length 0), (7, .int .i8 0), (0, buf k1 (l ++ enc (bitsN w 11) 2))]) (by kernel_rfl) (by simp [loop63b])) ⟨by simp, g1, by simpa using b1, e1', by simpa using f1'⟩ ?_
  rintro ⟨j, k2⟩ M ⟨h1, h2, h3, h4, h5⟩
  simp only at h1 h2 h3 h4 h5
  rcases Nat.lt_or_ge j 11 with hj | hj
  · have c1 : decide (j < 11) = true := by simpa using hj
    have c2 := eqC0 (w (11 + j))
    have w1 := wi8 j hj
    obtain ⟨z1, z2, _⟩ := sz_ok hj
    have hnext : (List.range (j + 1)).flatMap (encF w) = (List.range j).flatMap (encF w) ++ encF w j := by rw [List.range_succ, List.flatMap_append]; simp
    have hle := encFs_len w j (by omega)
    have a0 : (mC w)[j]? = some (.int .u64 (w j : Int)) := mC_at' w (by omega)
    have a1 : (mC w)[11 + j]? = some (.int .u64 (w (11 + j) : Int)) := mC_at' w (by omega)
    by_cases e : w (11 + j) = 0
    · have e' : decide (w (11 + j) = 0) = true := by simpa using e
      rw [e'] at c2
      simp -implicitDefEqProofs only [sims.1, fx.1, keeps.1, tick_on, calleeK, extractV, oneV, faddrK, nonnil, b_shr, b_shl, fieldK, Nat.reduceAdd, Nat.reduceMul, Nat.reduceSub, Nat.reduceEqDiff, Nat.reduceLT, Nat.reduceLeDiff, Nat.reduceBEq, Nat.reduceBNe, reduceIte, Int.reduceEq, Int.reduceLT, Int.reduceLE, Int.reduceNe, Int.reduceToNat, loop63b, lt11i, c1, hj, h2, a1, c2, w1]
      have hn : (List.range (j + 1)).flatMap (encF w) = (List.range j).flatMap (encF w) := by rw [hnext]; simp [encF, e]
      refine ⟨(j + 1, k2), ?_, ⟨hj, by first | exact h2 | trivial, by simp only [hn]; exact h3, h4, by simp only [hn]; exact h5⟩, by simp only; omega⟩
      simp only [loop63b, hn]
      kernel_rfl
    · have e' : decide (w (11 + j) = 0) = false := by simpa using e
      rw [e'] at c2
      have hml : m.length < M.length := (List.getElem?_eq_some_iff.1 h2).1
      simp -implicitDefEqProofs only [sims.1, fx.1, keeps.1, tick_on, calleeK, extractV, oneV, faddrK, nonnil, b_shr, b_shl, fieldK, Nat.reduceAdd, Nat.reduceMul, Nat.reduceSub, Nat.reduceEqDiff, Nat.reduceLT, Nat.reduceLeDiff, Nat.reduceBEq, Nat.reduceBNe, reduceIte, Int.reduceEq, Int.reduceLT, Int.reduceLE, Int.reduceNe, Int.reduceToNat, loop63b, lt11i, c1, hj, h2, a1, c2]
      generalize hL : l ++ (enc (bitsN w 11) 2 ++ (List.range j).flatMap (encF w)) = L at h3 h5 ⊢
      have hLl : L.length ≤ l.length + 134 := by rw [← hL]; simp only [List.length_append, enc_len]; omega
      refine w_callsT (JP M k2 (M.length + 2 * sz j - 1) L (enc (w j) (sz j))) (fun _ _ => False) [6, 7] [0] [buf k2 L, .int .i8 (j : Int), .ptr m.length 0, .ptr m.length (0 + j * 1), .int .u64 (w j : Int), .int .i8 (j : Int), .int .i64 (sz j : Int), buf (M.length + 2 * sz j - 1) (L ++ enc (w j) (sz j)), buf (M.length + 2 * sz j - 1) (L ++ enc (w j) (sz j))] (by kernel_rfl) rfl ?_ ?_ (fun _ _ h => h.elim)
      · refine okN_pure rfl rfl rfl (fun _ _ _ => by kernel_rfl) ?_
        refine okN_pure rfl rfl rfl (fun _ _ _ => by kernel_rfl) ?_
        refine okN_pure rfl rfl rfl (fun _ _ _ => by kernel_rfl) ?_
        refine okN_pure rfl rfl rfl (fun _ M' _ => by
          show Option.map (Res.val · M') (iaddrV Try.prog 26 (.ptr m.length 0) (.int .i8 (j : Int))) = _
          rw [ia26, iaddrA_nat hj]
          rfl) ?_
        refine okN_early 1 rfl rfl rfl rfl (fun i M' hi h => by
          show Option.map (Res.val · M') (loadV Try.prog M' 24 (.ptr m.length (0 + j * 1))) = _
          rw [JP0 h hi, ld24, loadK_ptr, h2]
          simp only [Option.bind_some, partK_one, Nat.zero_add, Nat.mul_one, a0, Option.map_some]) ?_
        refine okN_pure rfl rfl rfl (fun _ _ _ => by kernel_rfl) ?_
        refine okN_call rfl (show calleeV (evO _) _ = some (61, [.int .i8 (j : Int)]) by kernel_rfl) rfl rfl (fun M' h => ?_) ?_
        · exact callD_ans (ans61 j hj) en61 rfl rfl ⟨rfl, h⟩
        refine okN_call rfl (show calleeV (evO _) _ = some (32, [buf k2 L, .int .u64 (w j : Int), .int .i64 (sz j : Int)]) by kernel_rfl) rfl rfl (fun M' h => ?_) ?_
        · have h : M' = M := h
          subst h
          refine callD_q (snd32x (x := w j) (n := sz j) h3 z1 (by omega) (by omega)) en32 ?_ ?_
          · rintro v M1 ⟨m', q1, q2, q3⟩
            cases q1
            exact ⟨rfl, q2, q3⟩
          · rintro v M1 ⟨m', q1, _⟩
            cases q1
        refine okN_pure rfl rfl rfl (fun _ _ _ => by kernel_rfl) ?_
        exact okN_nil
      rintro M3 ⟨b3, e3⟩
      have g3 := e3.var h3 h2
      have hl3 : M.length ≤ M3.length := e3.1
      simp -implicitDefEqProofs only [sims.1, fx.1, keeps.1, tick_on, calleeK, extractV, oneV, faddrK, nonnil, b_shr, b_shl, fieldK, Nat.reduceAdd, Nat.reduceMul, Nat.reduceSub, Nat.reduceEqDiff, Nat.reduceLT, Nat.reduceLeDiff, Nat.reduceBEq, Nat.reduceBNe, reduceIte, Int.reduceEq, Int.reduceLT, Int.reduceLE, Int.reduceNe, Int.reduceToNat, putAll]
      refine w_callsT (JP M3 (M.length + 2 * sz j - 1) (M3.length + 2 * sz j - 1) (L ++ enc (w j) (sz j)) (enc (w (11 + j)) (sz j))) (fun _ _ => False) [6, 7] [0] [buf (M.length + 2 * sz j - 1) (L ++ enc (w j) (sz j)), .int .i8 (j : Int), .ptr m.length 11, .ptr m.length (11 + j * 1), .int .u64 (w (11 + j) : Int), .int .i8 (j : Int), .int .i64 (sz j : Int), buf (M3.length + 2 * sz j - 1) (L ++ enc (w j) (sz j) ++ enc (w (11 + j)) (sz j)), buf (M3.length + 2 * sz j - 1) (L ++ enc (w j) (sz j) ++ enc (w (11 + j)) (sz j))] (by kernel_rfl) rfl ?_ ?_ (fun _ _ h => h.elim)
      · refine okN_pure rfl rfl rfl (fun _ _ _ => by kernel_rfl) ?_
        refine okN_pure rfl rfl rfl (fun _ _ _ => by kernel_rfl) ?_
        refine okN_pure rfl rfl rfl (fun _ _ _ => by kernel_rfl) ?_
        refine okN_pure rfl rfl rfl (fun _ M' _ => by
          show Option.map (Res.val · M') (iaddrV Try.prog 26 (.ptr m.length 11) (.int .i8 (j : Int))) = _
          rw [ia26, iaddrA_nat hj]
          rfl) ?_
        refine okN_early 1 rfl rfl rfl rfl (fun i M' hi h => by
          show Option.map (Res.val · M') (loadV Try.prog M' 24 (.ptr m.length (11 + j * 1))) = _
          rw [JP0 h hi, ld24, loadK_ptr, g3]
          simp only [Option.bind_some, partK_one, Nat.mul_one, a1, Option.map_some]) ?_
        refine okN_pure rfl rfl rfl (fun _ _ _ => by kernel_rfl) ?_
        refine okN_call rfl (show calleeV (evO _) _ = some (61, [.int .i8 (j : Int)]) by kernel_rfl) rfl rfl (fun M' h => ?_) ?_
        · exact callD_ans (ans61 j hj) en61 rfl rfl ⟨rfl, h⟩
        refine okN_call rfl (show calleeV (evO _) _ = some (32, [buf (M.length + 2 * sz j - 1) (L ++ enc (w j) (sz j)), .int .u64 (w (11 + j) : Int), .int .i64 (sz j : Int)]) by kernel_rfl) rfl rfl (fun M' h => ?_) ?_
        · have h : M' = M3 := h
          subst h
          refine callD_q (snd32x (x := w (11 + j)) (n := sz j) b3 z1 (by omega) (by rw [List.length_append, enc_len]; omega)) en32 ?_ ?_
          · rintro v M1 ⟨m', q1, q2, q3⟩
            cases q1
            exact ⟨rfl, q2, q3⟩
          · rintro v M1 ⟨m', q1, _⟩
            cases q1
        refine okN_pure rfl rfl rfl (fun _ _ _ => by kernel_rfl) ?_
        exact okN_nil
      rintro M4 ⟨b4, e4⟩
      have g4 := e4.var b3 g3
      simp -implicitDefEqProofs only [sims.1, fx.1, keeps.1, tick_on, calleeK, extractV, oneV, faddrK, nonnil, b_shr, b_shl, fieldK, Nat.reduceAdd, Nat.reduceMul, Nat.reduceSub, Nat.reduceEqDiff, Nat.reduceLT, Nat.reduceLeDiff, Nat.reduceBEq, Nat.reduceBNe, reduceIte, Int.reduceEq, Int.reduceLT, Int.reduceLE, Int.reduceNe, Int.reduceToNat, putAll, w1]
      have hn : L ++ enc (w j) (sz j) ++ enc (w (11 + j)) (sz j) = l ++ (enc (bitsN w 11) 2 ++ (List.range (j + 1)).flatMap (encF w)) := by rw [hnext, ← hL]; simp [encF, e]
      have f3 : Fr' M k2 L (M.length + 2 * sz j - 1) (L ++ enc (w j) (sz j)) := .inl (by omega)
      have hMl : m.length ≤ M.length := h4.1
      rw [hn] at b4
      refine ⟨(j + 1, M3.length + 2 * sz j - 1), ?_, ⟨hj, by first | exact g4 | trivial, b4, (h4.trans h5 e3).trans (Fr'.trans hMl h5 f3) e4, .inl (by simp only; omega)⟩, by simp only; omega⟩
      simp only [loop63b, ← hn]
      kernel_rfl
  · obtain rfl : j = 11 := by omega
    have c1 : decide ((11 : Int) < 11) = false := rfl
    simp -implicitDefEqProofs only [sims.1, fx.1, keeps.1, tick_on, calleeK, extractV, oneV, faddrK, nonnil, b_shr, b_shl, fieldK, Nat.reduceAdd, Nat.reduceMul, Nat.reduceSub, Nat.reduceEqDiff, Nat.reduceLT, Nat.reduceLeDiff, Nat.reduceBEq, Nat.reduceBNe, reduceIte, Int.reduceEq, Int.reduceLT, Int.reduceLE, Int.reduceNe, Int.reduceToNat, loop63b, Int.cast_ofNat_Int, c1]
    exact ⟨M, k2, rfl, h3, h4, h5⟩
end Go.Proofs.Ytjjenpdjmcmgbaa
