/- DiffFalls. No condition. -/
import Derived.Test.YtggdnepfahknbaaYr
namespace Go.Proofs.Ytggdnepfahknbaa
open Go Ab
set_option linter.unusedSimpArgs false
set_option linter.unusedVariables false
set_option maxRecDepth 20000

theorem btw_rem {was now : List Ru} {j : Nat} (h : j < (btw was now).length) (hp : j < (remL was now).length) : (btw was now)[j].d = 3 := by
  have : (btw was now)[j] = (remL was now)[j] := List.getElem_append_left hp
  rw [this]
  simp [remL]
theorem btw_add {was now : List Ru} {j : Nat} (h : j < (btw was now).length) (hp : (remL was now).length ≤ j) : ∃ h2 : j - (remL was now).length < (ssort ltD (addR was now)).length, (btw was now)[j] = ⟨0, (ssort ltD (addR was now))[j - (remL was now).length]⟩ := by
  have h2 : j - (remL was now).length < (ssort ltD (addR was now)).length := by
    unfold btw addL at h
    rw [List.length_append, List.length_map] at h
    omega
  refine ⟨h2, ?_⟩
  have : (btw was now)[j] = (addL was now)[j - (remL was now).length]'(by unfold addL; rw [List.length_map]; exact h2) := List.getElem_append_right hp
  rw [this]
  simp [addL]
theorem btw_falls {was now : List Ru} {j : Nat} (h : j + 1 < (btw was now).length) (hp : (remL was now).length ≤ j) : (btw was now)[j + 1].r.rank ≤ (btw was now)[j].r.rank := by
  obtain ⟨h1, e1⟩ := btw_add (j := j) (by omega) hp
  obtain ⟨h2, e2⟩ := btw_add h (by omega)
  rw [e1, e2]
  have := (List.pairwise_iff_getElem.1 (ssort_srt ordD (addR was now))) (j - (remL was now).length) (j + 1 - (remL was now).length) h1 h2 (by omega)
  exact Int.not_lt.1 (of_decide_eq_false this)
set_option maxHeartbeats 4000000 in
theorem ans5 (was now : List Ru) (hw1 : ∀ r ∈ was, wfR r) (hw2 : ∀ r ∈ now, wfR r) (hl1 : was.length < 9223372036854775807) (hl2 : now.length < 9223372036854775807) : Ans Try.prog 5 [rsV was, rsV now] (.bool true) := by
  refine Snd_of_W fol rfl rfl (by kernel_rfl) (by kernel_rfl) ?_
  have a1 := ans6 was hw1 hl1
  have a2 := ans6 now hw2 hl2
  simp -implicitDefEqProofs only [sims.1, fx.1, keeps.1, tick_on, calleeK, extractV, oneV, faddrK, nonnil, b_shr, b_shl, fieldK, Nat.reduceAdd, Nat.reduceMul, Nat.reduceSub, Nat.reduceEqDiff, Nat.reduceLT, Nat.reduceLeDiff, Nat.reduceBEq, Nat.reduceBNe, reduceIte, Int.reduceEq, Int.reduceLT, Int.reduceLE, Int.reduceNe, Int.reduceToNat]
  refine callD_ans a1 en6 (nfs_cons (nf_rs _) rfl) rfl ?_
  cases g1 : grt was
  · simp -implicitDefEqProofs only [sims.1, fx.1, keeps.1, tick_on, calleeK, extractV, oneV, faddrK, nonnil, b_shr, b_shl, fieldK, Nat.reduceAdd, Nat.reduceMul, Nat.reduceSub, Nat.reduceEqDiff, Nat.reduceLT, Nat.reduceLeDiff, Nat.reduceBEq, Nat.reduceBNe, reduceIte, Int.reduceEq, Int.reduceLT, Int.reduceLE, Int.reduceNe, Int.reduceToNat]
    refine callD_ans a2 en6 (nfs_cons (nf_rs _) rfl) rfl ?_
    cases g2 : grt now
    · simp -implicitDefEqProofs only [sims.1, fx.1, keeps.1, tick_on, calleeK, extractV, oneV, faddrK, nonnil, b_shr, b_shl, fieldK, Nat.reduceAdd, Nat.reduceMul, Nat.reduceSub, Nat.reduceEqDiff, Nat.reduceLT, Nat.reduceLeDiff, Nat.reduceBEq, Nat.reduceBNe, reduceIte, Int.reduceEq, Int.reduceLT, Int.reduceLE, Int.reduceNe, Int.reduceToNat]
      obtain ⟨L, hL⟩ : ∃ L, btw was now = L := ⟨_, rfl⟩
      obtain ⟨p, hp0⟩ : ∃ p, (remL was now).length = p := ⟨_, rfl⟩
      have a9 : Ans Try.prog 9 [rsV was, rsV now] (msV L) := by rw [← hL]; exact ans9 was now hw1 hw2 g1 g2
      have hb : L.length ≤ was.length + now.length := by rw [← hL]; exact btw_len was now
      have b1 := (grt_small g1).1
      have b2 := (grt_small g2).1
      have hr : ∀ j (h : j < L.length), j < p → L[j].d = 3 := by
        subst hL hp0
        exact fun j h hp => btw_rem h hp
      have ha : ∀ j (h : j < L.length), p ≤ j → L[j].d = 0 := by
        subst hL hp0
        intro j h hp
        obtain ⟨_, e⟩ := btw_add h hp
        rw [e]
      have hf : ∀ j (h : j + 1 < L.length), p ≤ j → L[j + 1].r.rank ≤ L[j].r.rank := by
        subst hL hp0
        exact fun j h hp => btw_falls h hp
      clear hL hp0
      refine callD_ans a9 en9 (nfs_cons (nf_rs _) (nfs_cons (nf_rs _) rfl)) (nf_ms _) ?_
      have lM : ∀ x : Me, (meC x).length = 36 := fun _ => rfl
      have lD : ∀ x : Me, (List.drop 3 (meC x)).length = 33 := fun _ => rfl
      have e2 : ∀ x : Me, (List.drop 2 (meC x))[0]? = some (.int .i8 x.d) := fun _ => rfl
      have e3 : ∀ x : Me, (List.drop 0 (List.drop 3 (meC x)))[0]? = some (.int .i64 x.r.rank) := fun _ => rfl
      simp -implicitDefEqProofs only [sims.1, fx.1, keeps.1, tick_on, calleeK, extractV, oneV, faddrK, nonnil, b_shr, b_shl, fieldK, Nat.reduceAdd, Nat.reduceMul, Nat.reduceSub, Nat.reduceEqDiff, Nat.reduceLT, Nat.reduceLeDiff, Nat.reduceBEq, Nat.reduceBNe, reduceIte, Int.reduceEq, Int.reduceLT, Int.reduceLE, Int.reduceNe, Int.reduceToNat]
      refine W_loopM (fun x : Nat × Int => [(6, .bool (decide (p < x.1))), (7, .int .i64 x.2), (8, .int .i64 (x.1 : Int)), (5, msV L), (0, rsV was), (1, rsV now)])
        (fun x mm => x.1 ≤ L.length ∧ (p < x.1 → ∃ h : x.1 - 1 < L.length, x.2 = L[x.1 - 1].r.rank)) (fun x => L.length - x.1) (0, 0) (Eq.trans (b := [(6, .bool false), (7, .int .i64 0), (8, .int .i64 0), (5, msV L), (0, rsV was), (1, rsV now)]) (by kernel_rfl) (by simp)) ⟨Nat.zero_le _, fun h => by omega⟩ ?_
      rintro ⟨j, k⟩ mm ⟨h1, h2⟩
      simp only at h1 h2
      rcases Nat.lt_or_ge j L.length with hj | hj
      · have c1 : decide (j < L.length) = true := by simpa using hj
        have w1 := add1N j (by omega)
        have t33 : decide ((3 : Int) = 3) = true := rfl
        have t03 : decide ((0 : Int) = 3) = false := rfl
        have t00 : decide ((0 : Int) = 0) = true := rfl
        rcases Nat.lt_or_ge j p with hp | hp
        · have hd := hr j hj hp
          have c2 : decide (p < j) = false := by simp; omega
          have c3 : decide (p < j + 1) = false := by simp; omega
          simp -implicitDefEqProofs only [sims.1, fx.1, keeps.1, tick_on, calleeK, extractV, oneV, faddrK, nonnil, b_shr, b_shl, fieldK, Nat.reduceAdd, Nat.reduceMul, Nat.reduceSub, Nat.reduceEqDiff, Nat.reduceLT, Nat.reduceLeDiff, Nat.reduceBEq, Nat.reduceBNe, reduceIte, Int.reduceEq, Int.reduceLT, Int.reduceLE, Int.reduceNe, Int.reduceToNat, len_ms, ltNat, c1, ia_ms hj, lM, e2, hd, t33, c2, w1]
          exact ⟨(j + 1, k), Eq.trans (b := [(6, .bool false), (7, .int .i64 k), (8, .int .i64 ((j + 1 : Nat) : Int)), (5, msV L), (0, rsV was), (1, rsV now)]) (by kernel_rfl) (by rw [c3]), ⟨hj, fun h => by omega⟩, by simp only; omega⟩
        · have hd := ha j hj hp
          have c3 : decide (p < j + 1) = true := by simp; omega
          have nx : (j + 1 ≤ L.length ∧ (p < j + 1 → ∃ h : j + 1 - 1 < L.length, L[j].r.rank = L[j + 1 - 1].r.rank)) := ⟨hj, fun _ => ⟨hj, rfl⟩⟩
          cases c2 : decide (p < j)
          · simp -implicitDefEqProofs only [sims.1, fx.1, keeps.1, tick_on, calleeK, extractV, oneV, faddrK, nonnil, b_shr, b_shl, fieldK, Nat.reduceAdd, Nat.reduceMul, Nat.reduceSub, Nat.reduceEqDiff, Nat.reduceLT, Nat.reduceLeDiff, Nat.reduceBEq, Nat.reduceBNe, reduceIte, Int.reduceEq, Int.reduceLT, Int.reduceLE, Int.reduceNe, Int.reduceToNat, len_ms, ltNat, c1, ia_ms hj, lM, lD, e2, e3, hd, t03, t00, c2, w1]
            exact ⟨(j + 1, L[j].r.rank), Eq.trans (b := [(6, .bool true), (7, .int .i64 L[j].r.rank), (8, .int .i64 ((j + 1 : Nat) : Int)), (5, msV L), (0, rsV was), (1, rsV now)]) (by kernel_rfl) (by rw [c3]), nx, by simp only; omega⟩
          · have hpj : p < j := by simpa using c2
            obtain ⟨h3, hk⟩ := h2 hpj
            have hfj := hf (j - 1) (by omega) (by omega)
            have ej : L[j - 1 + 1] = L[j] := by congr 1; omega
            rw [ej] at hfj
            have c4 : decide (k < L[j].r.rank) = false := by simp; omega
            simp -implicitDefEqProofs only [sims.1, fx.1, keeps.1, tick_on, calleeK, extractV, oneV, faddrK, nonnil, b_shr, b_shl, fieldK, Nat.reduceAdd, Nat.reduceMul, Nat.reduceSub, Nat.reduceEqDiff, Nat.reduceLT, Nat.reduceLeDiff, Nat.reduceBEq, Nat.reduceBNe, reduceIte, Int.reduceEq, Int.reduceLT, Int.reduceLE, Int.reduceNe, Int.reduceToNat, len_ms, ltNat, c1, ia_ms hj, lM, lD, e2, e3, hd, t03, t00, c2, c4, w1]
            exact ⟨(j + 1, L[j].r.rank), Eq.trans (b := [(6, .bool true), (7, .int .i64 L[j].r.rank), (8, .int .i64 ((j + 1 : Nat) : Int)), (5, msV L), (0, rsV was), (1, rsV now)]) (by kernel_rfl) (by rw [c3]), nx, by simp only; omega⟩
      · have c1 : decide (j < L.length) = false := by simpa using hj
        have w2 := addN was.length now.length (by omega)
        have c5 : decide ((L.length : Int) ≤ ((was.length + now.length : Nat) : Int)) = true := by simp; omega
        simp -implicitDefEqProofs only [sims.1, fx.1, keeps.1, tick_on, calleeK, extractV, oneV, faddrK, nonnil, b_shr, b_shl, fieldK, Nat.reduceAdd, Nat.reduceMul, Nat.reduceSub, Nat.reduceEqDiff, Nat.reduceLT, Nat.reduceLeDiff, Nat.reduceBEq, Nat.reduceBNe, reduceIte, Int.reduceEq, Int.reduceLT, Int.reduceLE, Int.reduceNe, Int.reduceToNat, len_ms, len_rs, ltNat, c1, w2, c5]
        refine callD_ans ans7 en7 rfl rfl ?_
        simp -implicitDefEqProofs only [sims.1, fx.1, keeps.1, tick_on, calleeK, extractV, oneV, faddrK, nonnil, b_shr, b_shl, fieldK, Nat.reduceAdd, Nat.reduceMul, Nat.reduceSub, Nat.reduceEqDiff, Nat.reduceLT, Nat.reduceLeDiff, Nat.reduceBEq, Nat.reduceBNe, reduceIte, Int.reduceEq, Int.reduceLT, Int.reduceLE, Int.reduceNe, Int.reduceToNat]
        exact ans_ret rfl
    · simp -implicitDefEqProofs only [sims.1, fx.1, keeps.1, tick_on, calleeK, extractV, oneV, faddrK, nonnil, b_shr, b_shl, fieldK, Nat.reduceAdd, Nat.reduceMul, Nat.reduceSub, Nat.reduceEqDiff, Nat.reduceLT, Nat.reduceLeDiff, Nat.reduceBEq, Nat.reduceBNe, reduceIte, Int.reduceEq, Int.reduceLT, Int.reduceLE, Int.reduceNe, Int.reduceToNat]
      refine callD_ans ans7 en7 rfl rfl ?_
      simp -implicitDefEqProofs only [sims.1, fx.1, keeps.1, tick_on, calleeK, extractV, oneV, faddrK, nonnil, b_shr, b_shl, fieldK, Nat.reduceAdd, Nat.reduceMul, Nat.reduceSub, Nat.reduceEqDiff, Nat.reduceLT, Nat.reduceLeDiff, Nat.reduceBEq, Nat.reduceBNe, reduceIte, Int.reduceEq, Int.reduceLT, Int.reduceLE, Int.reduceNe, Int.reduceToNat]
      exact ans_ret rfl
  · simp -implicitDefEqProofs only [sims.1, fx.1, keeps.1, tick_on, calleeK, extractV, oneV, faddrK, nonnil, b_shr, b_shl, fieldK, Nat.reduceAdd, Nat.reduceMul, Nat.reduceSub, Nat.reduceEqDiff, Nat.reduceLT, Nat.reduceLeDiff, Nat.reduceBEq, Nat.reduceBNe, reduceIte, Int.reduceEq, Int.reduceLT, Int.reduceLE, Int.reduceNe, Int.reduceToNat]
    refine callD_ans ans7 en7 rfl rfl ?_
    simp -implicitDefEqProofs only [sims.1, fx.1, keeps.1, tick_on, calleeK, extractV, oneV, faddrK, nonnil, b_shr, b_shl, fieldK, Nat.reduceAdd, Nat.reduceMul, Nat.reduceSub, Nat.reduceEqDiff, Nat.reduceLT, Nat.reduceLeDiff, Nat.reduceBEq, Nat.reduceBNe, reduceIte, Int.reduceEq, Int.reduceLT, Int.reduceLE, Int.reduceNe, Int.reduceToNat]
    exact ans_ret rfl
theorem ans5r (was now : List Ru) (h0 : (∀ x ∈ was, wfR x) ∧ was.length < lim) (h1 : (∀ x ∈ now, wfR x) ∧ now.length < lim) : Ans Try.prog 5 [rsV was, rsV now] (.bool true) := ans5 was now h0.1 h1.1 (lim_lt h0.2) (lim_lt h1.2)
end Go.Proofs.Ytggdnepfahknbaa
