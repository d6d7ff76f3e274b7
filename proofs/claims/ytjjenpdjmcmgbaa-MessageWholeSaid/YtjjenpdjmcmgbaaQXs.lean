/- No message's bytes begin another one's. No condition. -/
import Derived.Test.YtjjenpdjmcmgbaaQXr
namespace Go.Proofs.Ytjjenpdjmcmgbaa
open Go Ab
set_option linter.unusedSimpArgs false
set_option linter.unusedVariables false
set_option maxRecDepth 20000
theorem enc2 (v : Nat) : enc v 2 = [v / 256 % 256, v % 256] := by
  show [v / 2 ^ (8 * (2 - 1 - 0)) % 256, v / 2 ^ (8 * (2 - 1 - 1)) % 256] = _
  simp
theorem whole_cons (x : Ms) : whole x = 1 :: i8N x.ty :: (((body x).length + 8) / 256 % 256) :: (((body x).length + 8) % 256) :: (enc x.id 4 ++ body x) := by
  unfold whole head
  rw [enc2]
  simp
theorem whole_all {x : Ms} (h : fits x = true) : allB (whole x) = (whole x).length ∧ 8 ≤ (whole x).length ∧ (whole x).length ≤ 8192 := by
  have hf : (body x).length + 8 ≤ 8192 := by simpa [fits] using h
  have hl : (whole x).length = (body x).length + 8 := by rw [whole_len]; omega
  rw [hl, whole_cons]
  refine ⟨?_, by omega, hf⟩
  show ((body x).length + 8) / 256 % 256 * 256 + ((body x).length + 8) % 256 = _
  omega
theorem allB_take {b : List Nat} {k : Nat} (hk : 4 ≤ k) : allB (b.take k) = allB b := by
  unfold allB
  simp only [List.getD]
  rw [List.getElem?_take_of_lt (by omega), List.getElem?_take_of_lt (by omega)]
theorem allB_app {b c : List Nat} (h : 4 ≤ b.length) : allB (b ++ c) = allB b := by
  unfold allB
  simp only [List.getD]
  rw [List.getElem?_append_left (by omega), List.getElem?_append_left (by omega)]
theorem dec_cut {b : List Nat} (ha : allB b = b.length) (h8 : 8 ≤ b.length) {k : Nat} (hk : k < b.length) : decE (b.take k) = 51 := by
  have hs : short (b.take k) = true := by
    unfold short
    rw [Bool.or_eq_true, decide_eq_true_eq, decide_eq_true_eq, List.length_take, Nat.min_eq_left (by omega)]
    rcases Nat.lt_or_ge k 8 with h | h
    · exact .inl h
    · right
      rw [allB_take (by omega), ha]
      exact hk
  unfold decE
  rw [hs]
  rfl
theorem dec_more {b : List Nat} (ha : allB b = b.length) (h8 : 8 ≤ b.length) (v : Nat) : decE (b ++ [v]) = 70 := by
  have hs : short (b ++ [v]) = false := by
    unfold short
    rw [allB_app (by omega), ha, List.length_append]
    simp
    omega
  have hm : rdMsg (b ++ [v]) = none := by
    unfold rdMsg
    rw [if_neg]
    rintro ⟨_, _, h⟩
    rw [allB_app (by omega), ha, List.length_append] at h
    simp at h
  unfold decE
  rw [hs, hm]
  rfl
theorem atN (z : Int) (n : Nat) (h0 : 0 < n) (h1 : n ≤ 8192) : ∃ j : Nat, j < n ∧ (IntKind.i64.wrap (z.tmod n + n)).tmod n = (j : Int) := by
  have h2 : -(n : Int) < z.tmod n := by
    have := Int.lt_tmod_of_pos z (show (0 : Int) < n by omega)
    omega
  have h3 : z.tmod n < n := Int.tmod_lt_of_pos z (by omega)
  rw [show IntKind.i64.wrap (z.tmod n + n) = z.tmod n + n by rw [IntKind.wrap_i64]; omega, Int.tmod_eq_emod_of_nonneg (by omega)]
  have h4 := Int.emod_nonneg (z.tmod n + n) (show (n : Int) ≠ 0 by omega)
  have h5 := Int.emod_lt_of_pos (z.tmod n + n) (show (0 : Int) < n by omega)
  exact ⟨((z.tmod n + n) % n).toNat, by omega, by omega⟩
theorem put_lt {x : Ms} : ∀ b ∈ enc x.id 4, b < 256 := putB_lt _ _ _
theorem sl34s {k n j : Nat} (h : j ≤ n) : sliceV Try.prog 34 (.sl 1 k 0 n) none (some (.int .i64 (j : Int))) = some (.sl 1 k 0 j) := by
  obtain ⟨i, h1, h2⟩ := in5
  simp only [sliceV, un34, h1, h2, bndV]
  simp only [show Nat.beq 1 1 = true from rfl, cond_true]
  rw [if_pos ⟨by omega, by omega, by omega⟩]
  simp
set_option maxHeartbeats 4000000 in
theorem ans6 (x : Ms) (hx : wfM x) (z : Int) (v : Nat) (hv : v < 256) (hb : chkM x = 0 → Byt (whole x)) : Ans Try.prog 6 [.agg (msC x), .int .i64 z, .int .u8 (v : Int)] (.bool true) := by
  refine Snd_of_W fol rfl rfl (by kernel_rfl) (by kernel_rfl) ?_
  simp -implicitDefEqProofs only [sims.1, fx.1, keeps.1, tick_on, calleeK, extractV, oneV, faddrK, nonnil, b_shr, b_shl, fieldK, Nat.reduceAdd, Nat.reduceMul, Nat.reduceSub, Nat.reduceEqDiff, Nat.reduceLT, Nat.reduceLeDiff, Nat.reduceBEq, Nat.reduceBNe, reduceIte, Int.reduceEq, Int.reduceLT, Int.reduceLE, Int.reduceNe, Int.reduceToNat, part37']
  cases e : decide (chkM x = 0)
  · refine callD_ans (ans7 x hx) en7 (nfs_cons (nfs_ms x) rfl) (by simp only [nf, nfs, nf_by, Bool.and_self]) ?_
    simp -implicitDefEqProofs only [sims.1, fx.1, keeps.1, tick_on, calleeK, extractV, oneV, faddrK, nonnil, b_shr, b_shl, fieldK, Nat.reduceAdd, Nat.reduceMul, Nat.reduceSub, Nat.reduceEqDiff, Nat.reduceLT, Nat.reduceLeDiff, Nat.reduceBEq, Nat.reduceBNe, reduceIte, Int.reduceEq, Int.reduceLT, Int.reduceLE, Int.reduceNe, Int.reduceToNat, e]
    refine callD_ans ans11 en11 rfl rfl ?_
    simp -implicitDefEqProofs only [sims.1, fx.1, keeps.1, tick_on, calleeK, extractV, oneV, faddrK, nonnil, b_shr, b_shl, fieldK, Nat.reduceAdd, Nat.reduceMul, Nat.reduceSub, Nat.reduceEqDiff, Nat.reduceLT, Nat.reduceLeDiff, Nat.reduceBEq, Nat.reduceBNe, reduceIte, Int.reduceEq, Int.reduceLT, Int.reduceLE, Int.reduceNe, Int.reduceToNat]
    exact ans_ret rfl
  have hc := of_decide_eq_true e
  have hB := hb hc
  obtain ⟨ha, h8, h9⟩ := whole_all (right_if hc).2
  refine callD_newQ (snd7q hx hc) en7 (nf_ms x) ?_
  rintro q ⟨m1, k, rfl, hm1, hk⟩
  refine ⟨_, m1, rfl, hm1, rfl, rfl, ?_⟩
  have er : ren (back [] 1) (.tup [.sl 1 k 0 (whole x).length, .int .i64 0]) = .tup [.sl 1 (1 + k) 0 (whole x).length, .int .i64 0] := rfl
  have d0 : decide ((0 : Int) = 0) = true := rfl
  have z2 := eqC0 (whole x).length
  have zd : decide ((whole x).length = 0) = false := decide_eq_false (by omega)
  have hne : ¬ (((whole x).length : Nat) : Int) = 0 := by omega
  obtain ⟨j, hj, ej⟩ := atN z (whole x).length (by omega) h9
  simp -implicitDefEqProofs only [sims.1, fx.1, keeps.1, tick_on, calleeK, extractV, oneV, faddrK, nonnil, b_shr, b_shl, fieldK, Nat.reduceAdd, Nat.reduceMul, Nat.reduceSub, Nat.reduceEqDiff, Nat.reduceLT, Nat.reduceLeDiff, Nat.reduceBEq, Nat.reduceBNe, reduceIte, Int.reduceEq, Int.reduceLT, Int.reduceLE, Int.reduceNe, Int.reduceToNat, er, d0, lns34, z2, zd, hne, ej, sl34s (Nat.le_of_lt hj)]
  have hk1 : (B.var 37 (msC x) :: m1)[1 + k]? = some (rowB (whole x)) := by rw [Nat.add_comm]; simpa using hk
  have hm2 : nfM (B.var 37 (msC x) :: m1) = true := nfM_cons (nfs_ms x) hm1
  generalize hM : B.var 37 (msC x) :: m1 = M at hk1 hm2 ⊢
  have hl1 : ∀ (M' : Mem) (k' j' : Nat) (l' : List Nat), M'[k']? = some (rowB l') → j' ≤ l'.length → lendV M' (.sl 1 k' 0 j') = byV (l'.take j') := fun M' k' j' l' h h' => lend_take h h'
  refine callD_all (snd12u (b := (whole x).take j) ⟨fun y hy => hB.1 y (List.mem_of_mem_take hy), by rw [List.length_take]; have := hB.2; omega⟩ (hl1 _ _ _ _ hk1 (Nat.le_of_lt hj))) en12 ?_
  have huk : ∀ y : Ms, (ukC y).length = 36 := fun _ => rfl
  have sp1 : ∀ (y : Ms), splice zM 0 (ukC y) = ukC y := fun _ => splice_all rfl
  simp -implicitDefEqProofs only [sims.1, fx.1, keeps.1, tick_on, calleeK, extractV, oneV, faddrK, nonnil, b_shr, b_shl, fieldK, Nat.reduceAdd, Nat.reduceMul, Nat.reduceSub, Nat.reduceEqDiff, Nat.reduceLT, Nat.reduceLeDiff, Nat.reduceBEq, Nat.reduceBNe, reduceIte, Int.reduceEq, Int.reduceLT, Int.reduceLE, Int.reduceNe, Int.reduceToNat, al37z, storeK_agg, huk, len37z, sp1, at_app0, set_app0, Nat.le_refl]
  simp only [zMx, sp1]
  generalize hM2 : M ++ [B.var 37 (ukC (decX ((whole x).take j)))] = M2
  have hk2 : M2[1 + k]? = some (rowB (whole x)) := by rw [← hM2, List.getElem?_append_left (List.getElem?_eq_some_iff.1 hk1).1]; exact hk1
  have hap := ap34 (m := M2 ++ [rowB [v]]) (l := whole x) (b := v) (k := M2.length) (n := 1 + k) at_app0 (fun _ => by rw [List.getElem?_append_left (List.getElem?_eq_some_iff.1 hk2).1]; exact hk2) (by omega)
  rw [buf_cons (by intro h; rw [h] at h8; simp at h8), buf_snoc] at hap
  simp -implicitDefEqProofs only [sims.1, fx.1, keeps.1, tick_on, calleeK, extractV, oneV, faddrK, nonnil, b_shr, b_shl, fieldK, Nat.reduceAdd, Nat.reduceMul, Nat.reduceSub, Nat.reduceEqDiff, Nat.reduceLT, Nat.reduceLeDiff, Nat.reduceBEq, Nat.reduceBNe, reduceIte, Int.reduceEq, Int.reduceLT, Int.reduceLE, Int.reduceNe, Int.reduceToNat, bs34, hap]
  generalize hM3 : killR (M2 ++ [rowB [v]]) (1 + k) (whole x) ++ [rowB (whole x ++ [v])] = M3
  have hk3 : M3[(M2 ++ [rowB [v]]).length]? = some (rowB (whole x ++ [v])) := by rw [← hM3, List.getElem?_append_right (by rw [killR_len]; omega), killR_len]; simp
  have hB3 : Byt (whole x ++ [v]) := ⟨fun y hy => by
    rcases List.mem_append.1 hy with h | h
    · exact hB.1 y h
    · rw [List.mem_singleton.1 h]; exact hv, by rw [List.length_append]; simp; omega⟩
  have hl3 : lendV M3 (.sl 1 (M2 ++ [rowB [v]]).length 0 ((whole x).length + 1)) = byV (whole x ++ [v]) := by
    rw [hl1 M3 _ _ _ hk3 (by simp), List.take_of_length_le (by simp)]
  refine callD_all (snd12u hB3 hl3) en12 ?_
  have d1 := dec_cut ha h8 hj
  have d2 := dec_more ha h8 v
  have dd1 : decide ((51 : Int) = 51) = true := rfl
  have dd2 : decide ((70 : Int) = 70) = true := rfl
  simp -implicitDefEqProofs only [sims.1, fx.1, keeps.1, tick_on, calleeK, extractV, oneV, faddrK, nonnil, b_shr, b_shl, fieldK, Nat.reduceAdd, Nat.reduceMul, Nat.reduceSub, Nat.reduceEqDiff, Nat.reduceLT, Nat.reduceLeDiff, Nat.reduceBEq, Nat.reduceBNe, reduceIte, Int.reduceEq, Int.reduceLT, Int.reduceLE, Int.reduceNe, Int.reduceToNat, al37z, storeK_agg, huk, len37z, at_app0, set_app0, Nat.le_refl, d1, d2, dd1, dd2]
  refine callD_ans ans11 en11 rfl rfl ?_
  simp -implicitDefEqProofs only [sims.1, fx.1, keeps.1, tick_on, calleeK, extractV, oneV, faddrK, nonnil, b_shr, b_shl, fieldK, Nat.reduceAdd, Nat.reduceMul, Nat.reduceSub, Nat.reduceEqDiff, Nat.reduceLT, Nat.reduceLeDiff, Nat.reduceBEq, Nat.reduceBNe, reduceIte, Int.reduceEq, Int.reduceLT, Int.reduceLE, Int.reduceNe, Int.reduceToNat]
  exact ans_ret rfl
end Go.Proofs.Ytjjenpdjmcmgbaa
