/- DiffStill. No condition. -/
import Derived.Test.YtggdnepfahknbaaYt
namespace Go.Proofs.Ytggdnepfahknbaa
open Go Ab
set_option linter.unusedSimpArgs false
set_option linter.unusedVariables false
set_option maxRecDepth 20000

theorem ans9s (was now : List Ru) (hw1 : ∀ r ∈ was, wfR r) (hw2 : ∀ r ∈ now, wfR r) (h1 : was.length ≤ 150) (h2 : now.length ≤ 150) (hc : ∀ r ∈ now, r.l.length ≤ 100 ∧ ∀ c ∈ r.l, c.length ≤ 100) : Ans Try.prog 9 [rsV was, rsV now] (msV (btw was now)) := by
  refine ans_wk wk_me (ans_frz ?_ (fun l h => by cases h))
  refine (ans9w was now hw1 hw2 h1 h2 hc).mono ?_
  rintro r ⟨m1, q, rfl, hm⟩
  exact ⟨m1, _, rfl, ret_me hm⟩
theorem wrapI {x : Int} (h1 : -9223372036854775808 ≤ x) (h2 : x < 9223372036854775808) : IntKind.i64.wrap x = x := by
  simp [IntKind.wrap, IntKind.signed, IntKind.bits]
  omega
theorem frz_rV {m : Mem} {q : Nat} {l : List Ru} (h : RowR m q l) : ∃ v0 m', frz m (rV l.length q) = some (v0, m') ∧ wkV v0 (rsV l) := by
  cases l with
  | nil => exact ⟨.nils, m, rfl, .inr ⟨rfl, 25, rfl⟩⟩
  | cons a r => exact ⟨_, _, frz_rs (h (by simp)), .inl rfl⟩
set_option maxHeartbeats 8000000 in
theorem ans4 (was now : List Ru) (hw1 : ∀ r ∈ was, wfR r) (hw2 : ∀ r ∈ now, wfR r) (hl1 : was.length < 9223372036854775807) (hl2 : now.length < 9223372036854775807) : Ans Try.prog 4 [rsV was, rsV now] (.bool true) := by
  refine Snd_of_WZ 5 4 fol rfl rfl (by kernel_rfl) (by kernel_rfl) ?_
  have a1 := ans6 was hw1 hl1
  have a2 := ans6 now hw2 hl2
  have evn : ∀ env, evO env (.const (.slice none 0 0)) = .nils := fun _ => rfl
  simp -implicitDefEqProofs only [sims.1, fx.1, keeps.1, tick_on, calleeK, extractV, oneV, faddrK, nonnil, b_shr, b_shl, fieldK, Nat.reduceAdd, Nat.reduceMul, Nat.reduceSub, Nat.reduceEqDiff, Nat.reduceLT, Nat.reduceLeDiff, Nat.reduceBEq, Nat.reduceBNe, reduceIte, Int.reduceEq, Int.reduceLT, Int.reduceLE, Int.reduceNe, Int.reduceToNat, wz_seq, evn]
  refine callD_ans a1 en6 (nfs_cons (nf_rs _) rfl) rfl ?_
  cases g1 : grt was
  · simp -implicitDefEqProofs only [sims.1, fx.1, keeps.1, tick_on, calleeK, extractV, oneV, faddrK, nonnil, b_shr, b_shl, fieldK, Nat.reduceAdd, Nat.reduceMul, Nat.reduceSub, Nat.reduceEqDiff, Nat.reduceLT, Nat.reduceLeDiff, Nat.reduceBEq, Nat.reduceBNe, reduceIte, Int.reduceEq, Int.reduceLT, Int.reduceLE, Int.reduceNe, Int.reduceToNat]
    refine callD_ans a2 en6 (nfs_cons (nf_rs _) rfl) rfl ?_
    cases g2 : grt now
    · have b1 := (grt_small g1).1
      have b2 := grt_small g2
      have w0 : IntKind.i64.wrap ((now.length : Int) - 1) = (now.length : Int) - 1 := wrapI (by omega) (by omega)
      simp -implicitDefEqProofs only [sims.1, fx.1, keeps.1, tick_on, calleeK, extractV, oneV, faddrK, nonnil, b_shr, b_shl, fieldK, Nat.reduceAdd, Nat.reduceMul, Nat.reduceSub, Nat.reduceEqDiff, Nat.reduceLT, Nat.reduceLeDiff, Nat.reduceBEq, Nat.reduceBNe, reduceIte, Int.reduceEq, Int.reduceLT, Int.reduceLE, Int.reduceNe, Int.reduceToNat, wz_seq, evn, len_rs, w0]
      refine W_loopM (fun x : Nat × (List Ru × Nat) => [(6, .int .i64 ((x.1 : Int) - 1)), (1, rsV now), (0, rsV was), (5, rV x.2.1.length x.2.2)])
        (fun x mm => x.1 ≤ now.length ∧ x.2.1 = (lastL (now.drop x.1)).reverse ∧ RowR mm x.2.2 x.2.1) (fun x => x.1) (now.length, ([], 0)) (by kernel_rfl) ⟨Nat.le_refl _, by rw [List.drop_length]; rfl, fun h => absurd rfl h⟩ ?_
      rintro ⟨k, o, q⟩ mm ⟨h1, h2, h3⟩
      simp only at h1 h2 h3
      rcases Nat.eq_zero_or_pos k with hk | hk
      · subst hk
        have c1 : decide ((0 : Int) ≤ ((0 : Nat) : Int) - 1) = false := rfl
        rw [List.drop_zero] at h2
        obtain ⟨v0, m1, f1, f2⟩ := frz_rV h3
        simp -implicitDefEqProofs only [sims.1, fx.1, keeps.1, tick_on, calleeK, extractV, oneV, faddrK, nonnil, b_shr, b_shl, fieldK, Nat.reduceAdd, Nat.reduceMul, Nat.reduceSub, Nat.reduceEqDiff, Nat.reduceLT, Nat.reduceLeDiff, Nat.reduceBEq, Nat.reduceBNe, reduceIte, Int.reduceEq, Int.reduceLT, Int.reduceLE, Int.reduceNe, Int.reduceToNat, wz_seq, c1]
        refine wz_zero v0 (rsV o) m1 f1 f2 ?_
        have ho : ∀ r ∈ o, r ∈ now := fun r hr => by rw [h2, List.mem_reverse] at hr; exact lastL_sub hr
        have hol : o.length ≤ 150 := by rw [h2, List.length_reverse]; have := lastL_len now; omega
        have a91 := ans9s now o hw2 (fun r hr => hw2 r (ho r hr)) b2.1 hol (fun r hr => b2.2 r (ho r hr))
        have a92 := ans9s now now hw2 hw2 b2.1 b2.1 b2.2
        rw [h2, btw_last, ← h2] at a91
        rw [btw_self] at a92
        have l0 : ∀ m : Mem, lenV Try.prog m 26 (msV []) = some (.int .i64 0) := fun m => len_ms m _
        have d0 : decide ((0 : Int) = 0) = true := rfl
        simp -implicitDefEqProofs only [sims.1, fx.1, keeps.1, tick_on, calleeK, extractV, oneV, faddrK, nonnil, b_shr, b_shl, fieldK, Nat.reduceAdd, Nat.reduceMul, Nat.reduceSub, Nat.reduceEqDiff, Nat.reduceLT, Nat.reduceLeDiff, Nat.reduceBEq, Nat.reduceBNe, reduceIte, Int.reduceEq, Int.reduceLT, Int.reduceLE, Int.reduceNe, Int.reduceToNat]
        refine callD_ans a91 en9 (nfs_cons (nf_rs _) (nfs_cons (nf_rs _) rfl)) (nf_ms _) ?_
        simp -implicitDefEqProofs only [sims.1, fx.1, keeps.1, tick_on, calleeK, extractV, oneV, faddrK, nonnil, b_shr, b_shl, fieldK, Nat.reduceAdd, Nat.reduceMul, Nat.reduceSub, Nat.reduceEqDiff, Nat.reduceLT, Nat.reduceLeDiff, Nat.reduceBEq, Nat.reduceBNe, reduceIte, Int.reduceEq, Int.reduceLT, Int.reduceLE, Int.reduceNe, Int.reduceToNat, l0, d0]
        refine callD_ans a92 en9 (nfs_cons (nf_rs _) (nfs_cons (nf_rs _) rfl)) (nf_ms _) ?_
        simp -implicitDefEqProofs only [sims.1, fx.1, keeps.1, tick_on, calleeK, extractV, oneV, faddrK, nonnil, b_shr, b_shl, fieldK, Nat.reduceAdd, Nat.reduceMul, Nat.reduceSub, Nat.reduceEqDiff, Nat.reduceLT, Nat.reduceLeDiff, Nat.reduceBEq, Nat.reduceBNe, reduceIte, Int.reduceEq, Int.reduceLT, Int.reduceLE, Int.reduceNe, Int.reduceToNat, l0, d0]
        refine callD_ans (ans9 was now hw1 hw2 g1 g2) en9 (nfs_cons (nf_rs _) (nfs_cons (nf_rs _) rfl)) (nf_ms _) ?_
        simp -implicitDefEqProofs only [sims.1, fx.1, keeps.1, tick_on, calleeK, extractV, oneV, faddrK, nonnil, b_shr, b_shl, fieldK, Nat.reduceAdd, Nat.reduceMul, Nat.reduceSub, Nat.reduceEqDiff, Nat.reduceLT, Nat.reduceLeDiff, Nat.reduceBEq, Nat.reduceBNe, reduceIte, Int.reduceEq, Int.reduceLT, Int.reduceLE, Int.reduceNe, Int.reduceToNat]
        obtain ⟨L, hL⟩ : ∃ L, btw was now = L := ⟨_, rfl⟩
        have hst : ∀ x ∈ L, ∀ r ∈ o, ∀ p ∈ lastL was, alk r p = true → pl x.r r = false := by
          intro x hx r hr p hp ha
          rw [← hL] at hx
          exact btw_still hx (by rw [h2, List.mem_reverse] at hr; exact hr) hp ha
        have hLl : L.length ≤ 300 := by rw [← hL]; have := btw_len was now; omega
        have hLw : ∀ x ∈ L, wfM x := by rw [← hL]; exact btw_wf hw1 hw2
        have how : ∀ r ∈ o, wfR r := fun r hr => hw2 r (ho r hr)
        rw [hL]
        clear hL a91 a92 h2 h3 f1 f2 c1 h1 ho
        have lM : ∀ x : Me, (meC x).length = 36 := fun _ => rfl
        have lD : ∀ x : Me, (List.drop 3 (meC x)).length = 33 := fun _ => rfl
        have e3 : ∀ x : Me, (List.drop 0 (List.drop 3 (meC x)))[0]? = some (.int .i64 x.r.rank) := fun _ => rfl
        have e4 : ∀ x : Me, partK true 22 (List.drop 1 (List.drop 3 (meC x))) 0 = some (.agg (mC x.r.w)) := fun _ => rfl
        refine W_loopM (fun a : Nat => [(0, rsV was), (9, msV L), (5, rsV o), (10, .int .i64 (a : Int))]) (fun a _ => a ≤ L.length) (fun a => L.length - a) 0 (by kernel_rfl) (Nat.zero_le _) ?_
        rintro a ma ha
        rcases Nat.lt_or_ge a L.length with hal | hal
        · have ca : decide (a < L.length) = true := by simpa using hal
          have wa := add1N a (by omega)
          simp -implicitDefEqProofs only [sims.1, fx.1, keeps.1, tick_on, calleeK, extractV, oneV, faddrK, nonnil, b_shr, b_shl, fieldK, Nat.reduceAdd, Nat.reduceMul, Nat.reduceSub, Nat.reduceEqDiff, Nat.reduceLT, Nat.reduceLeDiff, Nat.reduceBEq, Nat.reduceBNe, reduceIte, Int.reduceEq, Int.reduceLT, Int.reduceLE, Int.reduceNe, Int.reduceToNat, len_ms, ltNat, ca]
          refine W_loopM (fun b : Nat => [(11, .int .i64 (b : Int)), (10, .int .i64 (a : Int)), (0, rsV was), (9, msV L), (5, rsV o)]) (fun b _ => b ≤ o.length) (fun b => o.length - b) 0 (by kernel_rfl) (Nat.zero_le _) ?_
          rintro b mb hb
          rcases Nat.lt_or_ge b o.length with hbl | hbl
          · have cb : decide (b < o.length) = true := by simpa using hbl
            have wb := add1N b (by omega)
            simp -implicitDefEqProofs only [sims.1, fx.1, keeps.1, tick_on, calleeK, extractV, oneV, faddrK, nonnil, b_shr, b_shl, fieldK, Nat.reduceAdd, Nat.reduceMul, Nat.reduceSub, Nat.reduceEqDiff, Nat.reduceLT, Nat.reduceLeDiff, Nat.reduceBEq, Nat.reduceBNe, reduceIte, Int.reduceEq, Int.reduceLT, Int.reduceLE, Int.reduceNe, Int.reduceToNat, len_rs, ltNat, cb]
            refine W_loopM (fun c : Nat => [(12, .int .i64 (c : Int)), (11, .int .i64 (b : Int)), (10, .int .i64 (a : Int)), (0, rsV was), (9, msV L), (5, rsV o)]) (fun c _ => c ≤ was.length) (fun c => was.length - c) 0 (by kernel_rfl) (Nat.zero_le _) ?_
            rintro c mc hc
            rcases Nat.lt_or_ge c was.length with hcl | hcl
            · have cc : decide (c < was.length) = true := by simpa using hcl
              have wc := add1N c (by omega)
              have hwb := how _ (List.getElem_mem hbl)
              have hwc := hw1 _ (List.getElem_mem hcl)
              simp -implicitDefEqProofs only [sims.1, fx.1, keeps.1, tick_on, calleeK, extractV, oneV, faddrK, nonnil, b_shr, b_shl, fieldK, Nat.reduceAdd, Nat.reduceMul, Nat.reduceSub, Nat.reduceEqDiff, Nat.reduceLT, Nat.reduceLeDiff, Nat.reduceBEq, Nat.reduceBNe, reduceIte, Int.reduceEq, Int.reduceLT, Int.reduceLE, Int.reduceNe, Int.reduceToNat, len_rs, ltNat, cc]
              refine w_quiet ?_
              simp -implicitDefEqProofs only [sims.1, fx.1, keeps.1, tick_on, calleeK, extractV, oneV, faddrK, nonnil, b_shr, b_shl, fieldK, Nat.reduceAdd, Nat.reduceMul, Nat.reduceSub, Nat.reduceEqDiff, Nat.reduceLT, Nat.reduceLeDiff, Nat.reduceBEq, Nat.reduceBNe, reduceIte, Int.reduceEq, Int.reduceLT, Int.reduceLE, Int.reduceNe, Int.reduceToNat, ia_rs hbl, ia_rs hcl, pR]
              refine callQ_ans (ans11 o[b] was[c] hwb hwc) en11 (nfs_ru2 _ _) rfl ?_
              simp -implicitDefEqProofs only [sims.1, fx.1, keeps.1, tick_on, calleeK, extractV, oneV, faddrK, nonnil, b_shr, b_shl, fieldK, Nat.reduceAdd, Nat.reduceMul, Nat.reduceSub, Nat.reduceEqDiff, Nat.reduceLT, Nat.reduceLeDiff, Nat.reduceBEq, Nat.reduceBNe, reduceIte, Int.reduceEq, Int.reduceLT, Int.reduceLE, Int.reduceNe, Int.reduceToNat, wc]
              refine W_loopM (fun d : Nat => [(14, .int .i64 (d : Int)), (13, .bool (alk o[b] was[c] && !((was.drop (c + 1)).take (d - (c + 1))).any fun y => pl y was[c])), (12, .int .i64 (c : Int)), (11, .int .i64 (b : Int)), (10, .int .i64 (a : Int)), (0, rsV was), (9, msV L), (5, rsV o)])
                (fun d _ => c + 1 ≤ d ∧ d ≤ was.length) (fun d => was.length - d) (c + 1) (Eq.trans (b := [(14, .int .i64 ((c + 1 : Nat) : Int)), (13, .bool (alk o[b] was[c])), (12, .int .i64 (c : Int)), (11, .int .i64 (b : Int)), (10, .int .i64 (a : Int)), (0, rsV was), (9, msV L), (5, rsV o)]) (by kernel_rfl) (by simp)) ⟨Nat.le_refl _, hcl⟩ ?_
              rintro d md ⟨d1, d2⟩
              rcases Nat.lt_or_ge d was.length with hdl | hdl
              · have cd : decide (d < was.length) = true := by simpa using hdl
                have wd := add1N d (by omega)
                have hsd : ((was.drop (c + 1)).take (d + 1 - (c + 1))).any (fun y => pl y was[c]) = (((was.drop (c + 1)).take (d - (c + 1))).any (fun y => pl y was[c]) || pl was[d] was[c]) := by
                  have hlt : d - (c + 1) < (was.drop (c + 1)).length := by simp; omega
                  rw [show d + 1 - (c + 1) = d - (c + 1) + 1 by omega, ← List.take_append_getElem hlt, List.any_append]
                  have : (was.drop (c + 1))[d - (c + 1)] = was[d] := by
                    rw [List.getElem_drop]
                    congr 1
                    omega
                  rw [this]
                  simp
                have e33 := eq33 was[d].w was[c].w (hw1 _ (List.getElem_mem hdl)).2.1 hwc.2.1
                simp -implicitDefEqProofs only [sims.1, fx.1, keeps.1, tick_on, calleeK, extractV, oneV, faddrK, nonnil, b_shr, b_shl, fieldK, Nat.reduceAdd, Nat.reduceMul, Nat.reduceSub, Nat.reduceEqDiff, Nat.reduceLT, Nat.reduceLeDiff, Nat.reduceBEq, Nat.reduceBNe, reduceIte, Int.reduceEq, Int.reduceLT, Int.reduceLE, Int.reduceNe, Int.reduceToNat, len_rs, ltNat, cd]
                refine w_quiet ?_
                cases e : (alk o[b] was[c] && !((was.drop (c + 1)).take (d - (c + 1))).any fun y => pl y was[c])
                · have hn : (alk o[b] was[c] && !((was.drop (c + 1)).take (d + 1 - (c + 1))).any fun y => pl y was[c]) = false := by
                    rw [hsd, Bool.not_or, ← Bool.and_assoc, e, Bool.false_and]
                  simp -implicitDefEqProofs only [sims.1, fx.1, keeps.1, tick_on, calleeK, extractV, oneV, faddrK, nonnil, b_shr, b_shl, fieldK, Nat.reduceAdd, Nat.reduceMul, Nat.reduceSub, Nat.reduceEqDiff, Nat.reduceLT, Nat.reduceLeDiff, Nat.reduceBEq, Nat.reduceBNe, reduceIte, Int.reduceEq, Int.reduceLT, Int.reduceLE, Int.reduceNe, Int.reduceToNat, wd]
                  exact ⟨d + 1, by rw [hn]; kernel_rfl, ⟨by omega, hdl⟩, by omega⟩
                · have hn : (alk o[b] was[c] && !((was.drop (c + 1)).take (d + 1 - (c + 1))).any fun y => pl y was[c]) = !pl was[d] was[c] := by
                    rw [hsd, Bool.not_or, ← Bool.and_assoc, e, Bool.true_and]
                  cases e5 : decide (was[d].rank = was[c].rank)
                  · have ep : pl was[d] was[c] = false := by simp [pl, e5]
                    rw [ep] at hn
                    simp -implicitDefEqProofs only [sims.1, fx.1, keeps.1, tick_on, calleeK, extractV, oneV, faddrK, nonnil, b_shr, b_shl, fieldK, Nat.reduceAdd, Nat.reduceMul, Nat.reduceSub, Nat.reduceEqDiff, Nat.reduceLT, Nat.reduceLeDiff, Nat.reduceBEq, Nat.reduceBNe, reduceIte, Int.reduceEq, Int.reduceLT, Int.reduceLE, Int.reduceNe, Int.reduceToNat, ia_rs hdl, ia_rs hcl, d0R, lenR, e5, wd]
                    exact ⟨d + 1, by rw [hn]; kernel_rfl, ⟨by omega, hdl⟩, by omega⟩
                  · have ep : pl was[d] was[c] = eqM was[d].w was[c].w := by simp [pl, e5]
                    rw [ep] at hn
                    simp -implicitDefEqProofs only [sims.1, fx.1, keeps.1, tick_on, calleeK, extractV, oneV, faddrK, nonnil, b_shr, b_shl, fieldK, Nat.reduceAdd, Nat.reduceMul, Nat.reduceSub, Nat.reduceEqDiff, Nat.reduceLT, Nat.reduceLeDiff, Nat.reduceBEq, Nat.reduceBNe, reduceIte, Int.reduceEq, Int.reduceLT, Int.reduceLE, Int.reduceNe, Int.reduceToNat, ia_rs hdl, ia_rs hcl, d0R, d1R, lenR, e5, e33, wd]
                    exact ⟨d + 1, by rw [hn]; kernel_rfl, ⟨by omega, hdl⟩, by omega⟩
              · have cd : decide (d < was.length) = false := by simpa using hdl
                have hall : (was.drop (c + 1)).take (d - (c + 1)) = was.drop (c + 1) := List.take_of_length_le (by simp; omega)
                rw [hall]
                simp -implicitDefEqProofs only [sims.1, fx.1, keeps.1, tick_on, calleeK, extractV, oneV, faddrK, nonnil, b_shr, b_shl, fieldK, Nat.reduceAdd, Nat.reduceMul, Nat.reduceSub, Nat.reduceEqDiff, Nat.reduceLT, Nat.reduceLeDiff, Nat.reduceBEq, Nat.reduceBNe, reduceIte, Int.reduceEq, Int.reduceLT, Int.reduceLE, Int.reduceNe, Int.reduceToNat, len_rs, ltNat, cd]
                refine w_quiet ?_
                cases e : (alk o[b] was[c] && !(was.drop (c + 1)).any fun y => pl y was[c])
                · simp -implicitDefEqProofs only [sims.1, fx.1, keeps.1, tick_on, calleeK, extractV, oneV, faddrK, nonnil, b_shr, b_shl, fieldK, Nat.reduceAdd, Nat.reduceMul, Nat.reduceSub, Nat.reduceEqDiff, Nat.reduceLT, Nat.reduceLeDiff, Nat.reduceBEq, Nat.reduceBNe, reduceIte, Int.reduceEq, Int.reduceLT, Int.reduceLE, Int.reduceNe, Int.reduceToNat, wc]
                  exact ⟨c + 1, by kernel_rfl, hcl, by omega⟩
                · simp only [Bool.and_eq_true, Bool.not_eq_true'] at e
                  have hpl := hst L[a] (List.getElem_mem hal) o[b] (List.getElem_mem hbl) was[c] (lastL_mem hcl e.2) e.1
                  have e33 := eq33 L[a].r.w o[b].w (hLw _ (List.getElem_mem hal)).2.1 hwb.2.1
                  cases e5 : decide (L[a].r.rank = o[b].rank)
                  · simp -implicitDefEqProofs only [sims.1, fx.1, keeps.1, tick_on, calleeK, extractV, oneV, faddrK, nonnil, b_shr, b_shl, fieldK, Nat.reduceAdd, Nat.reduceMul, Nat.reduceSub, Nat.reduceEqDiff, Nat.reduceLT, Nat.reduceLeDiff, Nat.reduceBEq, Nat.reduceBNe, reduceIte, Int.reduceEq, Int.reduceLT, Int.reduceLE, Int.reduceNe, Int.reduceToNat, ia_ms hal, ia_rs hbl, lM, lD, e3, d0R, lenR, e5, wc]
                    exact ⟨c + 1, by kernel_rfl, hcl, by omega⟩
                  · have e6 : eqM L[a].r.w o[b].w = false := by simpa [pl, e5] using hpl
                    rw [e6] at e33
                    simp -implicitDefEqProofs only [sims.1, fx.1, keeps.1, tick_on, calleeK, extractV, oneV, faddrK, nonnil, b_shr, b_shl, fieldK, Nat.reduceAdd, Nat.reduceMul, Nat.reduceSub, Nat.reduceEqDiff, Nat.reduceLT, Nat.reduceLeDiff, Nat.reduceBEq, Nat.reduceBNe, reduceIte, Int.reduceEq, Int.reduceLT, Int.reduceLE, Int.reduceNe, Int.reduceToNat, ia_ms hal, ia_rs hbl, lM, lD, e3, e4, d0R, d1R, lenR, e5, e33, wc]
                    exact ⟨c + 1, by kernel_rfl, hcl, by omega⟩
            · have cc : decide (c < was.length) = false := by simpa using hcl
              simp -implicitDefEqProofs only [sims.1, fx.1, keeps.1, tick_on, calleeK, extractV, oneV, faddrK, nonnil, b_shr, b_shl, fieldK, Nat.reduceAdd, Nat.reduceMul, Nat.reduceSub, Nat.reduceEqDiff, Nat.reduceLT, Nat.reduceLeDiff, Nat.reduceBEq, Nat.reduceBNe, reduceIte, Int.reduceEq, Int.reduceLT, Int.reduceLE, Int.reduceNe, Int.reduceToNat, len_rs, ltNat, cc, wb]
              exact ⟨b + 1, by kernel_rfl, hbl, by omega⟩
          · have cb : decide (b < o.length) = false := by simpa using hbl
            simp -implicitDefEqProofs only [sims.1, fx.1, keeps.1, tick_on, calleeK, extractV, oneV, faddrK, nonnil, b_shr, b_shl, fieldK, Nat.reduceAdd, Nat.reduceMul, Nat.reduceSub, Nat.reduceEqDiff, Nat.reduceLT, Nat.reduceLeDiff, Nat.reduceBEq, Nat.reduceBNe, reduceIte, Int.reduceEq, Int.reduceLT, Int.reduceLE, Int.reduceNe, Int.reduceToNat, len_rs, ltNat, cb, wa]
            exact ⟨a + 1, by kernel_rfl, hal, by omega⟩
        · have ca : decide (a < L.length) = false := by simpa using hal
          simp -implicitDefEqProofs only [sims.1, fx.1, keeps.1, tick_on, calleeK, extractV, oneV, faddrK, nonnil, b_shr, b_shl, fieldK, Nat.reduceAdd, Nat.reduceMul, Nat.reduceSub, Nat.reduceEqDiff, Nat.reduceLT, Nat.reduceLeDiff, Nat.reduceBEq, Nat.reduceBNe, reduceIte, Int.reduceEq, Int.reduceLT, Int.reduceLE, Int.reduceNe, Int.reduceToNat, len_ms, ltNat, ca]
          refine callD_ans ans7 en7 rfl rfl ?_
          simp -implicitDefEqProofs only [sims.1, fx.1, keeps.1, tick_on, calleeK, extractV, oneV, faddrK, nonnil, b_shr, b_shl, fieldK, Nat.reduceAdd, Nat.reduceMul, Nat.reduceSub, Nat.reduceEqDiff, Nat.reduceLT, Nat.reduceLeDiff, Nat.reduceBEq, Nat.reduceBNe, reduceIte, Int.reduceEq, Int.reduceLT, Int.reduceLE, Int.reduceNe, Int.reduceToNat]
          exact ans_ret rfl
      · have ek : (k : Int) - 1 = ((k - 1 : Nat) : Int) := by omega
        have c1 : decide ((0 : Int) ≤ ((k - 1 : Nat) : Int)) = true := by simp
        have w1 : IntKind.i64.wrap (((k - 1 : Nat) : Int) + 1) = (k : Int) := by rw [add1N _ (by omega)]; congr 1; omega
        have w2 : IntKind.i64.wrap (((k - 1 : Nat) : Int) - 1) = ((k - 1 : Nat) : Int) - 1 := wrapI (by omega) (by omega)
        have hi : k - 1 < now.length := by omega
        have hd : now.drop (k - 1) = now[k - 1] :: now.drop k := by
          have := List.drop_eq_getElem_cons hi
          rw [show k - 1 + 1 = k by omega] at this
          exact this
        simp -implicitDefEqProofs only [sims.1, fx.1, keeps.1, tick_on, calleeK, extractV, oneV, faddrK, nonnil, b_shr, b_shl, fieldK, Nat.reduceAdd, Nat.reduceMul, Nat.reduceSub, Nat.reduceEqDiff, Nat.reduceLT, Nat.reduceLeDiff, Nat.reduceBEq, Nat.reduceBNe, reduceIte, Int.reduceEq, Int.reduceLT, Int.reduceLE, Int.reduceNe, Int.reduceToNat, ek, c1, w1]
        refine W_loopM (fun j : Nat => [(8, .int .i64 (j : Int)), (7, .bool (((now.drop k).take (j - k)).any fun y => pl y now[k - 1])), (6, .int .i64 ((k - 1 : Nat) : Int)), (1, rsV now), (0, rsV was), (5, rV o.length q)])
          (fun j m2 => k ≤ j ∧ j ≤ now.length ∧ m2 = mm) (fun j => now.length - j) k (Eq.trans (b := [(8, .int .i64 (k : Int)), (7, .bool false), (6, .int .i64 ((k - 1 : Nat) : Int)), (1, rsV now), (0, rsV was), (5, rV o.length q)]) (by kernel_rfl) (by simp)) ⟨Nat.le_refl _, h1, rfl⟩ ?_
        rintro j m2 ⟨j1, j2, rfl⟩
        rcases Nat.lt_or_ge j now.length with hj | hj
        · have c2 : decide (j < now.length) = true := by simpa using hj
          have w3 := add1N j (by omega)
          have hst : ((now.drop k).take (j + 1 - k)).any (fun y => pl y now[k - 1]) = (((now.drop k).take (j - k)).any (fun y => pl y now[k - 1]) || pl now[j] now[k - 1]) := by
            have hlt : j - k < (now.drop k).length := by simp; omega
            rw [show j + 1 - k = j - k + 1 by omega, ← List.take_append_getElem hlt, List.any_append]
            have : (now.drop k)[j - k] = now[j] := by
              rw [List.getElem_drop]
              congr 1
              omega
            rw [this]
            simp
          have e33 := eq33 now[j].w now[k - 1].w (hw2 _ (List.getElem_mem hj)).2.1 (hw2 _ (List.getElem_mem hi)).2.1
          simp -implicitDefEqProofs only [sims.1, fx.1, keeps.1, tick_on, calleeK, extractV, oneV, faddrK, nonnil, b_shr, b_shl, fieldK, Nat.reduceAdd, Nat.reduceMul, Nat.reduceSub, Nat.reduceEqDiff, Nat.reduceLT, Nat.reduceLeDiff, Nat.reduceBEq, Nat.reduceBNe, reduceIte, Int.reduceEq, Int.reduceLT, Int.reduceLE, Int.reduceNe, Int.reduceToNat, len_rs, ltNat, c2]
          refine w_quiet ?_
          cases e : ((now.drop k).take (j - k)).any fun y => pl y now[k - 1]
          · rw [e, Bool.false_or] at hst
            cases e5 : decide (now[j].rank = now[k - 1].rank)
            · have ep : pl now[j] now[k - 1] = false := by simp [pl, e5]
              rw [ep] at hst
              simp -implicitDefEqProofs only [sims.1, fx.1, keeps.1, tick_on, calleeK, extractV, oneV, faddrK, nonnil, b_shr, b_shl, fieldK, Nat.reduceAdd, Nat.reduceMul, Nat.reduceSub, Nat.reduceEqDiff, Nat.reduceLT, Nat.reduceLeDiff, Nat.reduceBEq, Nat.reduceBNe, reduceIte, Int.reduceEq, Int.reduceLT, Int.reduceLE, Int.reduceNe, Int.reduceToNat, ia_rs hi, ia_rs hj, d0R, lenR, e5, w3]
              exact ⟨j + 1, by rw [hst]; kernel_rfl, ⟨by omega, hj, by trivial⟩, by omega⟩
            · have ep : pl now[j] now[k - 1] = eqM now[j].w now[k - 1].w := by simp [pl, e5]
              rw [ep] at hst
              simp -implicitDefEqProofs only [sims.1, fx.1, keeps.1, tick_on, calleeK, extractV, oneV, faddrK, nonnil, b_shr, b_shl, fieldK, Nat.reduceAdd, Nat.reduceMul, Nat.reduceSub, Nat.reduceEqDiff, Nat.reduceLT, Nat.reduceLeDiff, Nat.reduceBEq, Nat.reduceBNe, reduceIte, Int.reduceEq, Int.reduceLT, Int.reduceLE, Int.reduceNe, Int.reduceToNat, ia_rs hi, ia_rs hj, d0R, d1R, lenR, e5, e33, w3]
              exact ⟨j + 1, by rw [hst]; kernel_rfl, ⟨by omega, hj, by trivial⟩, by omega⟩
          · rw [e, Bool.true_or] at hst
            simp -implicitDefEqProofs only [sims.1, fx.1, keeps.1, tick_on, calleeK, extractV, oneV, faddrK, nonnil, b_shr, b_shl, fieldK, Nat.reduceAdd, Nat.reduceMul, Nat.reduceSub, Nat.reduceEqDiff, Nat.reduceLT, Nat.reduceLeDiff, Nat.reduceBEq, Nat.reduceBNe, reduceIte, Int.reduceEq, Int.reduceLT, Int.reduceLE, Int.reduceNe, Int.reduceToNat, w3]
            exact ⟨j + 1, by rw [hst]; kernel_rfl, ⟨by omega, hj, by trivial⟩, by omega⟩
        · have c2 : decide (j < now.length) = false := by simpa using hj
          have hall : (now.drop k).take (j - k) = now.drop k := List.take_of_length_le (by simp; omega)
          have hany : (now.drop k).any (fun y => pl y now[k - 1]) = (now.drop k).any (pl now[k - 1]) := by
            congr 1
            funext y
            exact pl_comm _ _
          rw [hall, hany]
          simp -implicitDefEqProofs only [sims.1, fx.1, keeps.1, tick_on, calleeK, extractV, oneV, faddrK, nonnil, b_shr, b_shl, fieldK, Nat.reduceAdd, Nat.reduceMul, Nat.reduceSub, Nat.reduceEqDiff, Nat.reduceLT, Nat.reduceLeDiff, Nat.reduceBEq, Nat.reduceBNe, reduceIte, Int.reduceEq, Int.reduceLT, Int.reduceLE, Int.reduceNe, Int.reduceToNat, len_rs, ltNat, c2]
          cases e : (now.drop k).any (pl now[k - 1])
          · obtain ⟨m5, happ, hl5, hr5, hk5⟩ := app_ru (mm := m2) (q := q) (l := o) now[k - 1] h3 (by
              rw [h2, List.length_reverse]
              have := lastL_len (now.drop k)
              simp at this
              omega)
            have bsr := bs22 now[k - 1] m2
            simp -implicitDefEqProofs only [sims.1, fx.1, keeps.1, tick_on, calleeK, extractV, oneV, faddrK, nonnil, b_shr, b_shl, fieldK, Nat.reduceAdd, Nat.reduceMul, Nat.reduceSub, Nat.reduceEqDiff, Nat.reduceLT, Nat.reduceLeDiff, Nat.reduceBEq, Nat.reduceBNe, reduceIte, Int.reduceEq, Int.reduceLT, Int.reduceLE, Int.reduceNe, Int.reduceToNat, ia_rs hi, pR, bsr, happ, w2]
            refine ⟨(k - 1, (o ++ [now[k - 1]], m2.length + 1)), ?_, ⟨by omega, ?_, hr5⟩, by simp only; omega⟩
            · simp only [List.length_append, List.length_cons, List.length_nil]
              kernel_rfl
            · rw [hd, lastL_cons, e, cond_false, List.reverse_cons, h2]
          · simp -implicitDefEqProofs only [sims.1, fx.1, keeps.1, tick_on, calleeK, extractV, oneV, faddrK, nonnil, b_shr, b_shl, fieldK, Nat.reduceAdd, Nat.reduceMul, Nat.reduceSub, Nat.reduceEqDiff, Nat.reduceLT, Nat.reduceLeDiff, Nat.reduceBEq, Nat.reduceBNe, reduceIte, Int.reduceEq, Int.reduceLT, Int.reduceLE, Int.reduceNe, Int.reduceToNat, w2]
            refine ⟨(k - 1, (o, q)), by kernel_rfl, ⟨by omega, ?_, h3⟩, by simp only; omega⟩
            rw [hd, lastL_cons, e, cond_true, h2]
    · simp -implicitDefEqProofs only [sims.1, fx.1, keeps.1, tick_on, calleeK, extractV, oneV, faddrK, nonnil, b_shr, b_shl, fieldK, Nat.reduceAdd, Nat.reduceMul, Nat.reduceSub, Nat.reduceEqDiff, Nat.reduceLT, Nat.reduceLeDiff, Nat.reduceBEq, Nat.reduceBNe, reduceIte, Int.reduceEq, Int.reduceLT, Int.reduceLE, Int.reduceNe, Int.reduceToNat, wz_seq]
      refine callD_ans ans7 en7 rfl rfl ?_
      simp -implicitDefEqProofs only [sims.1, fx.1, keeps.1, tick_on, calleeK, extractV, oneV, faddrK, nonnil, b_shr, b_shl, fieldK, Nat.reduceAdd, Nat.reduceMul, Nat.reduceSub, Nat.reduceEqDiff, Nat.reduceLT, Nat.reduceLeDiff, Nat.reduceBEq, Nat.reduceBNe, reduceIte, Int.reduceEq, Int.reduceLT, Int.reduceLE, Int.reduceNe, Int.reduceToNat]
      exact ans_ret rfl
  · simp -implicitDefEqProofs only [sims.1, fx.1, keeps.1, tick_on, calleeK, extractV, oneV, faddrK, nonnil, b_shr, b_shl, fieldK, Nat.reduceAdd, Nat.reduceMul, Nat.reduceSub, Nat.reduceEqDiff, Nat.reduceLT, Nat.reduceLeDiff, Nat.reduceBEq, Nat.reduceBNe, reduceIte, Int.reduceEq, Int.reduceLT, Int.reduceLE, Int.reduceNe, Int.reduceToNat, wz_seq]
    refine callD_ans ans7 en7 rfl rfl ?_
    simp -implicitDefEqProofs only [sims.1, fx.1, keeps.1, tick_on, calleeK, extractV, oneV, faddrK, nonnil, b_shr, b_shl, fieldK, Nat.reduceAdd, Nat.reduceMul, Nat.reduceSub, Nat.reduceEqDiff, Nat.reduceLT, Nat.reduceLeDiff, Nat.reduceBEq, Nat.reduceBNe, reduceIte, Int.reduceEq, Int.reduceLT, Int.reduceLE, Int.reduceNe, Int.reduceToNat]
    exact ans_ret rfl
theorem ans4r (was now : List Ru) (h0 : (∀ x ∈ was, wfR x) ∧ was.length < lim) (h1 : (∀ x ∈ now, wfR x) ∧ now.length < lim) : Ans Try.prog 4 [rsV was, rsV now] (.bool true) := ans4 was now h0.1 h1.1 (lim_lt h0.2) (lim_lt h1.2)
end Go.Proofs.Ytggdnepfahknbaa
