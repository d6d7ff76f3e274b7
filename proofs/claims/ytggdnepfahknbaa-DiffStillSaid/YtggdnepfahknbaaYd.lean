/- The rules that count, as the document tells them. No condition. -/
import Derived.Test.YtggdnepfahknbaaYc
namespace Go.Proofs.Ytggdnepfahknbaa
open Go Ab
set_option linter.unusedSimpArgs false
set_option linter.unusedVariables false
set_option maxRecDepth 20000

/-- The rules that count: of those of one place the last one. -/
def lastL : List Ru → List Ru
  | [] => []
  | a :: r => bif r.any (pl a) then lastL r else a :: lastL r
theorem lastL_cons (a : Ru) (r : List Ru) : lastL (a :: r) = bif r.any (pl a) then lastL r else a :: lastL r := rfl
theorem lastL_sub : ∀ {l : List Ru} {r : Ru}, r ∈ lastL l → r ∈ l
  | [], r, h => by simp [lastL] at h
  | a :: l, r, h => by
    unfold lastL at h
    cases e : l.any (pl a) with
    | true => rw [e] at h; exact List.mem_cons_of_mem _ (lastL_sub h)
    | false =>
      rw [e] at h
      rcases List.mem_cons.1 h with rfl | h
      · simp
      · exact List.mem_cons_of_mem _ (lastL_sub h)
theorem lastL_len : ∀ l : List Ru, (lastL l).length ≤ l.length
  | [] => Nat.le_refl _
  | a :: l => by
    unfold lastL
    have := lastL_len l
    cases l.any (pl a) <;> simp <;> omega
/-- Rules in a row of memory, or none. -/
def rV (n q : Nat) : V := match n with
  | 0 => .nils
  | k + 1 => .sl 25 q 0 (k + 1)
theorem rV_len (mm : Mem) (n q : Nat) : lenV Try.prog mm 22 (rV n q) = some (.int .i64 (n : Int)) := by cases n <;> rfl
theorem rV_pos {n q : Nat} (h : n ≠ 0) : rV n q = .sl 25 q 0 n := by
  cases n with
  | zero => exact absurd rfl h
  | succ k => rfl
def RowR (mm : Mem) (q : Nat) (l : List Ru) : Prop := l ≠ [] → mm[q]? = some (.row 36 25 (l.map ruC))
theorem un22 : Try.prog.underlying 22 = some (.slice 36) := Try.underlying22
theorem zE36 : ((zeroE Try.prog 36).map fun x => (x.2.1, Nat.ble x.2.2 1000)) = some (25, true) := by kernel_rfl
theorem bs22 (r : Ru) (m : Mem) : bsliceV Try.prog 22 1 [(0, ruV r)] m = some (.sl 25 m.length 0 1, m ++ [.row 36 25 [ruC r]]) := by
  have h1 : zeroE Try.prog 36 = some (.int .i64 0 :: (cl .u64 22 (fun _ => 0) ++ [.nils, .int .u64 0]), 25, 216) := by kernel_rfl
  have hs : stys ([(0, ruV r)].map (·.2)) = true := by
    have : nfs [ruV r] = true := nfs_cons (nf_ru r) rfl
    simp [stys, this]
  unfold bsliceV
  simp only [un22, h1, frzQ_nf _ m hs]
  rfl
/-- A rule more behind a row of rules. -/
theorem app_ru {mm : Mem} {q : Nat} {l : List Ru} (r : Ru) (h : RowR mm q l) (hl : l.length ≤ 200000) :
    ∃ mm', appendA Try.prog 22 22 (rV l.length q) (.sl 25 mm.length 0 1) (mm ++ [.row 36 25 [ruC r]]) = some (rV (l.length + 1) (mm.length + 1), mm') ∧ mm'.length = mm.length + 2 ∧ RowR mm' (mm.length + 1) (l ++ [r]) ∧ ∀ k, k < mm.length → (k ≠ q ∨ l = []) → mm'[k]? = mm[k]? := by
  obtain ⟨mm', h1, h2, h3, h4⟩ := app_any (t := 22) (e := 36) (s := 25) (by kernel_rfl) zE36 (by kernel_rfl) (mm := mm) (q := q) (l := l.map ruC) (v := rV l.length q) (ruC r) (by
    cases l with
    | nil => exact .inl ⟨rfl, rfl⟩
    | cons a l => exact .inr ⟨by simp, by rw [List.length_map]; rfl, h (by simp)⟩) (by rw [List.length_map]; exact hl)
  rw [List.length_map] at h1
  refine ⟨mm', h1, h2, fun _ => by rw [h3]; simp, fun k hk hn => h4 k hk (hn.imp id fun e => by rw [e]; rfl)⟩
theorem ret_rs {m1 : Mem} {q : Nat} {l : List Ru} (h : RowR m1 q l) : retOk (fun e => nfs e) m1 (rsV l) (rV l.length q) := by
  cases l with
  | nil => exact .inl ⟨rfl, rfl⟩
  | cons a l =>
    refine .inr ⟨q, 0, _, 36, _, rfl, h (by simp), by simp, by rw [List.drop_zero, List.take_of_length_le (by simp)], ?_⟩
    rw [List.all_eq_true]
    intro e he
    obtain ⟨r, _, rfl⟩ := List.mem_map.1 he
    exact nfs_ru r
set_option maxHeartbeats 4000000 in
theorem ans19 (l : List Ru) (hw : ∀ r ∈ l, wfR r) (hl : l.length ≤ 1000) : Ans Try.prog 19 [rsV l] (rsV (lastL l)) := by
  refine ans_frz ?_ (fun l h => by cases h)
  refine Snd_of_W fol rfl rfl (by kernel_rfl) (by kernel_rfl) ?_
  have evn : ∀ env, evO env (.const (.slice none 0 0)) = .nils := fun _ => rfl
  simp -implicitDefEqProofs only [sims.1, fx.1, keeps.1, tick_on, calleeK, extractV, oneV, faddrK, nonnil, b_shr, b_shl, fieldK, Nat.reduceAdd, Nat.reduceMul, Nat.reduceSub, Nat.reduceEqDiff, Nat.reduceLT, Nat.reduceLeDiff, Nat.reduceBEq, Nat.reduceBNe, reduceIte, Int.reduceEq, Int.reduceLT, Int.reduceLE, Int.reduceNe, Int.reduceToNat, evn]
  refine W_loopM (fun x : Nat × (List Ru × Nat) => [(0, rsV l), (4, .int .i64 (x.1 : Int)), (3, rV x.2.1.length x.2.2)])
    (fun x mm => x.1 ≤ l.length ∧ lastL l = x.2.1 ++ lastL (l.drop x.1) ∧ x.2.1.length ≤ x.1 ∧ RowR mm x.2.2 x.2.1) (fun x => l.length - x.1) (0, ([], 0)) (by kernel_rfl) ⟨Nat.zero_le _, rfl, Nat.le_refl _, fun h => absurd rfl h⟩ ?_
  rintro ⟨i, o, q⟩ mm ⟨h1, h2, h3, h4⟩
  simp only at h1 h2 h3 h4
  rcases Nat.lt_or_ge i l.length with hi | hi
  · have c1 : decide (i < l.length) = true := by simpa using hi
    have w1 := add1N i (by omega)
    have hd : l.drop i = l[i] :: l.drop (i + 1) := List.drop_eq_getElem_cons hi
    simp -implicitDefEqProofs only [sims.1, fx.1, keeps.1, tick_on, calleeK, extractV, oneV, faddrK, nonnil, b_shr, b_shl, fieldK, Nat.reduceAdd, Nat.reduceMul, Nat.reduceSub, Nat.reduceEqDiff, Nat.reduceLT, Nat.reduceLeDiff, Nat.reduceBEq, Nat.reduceBNe, reduceIte, Int.reduceEq, Int.reduceLT, Int.reduceLE, Int.reduceNe, Int.reduceToNat, len_rs, ltNat, c1, w1]
    refine W_loopM (fun j : Nat => [(6, .int .i64 (j : Int)), (5, .bool (((l.drop (i + 1)).take (j - (i + 1))).any (pl l[i]))), (4, .int .i64 (i : Int)), (0, rsV l), (3, rV o.length q)])
      (fun j m2 => i + 1 ≤ j ∧ j ≤ l.length ∧ m2 = mm) (fun j => l.length - j) (i + 1) (Eq.trans (b := [(6, .int .i64 ((i + 1 : Nat) : Int)), (5, .bool false), (4, .int .i64 (i : Int)), (0, rsV l), (3, rV o.length q)]) (by kernel_rfl) (by simp)) ⟨Nat.le_refl _, hi, rfl⟩ ?_
    rintro j m2 ⟨g1, g2, rfl⟩
    rcases Nat.lt_or_ge j l.length with hj | hj
    · have c2 : decide (j < l.length) = true := by simpa using hj
      have w2 := add1N j (by omega)
      have hst : ((l.drop (i + 1)).take (j + 1 - (i + 1))).any (pl l[i]) = (((l.drop (i + 1)).take (j - (i + 1))).any (pl l[i]) || pl l[i] l[j]) := by
        have hlt : j - (i + 1) < (l.drop (i + 1)).length := by simp; omega
        rw [show j + 1 - (i + 1) = j - (i + 1) + 1 by omega, ← List.take_append_getElem hlt, List.any_append]
        have : (l.drop (i + 1))[j - (i + 1)] = l[j] := by
          rw [List.getElem_drop]
          congr 1
          omega
        rw [this]
        simp
      have a20 := ans20 l[i] l[j] (hw _ (List.getElem_mem hi)) (hw _ (List.getElem_mem hj))
      simp -implicitDefEqProofs only [sims.1, fx.1, keeps.1, tick_on, calleeK, extractV, oneV, faddrK, nonnil, b_shr, b_shl, fieldK, Nat.reduceAdd, Nat.reduceMul, Nat.reduceSub, Nat.reduceEqDiff, Nat.reduceLT, Nat.reduceLeDiff, Nat.reduceBEq, Nat.reduceBNe, reduceIte, Int.reduceEq, Int.reduceLT, Int.reduceLE, Int.reduceNe, Int.reduceToNat, len_rs, ltNat, c2]
      refine w_quiet ?_
      cases e : ((l.drop (i + 1)).take (j - (i + 1))).any (pl l[i])
      · rw [e, Bool.false_or] at hst
        simp -implicitDefEqProofs only [sims.1, fx.1, keeps.1, tick_on, calleeK, extractV, oneV, faddrK, nonnil, b_shr, b_shl, fieldK, Nat.reduceAdd, Nat.reduceMul, Nat.reduceSub, Nat.reduceEqDiff, Nat.reduceLT, Nat.reduceLeDiff, Nat.reduceBEq, Nat.reduceBNe, reduceIte, Int.reduceEq, Int.reduceLT, Int.reduceLE, Int.reduceNe, Int.reduceToNat, ia_rs hi, ia_rs hj, pR]
        refine callQ_ans a20 en20 (nfs_ru2 _ _) rfl ?_
        simp -implicitDefEqProofs only [sims.1, fx.1, keeps.1, tick_on, calleeK, extractV, oneV, faddrK, nonnil, b_shr, b_shl, fieldK, Nat.reduceAdd, Nat.reduceMul, Nat.reduceSub, Nat.reduceEqDiff, Nat.reduceLT, Nat.reduceLeDiff, Nat.reduceBEq, Nat.reduceBNe, reduceIte, Int.reduceEq, Int.reduceLT, Int.reduceLE, Int.reduceNe, Int.reduceToNat, w2]
        exact ⟨j + 1, by rw [hst]; kernel_rfl, ⟨by omega, hj, by trivial⟩, by omega⟩
      · rw [e, Bool.true_or] at hst
        simp -implicitDefEqProofs only [sims.1, fx.1, keeps.1, tick_on, calleeK, extractV, oneV, faddrK, nonnil, b_shr, b_shl, fieldK, Nat.reduceAdd, Nat.reduceMul, Nat.reduceSub, Nat.reduceEqDiff, Nat.reduceLT, Nat.reduceLeDiff, Nat.reduceBEq, Nat.reduceBNe, reduceIte, Int.reduceEq, Int.reduceLT, Int.reduceLE, Int.reduceNe, Int.reduceToNat, w2]
        exact ⟨j + 1, by rw [hst]; kernel_rfl, ⟨by omega, hj, by trivial⟩, by omega⟩
    · have c2 : decide (j < l.length) = false := by simpa using hj
      have hall : (l.drop (i + 1)).take (j - (i + 1)) = l.drop (i + 1) := List.take_of_length_le (by simp; omega)
      rw [hd, lastL_cons] at h2
      simp -implicitDefEqProofs only [sims.1, fx.1, keeps.1, tick_on, calleeK, extractV, oneV, faddrK, nonnil, b_shr, b_shl, fieldK, Nat.reduceAdd, Nat.reduceMul, Nat.reduceSub, Nat.reduceEqDiff, Nat.reduceLT, Nat.reduceLeDiff, Nat.reduceBEq, Nat.reduceBNe, reduceIte, Int.reduceEq, Int.reduceLT, Int.reduceLE, Int.reduceNe, Int.reduceToNat, len_rs, ltNat, c2, hall]
      cases e : (l.drop (i + 1)).any (pl l[i])
      · rw [e, cond_false] at h2
        obtain ⟨m5, happ, hl5, hr5, hk5⟩ := app_ru (mm := m2) (q := q) (l := o) l[i] h4 (by omega)
        have bsr := bs22 l[i]
        simp -implicitDefEqProofs only [sims.1, fx.1, keeps.1, tick_on, calleeK, extractV, oneV, faddrK, nonnil, b_shr, b_shl, fieldK, Nat.reduceAdd, Nat.reduceMul, Nat.reduceSub, Nat.reduceEqDiff, Nat.reduceLT, Nat.reduceLeDiff, Nat.reduceBEq, Nat.reduceBNe, reduceIte, Int.reduceEq, Int.reduceLT, Int.reduceLE, Int.reduceNe, Int.reduceToNat, ia_rs hi, pR, bsr, happ, w1]
        refine ⟨(i + 1, (o ++ [l[i]], m2.length + 1)), ?_, ⟨hi, by rw [h2]; simp, by simp; omega, hr5⟩, by simp only; omega⟩
        simp only [List.length_append, List.length_cons, List.length_nil]
        kernel_rfl
      · rw [e, cond_true] at h2
        simp -implicitDefEqProofs only [sims.1, fx.1, keeps.1, tick_on, calleeK, extractV, oneV, faddrK, nonnil, b_shr, b_shl, fieldK, Nat.reduceAdd, Nat.reduceMul, Nat.reduceSub, Nat.reduceEqDiff, Nat.reduceLT, Nat.reduceLeDiff, Nat.reduceBEq, Nat.reduceBNe, reduceIte, Int.reduceEq, Int.reduceLT, Int.reduceLE, Int.reduceNe, Int.reduceToNat, w1]
        exact ⟨(i + 1, (o, q)), by kernel_rfl, ⟨hi, h2, by simp only; omega, h4⟩, by simp only; omega⟩
  · have c1 : decide (i < l.length) = false := by simpa using hi
    rw [List.drop_eq_nil_of_le hi] at h2
    simp only [lastL, List.append_nil] at h2
    simp -implicitDefEqProofs only [sims.1, fx.1, keeps.1, tick_on, calleeK, extractV, oneV, faddrK, nonnil, b_shr, b_shl, fieldK, Nat.reduceAdd, Nat.reduceMul, Nat.reduceSub, Nat.reduceEqDiff, Nat.reduceLT, Nat.reduceLeDiff, Nat.reduceBEq, Nat.reduceBNe, reduceIte, Int.reduceEq, Int.reduceLT, Int.reduceLE, Int.reduceNe, Int.reduceToNat, len_rs, ltNat, c1]
    rw [h2]
    exact ⟨_, _, rfl, ret_rs h4⟩
end Go.Proofs.Ytggdnepfahknbaa
