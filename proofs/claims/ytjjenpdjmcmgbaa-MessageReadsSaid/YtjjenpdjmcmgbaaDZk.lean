/- Which rules may stand in a message, as both packages tell it. No condition. -/
import Derived.Test.YtjjenpdjmcmgbaaDZj
namespace Go.Proofs.Ytjjenpdjmcmgbaa
open Go Ab
set_option linter.unusedSimpArgs false
set_option linter.unusedVariables false
set_option maxRecDepth 20000
def okA (a : Act) : Bool := !decide (a.d < 0) && (!decide (2 < a.d) && (!decide (a.f < 0) && ((decide (a.d = 0) || decide (a.f = 0)) && !(decide (a.d = 2) && !decide (a.n = 0)))))
def okL (l : List (List Act)) : Bool := l.all fun c => c.all okA
def fairR (r : Ru) : Bool := decide (-2147483648 ≤ r.rank) && (decide (r.rank ≤ 2147483647) && (chk r.w && okL r.l))
theorem fair_stop {r : Ru} {i j : Nat} (hi : i < r.l.length) (hj : j < r.l[i].length) (h : okA r.l[i][j] = false) : fairR r = false := by
  have : okL r.l = false := by
    unfold okL
    rw [List.all_eq_false]
    refine ⟨r.l[i], List.getElem_mem hi, ?_⟩
    rw [Bool.not_eq_true, List.all_eq_false]
    exact ⟨r.l[i][j], List.getElem_mem hj, by simp [h]⟩
  simp [fairR, this]
theorem fair_go {r : Ru} (h1 : -2147483648 ≤ r.rank) (h2 : r.rank ≤ 2147483647) (h3 : chk r.w = true) (h : ∀ c ∈ r.l, ∀ a ∈ c, okA a = true) : fairR r = true := by
  have : okL r.l = true := by
    unfold okL
    rw [List.all_eq_true]
    intro c hc
    rw [List.all_eq_true]
    exact h c hc
  simp [fairR, this, h1, h2, h3]
theorem chk20 (b : Bool) : decide ((if b = true then (0 : Int) else 20) = 0) = b := by cases b <;> rfl
theorem row_all {α : Type} {p : α → Prop} {l : List α} (h : ∀ i, (hi : i < l.length) → i < l.length → p l[i]) : ∀ a ∈ l, p a := by
  intro a ha
  obtain ⟨i, hi, rfl⟩ := List.getElem_of_mem ha
  exact h i hi hi
theorem ac0 (a : Act) : (acC a)[0]? = some (.int .i8 a.d) := rfl
theorem ac1 (a : Act) : (acC a)[1]? = some (.int .i8 a.f) := rfl
theorem ac2 (a : Act) : (acC a)[2]? = some (.int .u64 (a.n : Int)) := rfl
theorem acp (a : Act) : partK true 3 (acC a) 0 = some (.agg (acC a)) := rfl
theorem acl (a : Act) : (acC a).length = 3 := rfl
theorem sp3 (a : Act) (x y z : V) : splice [x, y, z] 0 (acC a) = acC a := rfl
set_option maxHeartbeats 8000000 in
theorem ans38 (r : Ru) (t : List V) (hr : wfR r) : Ans Try.prog 38 [.ip (ruC r ++ t)] (.bool (fairR r)) := by
  refine Snd_of_W fol rfl rfl (by kernel_rfl) (by kernel_rfl) ?_
  have r0 : (ruC r ++ t)[0]? = some (.int .i64 r.rank) := rfl
  have r0' : (List.drop 0 (ruC r ++ t))[0]? = some (.int .i64 r.rank) := rfl
  have r1 : partK true 22 (List.drop 1 (ruC r ++ t)) 0 = some (mv r.w) := rfl
  have r2 : (List.drop 23 (ruC r ++ t))[0]? = some (cpsV r.l) := rfl
  have hl : (ruC r ++ t).length = 25 + t.length := by simp [ruC, mC, cl]; omega
  have l0 : (0 : Nat) ≤ 25 + t.length := by omega
  have l1 : 1 ≤ 25 + t.length := by omega
  have l2 : 23 ≤ 25 + t.length := by omega
  cases c1 : decide (r.rank < -2147483648)
  rotate_left
  · have : fairR r = false := by
      have h := of_decide_eq_true c1
      have h2 : decide (-2147483648 ≤ r.rank) = false := by simp; omega
      simp [fairR, h2]
    simp -implicitDefEqProofs only [sims.1, fx.1, keeps.1, tick_on, faddrK, nonnil, Nat.reduceEqDiff, hl, l0, r0', c1]
    exact ans_ret (by rw [this])
  cases c2 : decide (2147483647 < r.rank)
  rotate_left
  · have : fairR r = false := by
      have h := of_decide_eq_true c2
      have h2 : decide (r.rank ≤ 2147483647) = false := by simp; omega
      simp [fairR, h2]
    simp -implicitDefEqProofs only [sims.1, fx.1, keeps.1, tick_on, faddrK, nonnil, Nat.reduceEqDiff, hl, l0, r0', c1, c2]
    exact ans_ret (by rw [this])
  have k1 : -2147483648 ≤ r.rank := by have := of_decide_eq_false c1; omega
  have k2 : r.rank ≤ 2147483647 := by have := of_decide_eq_false c2; omega
  have c3 := chk20 (chk r.w)
  simp -implicitDefEqProofs only [sims.1, fx.1, keeps.1, tick_on, calleeK, faddrK, nonnil, Nat.reduceEqDiff, hl, l0, l1, r0', r1, c1, c2]
  refine callD_ans (ans65 r.w hr.2.1) en65 (by unfold mv; simp only [nfs, nf, mC, nfs_cl, Bool.and_self]) rfl ?_
  cases c4 : chk r.w
  · rw [c4] at c3
    have : fairR r = false := by simp [fairR, c4]
    simp -implicitDefEqProofs only [sims.1, fx.1, keeps.1, tick_on, Nat.reduceEqDiff, c3]
    exact ans_ret (by rw [this])
  rw [c4] at c3
  have hll : r.l.length < 281474976710656 := hr.2.2.1.1
  have lnl : ∀ M, lenV Try.prog M 29 (cpsV r.l) = some (.int .i64 (r.l.length : Int)) := fun M => by unfold cpsV; rw [lni29, List.length_map]
  simp -implicitDefEqProofs only [sims.1, fx.1, keeps.1, tick_on, faddrK, nonnil, Nat.reduceEqDiff, hl, l2, r2, lnl]
  refine W_loopM (fun i : Nat => [(31, V.int .i64 (r.l.length : Int)), (30, cpsV r.l), (32, V.int .i64 (i : Int))]) (fun i M => i ≤ r.l.length ∧ ∀ k, (hk : k < r.l.length) → k < i → ∀ a ∈ r.l[k], okA a = true) (fun i => r.l.length + 1 - i) 0 (by kernel_rfl) ⟨by omega, fun k hk h => by omega⟩ ?_
  rintro i M ⟨h1, h2⟩
  rcases Nat.lt_or_ge i r.l.length with hi | hi
  · have d1 : decide (i < r.l.length) = true := by simpa using hi
    have w1 := add1N i (by omega)
    have hcl : r.l[i].length < 281474976710656 := (hr.2.2.1.2 _ (List.getElem_mem hi)).1
    have lnc : ∀ M, lenV Try.prog M 99 (cpV r.l[i]) = some (.int .i64 (r.l[i].length : Int)) := fun M => by unfold cpV; rw [lni99, List.length_map]
    have ia : ∀ {kk : IntKind}, iaddrS 1 (cpsV r.l) (.int kk (i : Int)) = some (.ip [cpV r.l[i]]) := fun {kk} => iaddrS_isl (by simp [hi])
    have at0 : ([cpV r.l[i]] : List V)[0]? = some (cpV r.l[i]) := rfl
    simp -implicitDefEqProofs only [sims.1, fx.1, keeps.1, tick_on, Nat.reduceEqDiff, ltNat, d1, lnc, ia]
    refine W_loopM (fun j : Nat => [(37, V.int .i64 (r.l[i].length : Int)), (36, cpV r.l[i]), (38, V.int .i64 (j : Int)), (32, V.int .i64 (i : Int)), (31, V.int .i64 (r.l.length : Int)), (30, cpsV r.l)]) (fun j M => j ≤ r.l[i].length ∧ ∀ k, (hk : k < r.l[i].length) → k < j → okA r.l[i][k] = true) (fun j => r.l[i].length + 1 - j) 0 (by kernel_rfl) ⟨by omega, fun k hk h => by omega⟩ ?_
    rintro j M ⟨g1, g2⟩
    rcases Nat.lt_or_ge j r.l[i].length with hj | hj
    · have d2 : decide (j < r.l[i].length) = true := by simpa using hj
      have w2 := add1N j (by omega)
      have ib : ∀ {kk : IntKind}, iaddrS 3 (cpV r.l[i]) (.int kk (j : Int)) = some (.ip (acC r.l[i][j])) := fun {kk} => iaddrS_isl (by simp [hj])
      have e6c := eqC0 r.l[i][j].n
      have hM : ∀ (b : B), (M ++ [b])[M.length]? = some b := fun b => at_app0
      have hS : ∀ (b b' : B), (M ++ [b]).set M.length b' = M ++ [b'] := fun b b' => set_app0 b'
      cases e0 : decide (r.l[i][j].d < 0)
      · skip
        cases e1 : decide (2 < r.l[i][j].d)
        · skip
          cases e2 : decide (r.l[i][j].f < 0)
          · skip
            cases e3 : decide (r.l[i][j].d = 0)
            · skip
              cases e4 : decide (r.l[i][j].f = 0)
              · skip
                simp -implicitDefEqProofs only [sims.1, fx.1, keeps.1, tick_on, faddrK, Nat.reduceAdd, Nat.reduceEqDiff, Nat.reduceLeDiff, ltNat, d2, ib, acp, acl, sp3, storeK_agg, hM, hS, ac0, ac1, e0, e1, e2, e3, e4]
                have no : okA r.l[i][j] = false := by
                  unfold okA
                  simp only [e0, e1, e2, e3, e4, Bool.not_false, Bool.or_self, Bool.and_false, Bool.false_and]
                exact ans_ret (by rw [fair_stop hi hj no])
              · skip
                cases e5 : decide (r.l[i][j].d = 2)
                · skip
                  simp -implicitDefEqProofs only [sims.1, fx.1, keeps.1, tick_on, faddrK, Nat.reduceAdd, Nat.reduceEqDiff, Nat.reduceLeDiff, ltNat, d2, ib, acp, acl, sp3, storeK_agg, hM, hS, ac0, ac1, w2, e0, e1, e2, e3, e4, e5]
                  have ok : okA r.l[i][j] = true := by
                    unfold okA
                    simp only [e0, e1, e2, e3, e4, e5, Bool.not_false, Bool.or_true, Bool.false_and, Bool.and_self]
                  exact ⟨j + 1, by kernel_rfl, ⟨by omega, fun k hk hk2 => by
                    rcases Nat.lt_or_ge k j with h | h
                    · exact g2 k hk h
                    · obtain rfl : k = j := by omega
                      exact ok⟩, by omega⟩
                · skip
                  cases e6 : decide (r.l[i][j].n = 0)
                  · rw [e6] at e6c
                    simp -implicitDefEqProofs only [sims.1, fx.1, keeps.1, tick_on, faddrK, Nat.reduceAdd, Nat.reduceEqDiff, Nat.reduceLeDiff, ltNat, d2, ib, acp, acl, sp3, storeK_agg, hM, hS, ac0, ac1, ac2, e0, e1, e2, e3, e4, e5, e6c]
                    have no : okA r.l[i][j] = false := by
                      unfold okA
                      simp only [e0, e1, e2, e3, e4, e5, e6, Bool.not_false, Bool.not_true, Bool.or_true, Bool.and_false, Bool.and_self]
                    exact ans_ret (by rw [fair_stop hi hj no])
                  · rw [e6] at e6c
                    simp -implicitDefEqProofs only [sims.1, fx.1, keeps.1, tick_on, faddrK, Nat.reduceAdd, Nat.reduceEqDiff, Nat.reduceLeDiff, ltNat, d2, ib, acp, acl, sp3, storeK_agg, hM, hS, ac0, ac1, ac2, w2, e0, e1, e2, e3, e4, e5, e6c]
                    have ok : okA r.l[i][j] = true := by
                      unfold okA
                      simp only [e0, e1, e2, e3, e4, e5, e6, Bool.not_false, Bool.not_true, Bool.or_true, Bool.and_false, Bool.and_self]
                    exact ⟨j + 1, by kernel_rfl, ⟨by omega, fun k hk hk2 => by
                      rcases Nat.lt_or_ge k j with h | h
                      · exact g2 k hk h
                      · obtain rfl : k = j := by omega
                        exact ok⟩, by omega⟩
            · skip
              cases e5 : decide (r.l[i][j].d = 2)
              · skip
                simp -implicitDefEqProofs only [sims.1, fx.1, keeps.1, tick_on, faddrK, Nat.reduceAdd, Nat.reduceEqDiff, Nat.reduceLeDiff, ltNat, d2, ib, acp, acl, sp3, storeK_agg, hM, hS, ac0, ac1, w2, e0, e1, e2, e3, e5]
                have ok : okA r.l[i][j] = true := by
                  unfold okA
                  simp only [e0, e1, e2, e3, e5, Bool.not_false, Bool.true_or, Bool.false_and, Bool.and_self]
                exact ⟨j + 1, by kernel_rfl, ⟨by omega, fun k hk hk2 => by
                  rcases Nat.lt_or_ge k j with h | h
                  · exact g2 k hk h
                  · obtain rfl : k = j := by omega
                    exact ok⟩, by omega⟩
              · skip
                cases e6 : decide (r.l[i][j].n = 0)
                · rw [e6] at e6c
                  simp -implicitDefEqProofs only [sims.1, fx.1, keeps.1, tick_on, faddrK, Nat.reduceAdd, Nat.reduceEqDiff, Nat.reduceLeDiff, ltNat, d2, ib, acp, acl, sp3, storeK_agg, hM, hS, ac0, ac1, ac2, e0, e1, e2, e3, e5, e6c]
                  have no : okA r.l[i][j] = false := by
                    unfold okA
                    simp only [e0, e1, e2, e3, e5, e6, Bool.not_false, Bool.not_true, Bool.true_or, Bool.and_false, Bool.and_self]
                  exact ans_ret (by rw [fair_stop hi hj no])
                · rw [e6] at e6c
                  simp -implicitDefEqProofs only [sims.1, fx.1, keeps.1, tick_on, faddrK, Nat.reduceAdd, Nat.reduceEqDiff, Nat.reduceLeDiff, ltNat, d2, ib, acp, acl, sp3, storeK_agg, hM, hS, ac0, ac1, ac2, w2, e0, e1, e2, e3, e5, e6c]
                  have ok : okA r.l[i][j] = true := by
                    unfold okA
                    simp only [e0, e1, e2, e3, e5, e6, Bool.not_false, Bool.not_true, Bool.true_or, Bool.and_false, Bool.and_self]
                  exact ⟨j + 1, by kernel_rfl, ⟨by omega, fun k hk hk2 => by
                    rcases Nat.lt_or_ge k j with h | h
                    · exact g2 k hk h
                    · obtain rfl : k = j := by omega
                      exact ok⟩, by omega⟩
          · skip
            simp -implicitDefEqProofs only [sims.1, fx.1, keeps.1, tick_on, faddrK, Nat.reduceAdd, Nat.reduceEqDiff, Nat.reduceLeDiff, ltNat, d2, ib, acp, acl, sp3, storeK_agg, hM, hS, ac0, ac1, e0, e1, e2]
            have no : okA r.l[i][j] = false := by
              unfold okA
              simp only [e0, e1, e2, Bool.not_false, Bool.not_true, Bool.and_false, Bool.false_and]
            exact ans_ret (by rw [fair_stop hi hj no])
        · skip
          simp -implicitDefEqProofs only [sims.1, fx.1, keeps.1, tick_on, faddrK, Nat.reduceAdd, Nat.reduceEqDiff, Nat.reduceLeDiff, ltNat, d2, ib, acp, acl, sp3, storeK_agg, hM, hS, ac0, e0, e1]
          have no : okA r.l[i][j] = false := by
            unfold okA
            simp only [e0, e1, Bool.not_false, Bool.not_true, Bool.and_false, Bool.false_and]
          exact ans_ret (by rw [fair_stop hi hj no])
      · skip
        simp -implicitDefEqProofs only [sims.1, fx.1, keeps.1, tick_on, faddrK, Nat.reduceAdd, Nat.reduceEqDiff, Nat.reduceLeDiff, ltNat, d2, ib, acp, acl, sp3, storeK_agg, hM, hS, ac0, e0]
        have no : okA r.l[i][j] = false := by
          unfold okA
          simp only [e0, Bool.not_true, Bool.false_and]
        exact ans_ret (by rw [fair_stop hi hj no])
    · obtain rfl : j = r.l[i].length := by omega
      have d2 : decide (r.l[i].length < r.l[i].length) = false := by simp
      simp -implicitDefEqProofs only [sims.1, fx.1, keeps.1, tick_on, Nat.reduceEqDiff, ltNat, d2, w1]
      refine ⟨i + 1, by kernel_rfl, ⟨by omega, fun k hk hk2 => ?_⟩, by omega⟩
      rcases Nat.lt_or_ge k i with h | h
      · exact h2 k hk h
      · obtain rfl : k = i := by omega
        exact row_all fun q hq _ => g2 q hq hq
  · obtain rfl : i = r.l.length := by omega
    have d1 : decide (r.l.length < r.l.length) = false := by simp
    simp -implicitDefEqProofs only [sims.1, fx.1, keeps.1, tick_on, Nat.reduceEqDiff, ltNat, d1]
    exact ans_ret (by rw [fair_go k1 k2 c4 (row_all fun q hq _ => h2 q hq hq)])
set_option maxHeartbeats 8000000 in
theorem ans40 (r : Ru) (hr : wfR r) : Ans Try.prog 40 [.agg (ruC r)] (.bool (fairR r)) := by
  refine Snd_of_W fol rfl rfl (by kernel_rfl) (by kernel_rfl) ?_
  have g0 : ∀ ex : Mem, ([B.var 31 (ruC r)] ++ ex)[0]? = some (.var 31 (ruC r)) := fun _ => rfl
  have r0 : (ruC r)[0]? = some (.int .i64 r.rank) := rfl
  have r1 : partK true 22 (ruC r) 1 = some (mv r.w) := rfl
  have r2 : (ruC r)[23]? = some (cpsV r.l) := rfl
  cases c1 : decide (r.rank < -2147483648)
  rotate_left
  · have : fairR r = false := by
      have h := of_decide_eq_true c1
      have h2 : decide (-2147483648 ≤ r.rank) = false := by simp; omega
      simp [fairR, h2]
    simp -implicitDefEqProofs only [sims.1, fx.1, keeps.1, tick_on, faddrK, Nat.reduceEqDiff, r0, c1]
    exact ans_ret (by rw [this])
  cases c2 : decide (2147483647 < r.rank)
  rotate_left
  · have : fairR r = false := by
      have h := of_decide_eq_true c2
      have h2 : decide (r.rank ≤ 2147483647) = false := by simp; omega
      simp [fairR, h2]
    simp -implicitDefEqProofs only [sims.1, fx.1, keeps.1, tick_on, faddrK, Nat.reduceEqDiff, r0, c1, c2]
    exact ans_ret (by rw [this])
  have k1 : -2147483648 ≤ r.rank := by have := of_decide_eq_false c1; omega
  have k2 : r.rank ≤ 2147483647 := by have := of_decide_eq_false c2; omega
  have c3 := chk20 (chk r.w)
  simp -implicitDefEqProofs only [sims.1, fx.1, keeps.1, tick_on, calleeK, faddrK, Nat.reduceEqDiff, r0, r1, c1, c2]
  refine callD_ans (ans68 r.w hr.2.1) en68 (by unfold mv; simp only [nfs, nf, mC, nfs_cl, Bool.and_self]) rfl ?_
  cases c4 : chk r.w
  · rw [c4] at c3
    have : fairR r = false := by simp [fairR, c4]
    simp -implicitDefEqProofs only [sims.1, fx.1, keeps.1, tick_on, Nat.reduceEqDiff, c3]
    exact ans_ret (by rw [this])
  rw [c4] at c3
  have hll : r.l.length < 281474976710656 := hr.2.2.1.1
  have lnl : ∀ M, lenV Try.prog M 29 (cpsV r.l) = some (.int .i64 (r.l.length : Int)) := fun M => by unfold cpsV; rw [lni29, List.length_map]
  simp -implicitDefEqProofs only [sims.1, keeps.1, tick_on, Nat.reduceEqDiff]
  refine W_loopM (fun i : Nat => [(1, V.ptr 0 0), (3, V.int .i64 (i : Int))]) (fun i M => M[0]? = some (.var 31 (ruC r)) ∧ i ≤ r.l.length ∧ ∀ k, (hk : k < r.l.length) → k < i → ∀ a ∈ r.l[k], okA a = true) (fun i => r.l.length + 1 - i) 0 (by kernel_rfl) ⟨rfl, by omega, fun k hk h => by omega⟩ ?_
  rintro i M ⟨h0, h1, h2⟩
  rcases Nat.lt_or_ge i r.l.length with hi | hi
  · have d1 : decide (i < r.l.length) = true := by simpa using hi
    have w1 := add1N i (by omega)
    have hcl : r.l[i].length < 281474976710656 := (hr.2.2.1.2 _ (List.getElem_mem hi)).1
    have lnc : ∀ M, lenV Try.prog M 99 (cpV r.l[i]) = some (.int .i64 (r.l[i].length : Int)) := fun M => by unfold cpV; rw [lni99, List.length_map]
    have ia : ∀ {kk : IntKind}, iaddrS 1 (cpsV r.l) (.int kk (i : Int)) = some (.ip [cpV r.l[i]]) := fun {kk} => iaddrS_isl (by simp [hi])
    have at0 : ([cpV r.l[i]] : List V)[0]? = some (cpV r.l[i]) := rfl
    simp -implicitDefEqProofs only [sims.1, fx.1, keeps.1, tick_on, faddrK, Nat.reduceEqDiff, ltNat, d1, lnl, h0, r2]
    refine W_loopM (fun j : Nat => [(4, V.int .i64 (j : Int)), (3, V.int .i64 (i : Int)), (1, V.ptr 0 0)]) (fun j M => M[0]? = some (.var 31 (ruC r)) ∧ j ≤ r.l[i].length ∧ ∀ k, (hk : k < r.l[i].length) → k < j → okA r.l[i][k] = true) (fun j => r.l[i].length + 1 - j) 0 (by kernel_rfl) ⟨by first | exact h0 | trivial, by omega, fun k hk h => by omega⟩ ?_
    rintro j M ⟨h0, g1, g2⟩
    rcases Nat.lt_or_ge j r.l[i].length with hj | hj
    · have d2 : decide (j < r.l[i].length) = true := by simpa using hj
      have w2 := add1N j (by omega)
      have ib : ∀ {kk : IntKind}, iaddrS 3 (cpV r.l[i]) (.int kk (j : Int)) = some (.ip (acC r.l[i][j])) := fun {kk} => iaddrS_isl (by simp [hj])
      have e6c := eqC0 r.l[i][j].n
      have hM : ∀ (b : B), (M ++ [b])[M.length]? = some b := fun b => at_app0
      have hS : ∀ (b b' : B), (M ++ [b]).set M.length b' = M ++ [b'] := fun b b' => set_app0 b'
      have eM : ∀ ex : Mem, (M ++ ex)[0]? = some (.var 31 (ruC r)) := fun ex => by rw [List.getElem?_append_left (List.getElem?_eq_some_iff.1 h0).1]; exact h0
      cases e0 : decide (r.l[i][j].d < 0)
      · skip
        cases e1 : decide (2 < r.l[i][j].d)
        · skip
          cases e2 : decide (r.l[i][j].f < 0)
          · skip
            cases e3 : decide (r.l[i][j].d = 0)
            · skip
              cases e4 : decide (r.l[i][j].f = 0)
              · skip
                simp -implicitDefEqProofs only [sims.1, fx.1, keeps.1, tick_on, faddrK, Nat.reduceAdd, Nat.reduceEqDiff, Nat.reduceLeDiff, ltNat, d2, lnc, ia, ib, acp, acl, sp3, storeK_agg, hM, hS, ac0, ac1, h0, r2, e0, e1, e2, e3, e4]
                have no : okA r.l[i][j] = false := by
                  unfold okA
                  simp only [e0, e1, e2, e3, e4, Bool.not_false, Bool.or_self, Bool.and_false, Bool.false_and]
                exact ans_ret (by rw [fair_stop hi hj no])
              · skip
                cases e5 : decide (r.l[i][j].d = 2)
                · skip
                  simp -implicitDefEqProofs only [sims.1, fx.1, keeps.1, tick_on, faddrK, Nat.reduceAdd, Nat.reduceEqDiff, Nat.reduceLeDiff, ltNat, d2, lnc, ia, ib, acp, acl, sp3, storeK_agg, hM, hS, ac0, ac1, w2, eM, h0, r2, e0, e1, e2, e3, e4, e5]
                  have ok : okA r.l[i][j] = true := by
                    unfold okA
                    simp only [e0, e1, e2, e3, e4, e5, Bool.not_false, Bool.or_true, Bool.false_and, Bool.and_self]
                  exact ⟨j + 1, by kernel_rfl, ⟨by first | exact eM _ | trivial, by omega, fun k hk hk2 => by
                    rcases Nat.lt_or_ge k j with h | h
                    · exact g2 k hk h
                    · obtain rfl : k = j := by omega
                      exact ok⟩, by omega⟩
                · skip
                  cases e6 : decide (r.l[i][j].n = 0)
                  · rw [e6] at e6c
                    simp -implicitDefEqProofs only [sims.1, fx.1, keeps.1, tick_on, faddrK, Nat.reduceAdd, Nat.reduceEqDiff, Nat.reduceLeDiff, ltNat, d2, lnc, ia, ib, acp, acl, sp3, storeK_agg, hM, hS, ac0, ac1, ac2, h0, r2, e0, e1, e2, e3, e4, e5, e6c]
                    have no : okA r.l[i][j] = false := by
                      unfold okA
                      simp only [e0, e1, e2, e3, e4, e5, e6, Bool.not_false, Bool.not_true, Bool.or_true, Bool.and_false, Bool.and_self]
                    exact ans_ret (by rw [fair_stop hi hj no])
                  · rw [e6] at e6c
                    simp -implicitDefEqProofs only [sims.1, fx.1, keeps.1, tick_on, faddrK, Nat.reduceAdd, Nat.reduceEqDiff, Nat.reduceLeDiff, ltNat, d2, lnc, ia, ib, acp, acl, sp3, storeK_agg, hM, hS, ac0, ac1, ac2, w2, eM, h0, r2, e0, e1, e2, e3, e4, e5, e6c]
                    have ok : okA r.l[i][j] = true := by
                      unfold okA
                      simp only [e0, e1, e2, e3, e4, e5, e6, Bool.not_false, Bool.not_true, Bool.or_true, Bool.and_false, Bool.and_self]
                    exact ⟨j + 1, by kernel_rfl, ⟨by first | exact eM _ | trivial, by omega, fun k hk hk2 => by
                      rcases Nat.lt_or_ge k j with h | h
                      · exact g2 k hk h
                      · obtain rfl : k = j := by omega
                        exact ok⟩, by omega⟩
            · skip
              cases e5 : decide (r.l[i][j].d = 2)
              · skip
                simp -implicitDefEqProofs only [sims.1, fx.1, keeps.1, tick_on, faddrK, Nat.reduceAdd, Nat.reduceEqDiff, Nat.reduceLeDiff, ltNat, d2, lnc, ia, ib, acp, acl, sp3, storeK_agg, hM, hS, ac0, ac1, w2, eM, h0, r2, e0, e1, e2, e3, e5]
                have ok : okA r.l[i][j] = true := by
                  unfold okA
                  simp only [e0, e1, e2, e3, e5, Bool.not_false, Bool.true_or, Bool.false_and, Bool.and_self]
                exact ⟨j + 1, by kernel_rfl, ⟨by first | exact eM _ | trivial, by omega, fun k hk hk2 => by
                  rcases Nat.lt_or_ge k j with h | h
                  · exact g2 k hk h
                  · obtain rfl : k = j := by omega
                    exact ok⟩, by omega⟩
              · skip
                cases e6 : decide (r.l[i][j].n = 0)
                · rw [e6] at e6c
                  simp -implicitDefEqProofs only [sims.1, fx.1, keeps.1, tick_on, faddrK, Nat.reduceAdd, Nat.reduceEqDiff, Nat.reduceLeDiff, ltNat, d2, lnc, ia, ib, acp, acl, sp3, storeK_agg, hM, hS, ac0, ac1, ac2, h0, r2, e0, e1, e2, e3, e5, e6c]
                  have no : okA r.l[i][j] = false := by
                    unfold okA
                    simp only [e0, e1, e2, e3, e5, e6, Bool.not_false, Bool.not_true, Bool.true_or, Bool.and_false, Bool.and_self]
                  exact ans_ret (by rw [fair_stop hi hj no])
                · rw [e6] at e6c
                  simp -implicitDefEqProofs only [sims.1, fx.1, keeps.1, tick_on, faddrK, Nat.reduceAdd, Nat.reduceEqDiff, Nat.reduceLeDiff, ltNat, d2, lnc, ia, ib, acp, acl, sp3, storeK_agg, hM, hS, ac0, ac1, ac2, w2, eM, h0, r2, e0, e1, e2, e3, e5, e6c]
                  have ok : okA r.l[i][j] = true := by
                    unfold okA
                    simp only [e0, e1, e2, e3, e5, e6, Bool.not_false, Bool.not_true, Bool.true_or, Bool.and_false, Bool.and_self]
                  exact ⟨j + 1, by kernel_rfl, ⟨by first | exact eM _ | trivial, by omega, fun k hk hk2 => by
                    rcases Nat.lt_or_ge k j with h | h
                    · exact g2 k hk h
                    · obtain rfl : k = j := by omega
                      exact ok⟩, by omega⟩
          · skip
            simp -implicitDefEqProofs only [sims.1, fx.1, keeps.1, tick_on, faddrK, Nat.reduceAdd, Nat.reduceEqDiff, Nat.reduceLeDiff, ltNat, d2, lnc, ia, ib, acp, acl, sp3, storeK_agg, hM, hS, ac0, ac1, h0, r2, e0, e1, e2]
            have no : okA r.l[i][j] = false := by
              unfold okA
              simp only [e0, e1, e2, Bool.not_false, Bool.not_true, Bool.and_false, Bool.false_and]
            exact ans_ret (by rw [fair_stop hi hj no])
        · skip
          simp -implicitDefEqProofs only [sims.1, fx.1, keeps.1, tick_on, faddrK, Nat.reduceAdd, Nat.reduceEqDiff, Nat.reduceLeDiff, ltNat, d2, lnc, ia, ib, acp, acl, sp3, storeK_agg, hM, hS, ac0, h0, r2, e0, e1]
          have no : okA r.l[i][j] = false := by
            unfold okA
            simp only [e0, e1, Bool.not_false, Bool.not_true, Bool.and_false, Bool.false_and]
          exact ans_ret (by rw [fair_stop hi hj no])
      · skip
        simp -implicitDefEqProofs only [sims.1, fx.1, keeps.1, tick_on, faddrK, Nat.reduceAdd, Nat.reduceEqDiff, Nat.reduceLeDiff, ltNat, d2, lnc, ia, ib, acp, acl, sp3, storeK_agg, hM, hS, ac0, h0, r2, e0]
        have no : okA r.l[i][j] = false := by
          unfold okA
          simp only [e0, Bool.not_true, Bool.false_and]
        exact ans_ret (by rw [fair_stop hi hj no])
    · obtain rfl : j = r.l[i].length := by omega
      have d2 : decide (r.l[i].length < r.l[i].length) = false := by simp
      simp -implicitDefEqProofs only [sims.1, fx.1, keeps.1, tick_on, faddrK, Nat.reduceEqDiff, ltNat, d2, lnc, ia, w1, h0, r2]
      refine ⟨i + 1, by kernel_rfl, ⟨by first | exact h0 | trivial, by omega, fun k hk hk2 => ?_⟩, by omega⟩
      rcases Nat.lt_or_ge k i with h | h
      · exact h2 k hk h
      · obtain rfl : k = i := by omega
        exact row_all fun q hq _ => g2 q hq hq
  · obtain rfl : i = r.l.length := by omega
    have d1 : decide (r.l.length < r.l.length) = false := by simp
    simp -implicitDefEqProofs only [sims.1, fx.1, keeps.1, tick_on, faddrK, Nat.reduceEqDiff, ltNat, d1, lnl, h0, r2]
    exact ans_ret (by rw [fair_go k1 k2 c4 (row_all fun q hq _ => h2 q hq hq)])
end Go.Proofs.Ytjjenpdjmcmgbaa
