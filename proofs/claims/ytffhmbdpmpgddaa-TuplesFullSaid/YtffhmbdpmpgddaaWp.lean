/- A rule is dropped. No condition. -/
import Derived.Test.YtffhmbdpmpgddaaWo
namespace Go.Proofs.Ytffhmbdpmpgddaa
open Go Ab
set_option linter.unusedSimpArgs false
set_option linter.unusedVariables false
set_option maxRecDepth 20000

set_option maxHeartbeats 1000000 in
theorem snd28 {m : Mem} {x : Rw} {b : Nat} {r : Ru} (hx : m[x.r]? = some (.var 61 (rwC x))) (hb : m[b]? = some (.var 32 (ruC r))) (hm : U64 11 x.mask) (hr : U64 22 r.w) : Snd Try.prog 28 [.ptr x.r 0, .ptr b 0] m fun q => q = .ret (.bool (eqH x.mask (ruM r))) m := by
  refine Snd_of_W fol rfl rfl (by kernel_rfl) (by kernel_rfl) ?_
  have p1 : partK true 11 (rwC x) 0 = some (.agg (hC x.mask)) := rfl
  have p2 : partK true 11 (ruC r) 12 = some (.agg (hC (ruM r))) := rfl
  have e := eq25 x.mask (ruM r) hm (fun i hi => hr _ (by omega))
  simp -implicitDefEqProofs only [sims.1, fx.1, keeps.1, tick_on, calleeK, extractV, oneV, faddrK, nonnil, b_shr, b_shl, fieldK, Nat.reduceAdd, Nat.reduceMul, Nat.reduceSub, Nat.reduceEqDiff, Nat.reduceLT, Nat.reduceLeDiff, Nat.reduceBEq, Nat.reduceBNe, reduceIte, Int.reduceEq, Int.reduceLT, Int.reduceLE, Int.reduceNe, Int.reduceToNat]
  refine w_quiet ?_
  simp -implicitDefEqProofs only [sims.1, fx.1, keeps.1, tick_on, calleeK, extractV, oneV, faddrK, nonnil, b_shr, b_shl, fieldK, Nat.reduceAdd, Nat.reduceMul, Nat.reduceSub, Nat.reduceEqDiff, Nat.reduceLT, Nat.reduceLeDiff, Nat.reduceBEq, Nat.reduceBNe, reduceIte, Int.reduceEq, Int.reduceLT, Int.reduceLE, Int.reduceNe, Int.reduceToNat, hx, hb, p1, p2, e]
set_option maxHeartbeats 1000000 in
theorem snd19d {m : Mem} {p b : Nat} {T : Tbl} {r : Ru} (h : TB m p T) (hb : m[b]? = some (.var 32 (ruC r))) (hm : ∀ x ∈ T.rows, U64 11 x.mask) (hr : U64 22 r.w) (hl : T.rows.length < 1000000) :
    Snd Try.prog 19 [rowsV T, .fn 28 [] [.ptr b 0]] m fun q => q = .ret (.int .i64 (fndR (ruM r) T.rows 0)) m := by
  refine Snd_of_W fol rfl rfl (by kernel_rfl) (by kernel_rfl) ?_
  have lv := h.lenR
  simp -implicitDefEqProofs only [sims.1, fx.1, keeps.1, tick_on, calleeK, extractV, oneV, faddrK, nonnil, b_shr, b_shl, fieldK, Nat.reduceAdd, Nat.reduceMul, Nat.reduceSub, Nat.reduceEqDiff, Nat.reduceLT, Nat.reduceLeDiff, Nat.reduceBEq, Nat.reduceBNe, reduceIte, Int.reduceEq, Int.reduceLT, Int.reduceLE, Int.reduceNe, Int.reduceToNat, lv]
  refine W_loopM (fun j : Nat => [(7, .int .i64 (T.rows.length : Int)), (1, .fn 28 [] [.ptr b 0]), (0, rowsV T), (8, .int .i64 (j : Int))])
    (fun j mm => j ≤ T.rows.length ∧ (∀ x ∈ T.rows.take j, eqH x.mask (ruM r) = false) ∧ mm = m) (fun j => T.rows.length - j) 0 (by kernel_rfl) ⟨Nat.zero_le _, fun x hx => by simp at hx, rfl⟩ ?_
  rintro j mm ⟨hj, hall, rfl⟩
  rcases Nat.lt_or_ge j T.rows.length with h1 | h1
  · have c1 : decide (j < T.rows.length) = true := by simpa using h1
    have c7 := wrap_i64s j (by omega)
    have hne : T.rows ≠ [] := fun e => by rw [e] at h1; exact absurd h1 (Nat.not_lt_zero _)
    have rv := h.rv hne
    have i1 : ∀ {kk : IntKind}, iaddrS 1 (.sl 1 T.q 0 T.rows.length) (.int kk (j : Int)) = some (.ep 1 T.q j 0) := fun {_} => by rw [iaddrS_sl h1, Nat.zero_add]
    have l1 : loadK false 1 mm (.ep 1 T.q j 0) = some (.ptr T.rows[j].r 0) := by
      rw [loadK_ep, h.tq (h.nn hne)]
      have : (T.rows.map fun x => [V.ptr x.r 0])[j]? = some [V.ptr T.rows[j].r 0] := by simp [h1]
      simp only [Option.bind_some, if_true, this]
      rfl
    have hx := h.tr _ (List.getElem_mem h1)
    simp -implicitDefEqProofs only [sims.1, fx.1, keeps.1, tick_on, calleeK, extractV, oneV, faddrK, nonnil, b_shr, b_shl, fieldK, Nat.reduceAdd, Nat.reduceMul, Nat.reduceSub, Nat.reduceEqDiff, Nat.reduceLT, Nat.reduceLeDiff, Nat.reduceBEq, Nat.reduceBNe, reduceIte, Int.reduceEq, Int.reduceLT, Int.reduceLE, Int.reduceNe, Int.reduceToNat, ltNat, c1, rv, i1, l1]
    refine callD_all (snd28 hx.r hb (hm _ (List.getElem_mem h1)) hr) en28 ?_
    cases e : eqH T.rows[j].mask (ruM r)
    · simp -implicitDefEqProofs only [sims.1, fx.1, keeps.1, tick_on, calleeK, extractV, oneV, faddrK, nonnil, b_shr, b_shl, fieldK, Nat.reduceAdd, Nat.reduceMul, Nat.reduceSub, Nat.reduceEqDiff, Nat.reduceLT, Nat.reduceLeDiff, Nat.reduceBEq, Nat.reduceBNe, reduceIte, Int.reduceEq, Int.reduceLT, Int.reduceLE, Int.reduceNe, Int.reduceToNat, e, c7]
      refine ⟨j + 1, by rw [rv]; kernel_rfl, ⟨h1, fun x hx => ?_, by trivial⟩, by omega⟩
      rw [List.take_add_one, List.getElem?_eq_getElem h1] at hx
      rcases List.mem_append.1 hx with hx | hx
      · exact hall x hx
      · simp at hx
        subst hx
        exact e
    · simp -implicitDefEqProofs only [sims.1, fx.1, keeps.1, tick_on, calleeK, extractV, oneV, faddrK, nonnil, b_shr, b_shl, fieldK, Nat.reduceAdd, Nat.reduceMul, Nat.reduceSub, Nat.reduceEqDiff, Nat.reduceLT, Nat.reduceLeDiff, Nat.reduceBEq, Nat.reduceBNe, reduceIte, Int.reduceEq, Int.reduceLT, Int.reduceLE, Int.reduceNe, Int.reduceToNat, e]
      rw [fndR_drop hall, List.drop_eq_getElem_cons h1]
      simp only [fndR, e, cond_true, Nat.zero_add]
  · have c1 : decide (j < T.rows.length) = false := by simpa using h1
    simp -implicitDefEqProofs only [sims.1, fx.1, keeps.1, tick_on, calleeK, extractV, oneV, faddrK, nonnil, b_shr, b_shl, fieldK, Nat.reduceAdd, Nat.reduceMul, Nat.reduceSub, Nat.reduceEqDiff, Nat.reduceLT, Nat.reduceLeDiff, Nat.reduceBEq, Nat.reduceBNe, reduceIte, Int.reduceEq, Int.reduceLT, Int.reduceLE, Int.reduceNe, Int.reduceToNat, ltNat, c1]
    rw [fndR_drop hall, List.drop_eq_nil_of_le h1]
    rfl


/-- A row is taken out. -/
theorem TB.del {m m' : Mem} {p : Nat} {T : Tbl} {i : Nat} {x : Rw} (h : TB m p T) (hi : T.rows[i]? = some x) (hp : m'[p]? = some (.var 55 (tbC { T with rows := T.rows.eraseIdx i })))
    (hq : m'[T.q]? = some (.row 58 1 ((T.rows.eraseIdx i).map fun x => [.ptr x.r 0]))) (hk : ∀ k ∈ posT p T, k ∉ posR x → k ≠ p → k ≠ T.q → m'[k]? = m[k]?) : TB m' p { T with rows := T.rows.eraseIdx i } := by
  have hxm := List.mem_of_getElem? hi
  have hnn := h.nn (List.ne_nil_of_mem hxm)
  obtain ⟨e1, e2, e3⟩ := posT_p h
  obtain ⟨f1, f2, f3⟩ := posT_pq h hnn
  obtain ⟨hilt, hie⟩ := List.getElem?_eq_some_iff.1 hi
  obtain ⟨A, C, hAC, hAl⟩ : ∃ A C, T.rows = A ++ x :: C ∧ A.length = i := by
    refine ⟨T.rows.take i, T.rows.drop (i + 1), ?_, by simp; omega⟩
    rw [← hie, ← List.drop_eq_getElem_cons hilt, List.take_append_drop]
  have hers : T.rows.eraseIdx i = A ++ C := by
    rw [hAC, ← hAl, List.eraseIdx_append_of_length_le (Nat.le_refl _), Nat.sub_self]
    rfl
  have hmem : ∀ y, y ∈ T.rows.eraseIdx i → y ∈ T.rows := fun y hy => List.mem_of_mem_eraseIdx hy
  have hdis : ∀ y, y ∈ T.rows.eraseIdx i → ∀ k ∈ posR y, k ∉ posR x := by
    intro y hy
    rw [hers] at hy
    rw [hAC] at e3
    simp only [List.flatMap_append, List.flatMap_cons, List.nodup_append, List.mem_append] at e3 hy
    obtain ⟨_, ⟨_, _, g1⟩, g2⟩ := e3
    rcases hy with hy | hy
    · intro k hk hkx
      exact g2 k (List.mem_flatMap.2 ⟨y, hy, hk⟩) k (.inl hkx) rfl
    · intro k hk hkx
      exact g1 k hkx k (List.mem_flatMap.2 ⟨y, hy, hk⟩) rfl
  refine ⟨hp, h.ta.of (hk _ (by simp [posT]) (fun hh => (e2 x hxm _ hh).2 rfl) (Ne.symm e1) f2), fun _ => hq, fun y hy => (h.tr y (hmem y hy)).of fun k hky => hk k (mem_posT (hmem y hy) hky) (hdis y hy k hky) (e2 y (hmem y hy) k hky).1 (f3 y (hmem y hy) k hky), ?_, fun e => by rw [hnn] at e; cases e⟩
  have hnd := h.nd
  unfold posT at hnd ⊢
  refine hnd.sublist (List.Sublist.cons_cons _ (List.Sublist.cons_cons _ (List.Sublist.append (List.Sublist.refl _) ?_)))
  simp only
  rw [hers, hAC, List.flatMap_append, List.flatMap_append, List.flatMap_cons]
  exact List.Sublist.append (List.Sublist.refl _) (List.sublist_append_right _ _)
end Go.Proofs.Ytffhmbdpmpgddaa
