/- What is told between two lists of rules: the program's walk. No condition. -/
import Derived.Test.YtggdnepfahknbaaYm
namespace Go.Proofs.Ytggdnepfahknbaa
open Go Ab
set_option linter.unusedSimpArgs false
set_option linter.unusedVariables false
set_option maxRecDepth 20000

/-- What stays beneath all that is laid. -/
structure Base (was now : List Ru) (n1 n2 q1 q2 : Nat) (m : Mem) : Prop where
  a : isMap m n1 ((nowP was).map enP)
  b : isMap m n2 ((nowP now).map enP)
  c : OrdR m q1 (lastL was)
  d : OrdR m q2 (lastL now)
theorem Base.of {was now : List Ru} {n1 n2 q1 q2 : Nat} {m m' : Mem} (h : Base was now n1 n2 q1 q2 m) (hk : Kp m m') : Base was now n1 n2 q1 q2 m' where
  a := h.a.of (hk.2 _ h.a.lt)
  b := h.b.of (hk.2 _ h.b.lt)
  c := fun hn => by have := h.c hn; rw [hk.2 _ (List.getElem?_eq_some_iff.1 this).1]; exact this
  d := fun hn => by have := h.d hn; rw [hk.2 _ (List.getElem?_eq_some_iff.1 this).1]; exact this
theorem p0P (r : Ru) : (plC r)[0]? = some (.int .i64 r.rank) := rfl
theorem pMP (r : Ru) : partK true 22 (plC r) 1 = some (.agg (mC r.w)) := rfl
theorem pPP (r : Ru) : partK true 23 (plC r) 0 = some (.agg (plC r)) := rfl
theorem ia_ord {o : List Ru} {q i : Nat} {k : IntKind} (h : i < o.length) : iaddrS 23 (oV o.length q) (.int k (i : Int)) = some (.ep 23 q i 0) := by
  rw [oV_pos (by omega)]
  exact row_ia h
theorem ld_ord {m : Mem} {o : List Ru} {q i : Nat} (h : OrdR m q o) (hi : i < o.length) : loadK true 23 m (.ep 23 q i 0) = some (.agg (plC o[i])) := by
  have := h (List.ne_nil_of_length_pos (by omega))
  rw [loadK_ep, this]
  simp [hi, pPP]
def oC : Option Ru → List V
  | none => zR
  | some r => ruC r
theorem oC_len : ∀ o, (oC o).length = 25
  | none => rfl
  | some _ => rfl
theorem look_now {t : TypeId} (hu : Try.prog.underlying t = some (.map 54 36)) {m : Mem} {n : Nat} {l : List Ru} {r : Ru} (h : isMap m n ((nowP l).map enP)) (hr : wfR r) (hw : ∀ r ∈ l, wfR r) (ok : Bool) :
    lookupV Try.prog t m (.mp n) (.agg (plC r)) ok = some (bif ok then .tup [.agg (oC (l.reverse.find? (pl r))), .bool (l.any (pl r))] else .agg (oC (l.reverse.find? (pl r)))) := by
  have lk := look_pl hu z36 h hr (nowP_wf l hw) ok
  rw [nowP_get] at lk
  rw [lk, ← find_any]
  cases l.reverse.find? (pl r) <;> rfl
theorem st_mid {mm : Mem} {n : Nat} {r : Ru} {c v : V} (h0 : mm[n]? = some (.var 36 (midR r c))) (h : cellsOfV v = [v]) (hb : cellsB v = true) : storeK 1 mm (.ptr n 23) v = some (mm.set n (.var 36 (midR r v))) := by
  unfold storeK
  rw [h, if_pos ⟨rfl, hb⟩]
  simp only [h0]
  rw [if_pos (show 23 + [v].length ≤ (midR r c).length from (show 23 + 1 ≤ 25 from by decide))]
  rfl
theorem callD16 {m : Mem} {q : Nat} {l : List Ru} {K Kp' : V → Mem → Prop} (h : RowR m q l) (hl : l.length < 200001) (hk : ∀ v m5, RowR m5 q (ssort ltD l) → (∀ k, k < m.length → k ≠ q → m5[k]? = m[k]?) → m.length ≤ m5.length → K v m5) : callD Try.prog 16 [rV l.length q, .fn 17 [] []] m K Kp' := by
  cases l with
  | nil => exact callD_ans ans16n en16 rfl rfl (hk _ _ (fun h => absurd rfl h) (fun _ _ _ => rfl) (Nat.le_refl _))
  | cons a r =>
    have hm := h (by simp)
    have hq := (List.getElem?_eq_some_iff.1 hm).1
    refine callD_all (snd16 hm hl) en16 (hk _ _ (fun _ => ?_) (fun k hk hn => ?_) (by simp))
    · rw [List.getElem?_set_self (by simp; omega)]
    · rw [List.getElem?_set_ne (Ne.symm hn), List.getElem?_append_left hk]
set_option maxHeartbeats 4000000 in
theorem ans9w (was now : List Ru) (hw1 : ∀ r ∈ was, wfR r) (hw2 : ∀ r ∈ now, wfR r) (hl1 : was.length ≤ 150) (hl2 : now.length ≤ 150) (hc : ∀ r ∈ now, r.l.length ≤ 100 ∧ ∀ c ∈ r.l, c.length ≤ 100) :
    Snd Try.prog 9 [rsV was, rsV now] [] fun r => ∃ m1 q, r = .ret (mV (btw was now).length q) m1 ∧ RowM m1 q (btw was now) := by
  refine Snd_of_W fol rfl rfl (by kernel_rfl) (by kernel_rfl) ?_
  have evn : ∀ env, evO env (.const (.slice none 0 0)) = .nils := fun _ => rfl
  simp -implicitDefEqProofs only [sims.1, fx.1, keeps.1, tick_on, calleeK, extractV, oneV, faddrK, nonnil, b_shr, b_shl, fieldK, Nat.reduceAdd, Nat.reduceMul, Nat.reduceSub, Nat.reduceEqDiff, Nat.reduceLT, Nat.reduceLeDiff, Nat.reduceBEq, Nat.reduceBNe, reduceIte, Int.reduceEq, Int.reduceLT, Int.reduceLE, Int.reduceNe, Int.reduceToNat, evn]
  refine callD_allQ (snd14 was hw1 (by omega) _) en14 ?_
  rintro rr ⟨m1, n1, q1, rfl, e1, e2, e3, e4⟩
  refine ⟨_, _, rfl, ?_⟩
  simp -implicitDefEqProofs only [sims.1, fx.1, keeps.1, tick_on, calleeK, extractV, oneV, faddrK, nonnil, b_shr, b_shl, fieldK, Nat.reduceAdd, Nat.reduceMul, Nat.reduceSub, Nat.reduceEqDiff, Nat.reduceLT, Nat.reduceLeDiff, Nat.reduceBEq, Nat.reduceBNe, reduceIte, Int.reduceEq, Int.reduceLT, Int.reduceLE, Int.reduceNe, Int.reduceToNat]
  refine callD_allQ (snd14 now hw2 (by omega) _) en14 ?_
  rintro rr ⟨m2, n2, q2, rfl, g1, g2, g3, g4⟩
  refine ⟨_, _, rfl, ?_⟩
  have hB : Base was now n1 n2 q1 q2 m2 := ⟨e2.of (g4.2 _ e2.lt), g2, fun hn => by have := e3 hn; rw [g4.2 _ (List.getElem?_eq_some_iff.1 this).1]; exact this, g3⟩
  clear e1 e2 e3 e4 g1 g2 g3 g4
  simp -implicitDefEqProofs only [sims.1, fx.1, keeps.1, tick_on, calleeK, extractV, oneV, faddrK, nonnil, b_shr, b_shl, fieldK, Nat.reduceAdd, Nat.reduceMul, Nat.reduceSub, Nat.reduceEqDiff, Nat.reduceLT, Nat.reduceLeDiff, Nat.reduceBEq, Nat.reduceBNe, reduceIte, Int.reduceEq, Int.reduceLT, Int.reduceLE, Int.reduceNe, Int.reduceToNat, oV_len]
  refine W_loopM (fun x : Nat × (List Me × Nat) => [(35, .int .i64 ((lastL was).length : Int)), (34, oV (lastL was).length q1), (36, .int .i64 (x.1 : Int)), (8, oV (lastL now).length q2), (7, .mp n2), (5, .mp n1), (4, mV x.2.1.length x.2.2)])
    (fun x mm => x.1 ≤ (lastL was).length ∧ x.2.1 = (((lastL was).take x.1).filter fun p => !now.any (pl p)).map (fun p => (⟨3, plR p⟩ : Me)) ∧ x.2.1.length ≤ x.1 ∧ RowM mm x.2.2 x.2.1 ∧ m2.length ≤ x.2.2 ∧ Kp m2 mm) (fun x => (lastL was).length - x.1) (0, ([], m2.length)) (by kernel_rfl) ⟨Nat.zero_le _, rfl, Nat.le_refl _, fun h => absurd rfl h, Nat.le_refl _, Kp.refl _⟩ ?_
  rintro ⟨i, o, q⟩ mm ⟨h1, h2, h3, h4, h5, h6⟩
  simp only at h1 h2 h3 h4 h5 h6
  have hB' := hB.of h6
  have hlw := lastL_len was
  have hln := lastL_len now
  rcases Nat.lt_or_ge i (lastL was).length with hi | hi
  · have c1 : decide (i < (lastL was).length) = true := by simpa using hi
    have w1 := add1N i (by omega)
    have hwi := hw1 _ (lastL_sub (List.getElem_mem hi))
    have l1 := ld_ord hB'.c hi
    have htk : (lastL was).take (i + 1) = (lastL was).take i ++ [(lastL was)[i]] := (List.take_append_getElem hi).symm
    simp -implicitDefEqProofs only [sims.1, fx.1, keeps.1, tick_on, calleeK, extractV, oneV, faddrK, nonnil, b_shr, b_shl, fieldK, Nat.reduceAdd, Nat.reduceMul, Nat.reduceSub, Nat.reduceEqDiff, Nat.reduceLT, Nat.reduceLeDiff, Nat.reduceBEq, Nat.reduceBNe, reduceIte, Int.reduceEq, Int.reduceLT, Int.reduceLE, Int.reduceNe, Int.reduceToNat, ltNat, c1, ia_ord hi, l1, st54n]
    generalize (lastL was)[i] = r at hwi htk ⊢
    have x1 : (mm ++ [B.var 54 (plC r)])[mm.length]? = some (.var 54 (plC r)) := by simp
    have hB2 := hB'.of (Kp.app mm [B.var 54 (plC r)])
    have lk := look_now un49 hB2.b hwi hw2 true
    rw [cond_true] at lk
    have hst := fun (mm : Mem) (z : List V) (hz : z.length = 25) => st25n mm z (oC (now.reverse.find? (pl r))) hz (oC_len _)
    simp -implicitDefEqProofs only [sims.1, fx.1, keeps.1, tick_on, calleeK, extractV, oneV, faddrK, nonnil, b_shr, b_shl, fieldK, Nat.reduceAdd, Nat.reduceMul, Nat.reduceSub, Nat.reduceEqDiff, Nat.reduceLT, Nat.reduceLeDiff, Nat.reduceBEq, Nat.reduceBNe, reduceIte, Int.reduceEq, Int.reduceLT, Int.reduceLE, Int.reduceNe, Int.reduceToNat, x1, lk, pPP, hst]
    have x2 : (mm ++ [B.var 54 (plC r)] ++ [B.var 36 (oC (now.reverse.find? (pl r)))])[mm.length]? = some (.var 54 (plC r)) := by simp
    have k2 : Kp mm (mm ++ [B.var 54 (plC r)] ++ [B.var 36 (oC (now.reverse.find? (pl r)))]) := (Kp.app _ _).trans (Kp.app _ _)
    replace h4 : RowM (mm ++ [B.var 54 (plC r)] ++ [B.var 36 (oC (now.reverse.find? (pl r)))]) q o := fun hn => by
      have := h4 hn
      rw [k2.2 _ (List.getElem?_eq_some_iff.1 this).1]; exact this
    have h6' := h6.trans k2
    generalize mm ++ [B.var 54 (plC r)] ++ [B.var 36 (oC (now.reverse.find? (pl r)))] = M at x2 k2 h4 h6' ⊢
    cases e : now.any (pl r)
    · obtain ⟨M2, a1, a2, a3, a4⟩ := app_me ⟨3, plR r⟩ h4 (by omega)
      have bs := bs26 (x := ⟨3, plR r⟩) (m := M) (m' := M) (frzQ_45 (frzL_nf M (nfs_meN ⟨3, plR r⟩)))
      simp -implicitDefEqProofs only [sims.1, fx.1, keeps.1, tick_on, calleeK, extractV, oneV, faddrK, nonnil, b_shr, b_shl, fieldK, Nat.reduceAdd, Nat.reduceMul, Nat.reduceSub, Nat.reduceEqDiff, Nat.reduceLT, Nat.reduceLeDiff, Nat.reduceBEq, Nat.reduceBNe, reduceIte, Int.reduceEq, Int.reduceLT, Int.reduceLE, Int.reduceNe, Int.reduceToNat, x2, p0P, pMP, b36, b45r, bs, a1, w1]
      refine ⟨(i + 1, (o ++ [⟨3, plR r⟩], M.length + 1)), ?_, ⟨hi, ?_, ?_, a3, ?_, Nat.le_trans h6'.1 (by omega), fun k hk => ?_⟩, by simp only; omega⟩
      · simp only [List.length_append, List.length_cons, List.length_nil]
        kernel_rfl
      · rw [htk, h2, List.filter_append, List.map_append]
        simp [e]
      · simp only [List.length_append, List.length_cons, List.length_nil]; omega
      · have := h6'.1; simp only; omega
      · rw [a4 k (by have := h6'.1; omega) (.inl (by omega))]
        exact h6'.2 k hk
    · simp -implicitDefEqProofs only [sims.1, fx.1, keeps.1, tick_on, calleeK, extractV, oneV, faddrK, nonnil, b_shr, b_shl, fieldK, Nat.reduceAdd, Nat.reduceMul, Nat.reduceSub, Nat.reduceEqDiff, Nat.reduceLT, Nat.reduceLeDiff, Nat.reduceBEq, Nat.reduceBNe, reduceIte, Int.reduceEq, Int.reduceLT, Int.reduceLE, Int.reduceNe, Int.reduceToNat, w1]
      refine ⟨(i + 1, (o, q)), by kernel_rfl, ⟨hi, ?_, by simp only; omega, h4, h5, h6'⟩, by simp only; omega⟩
      rw [htk, h2, List.filter_append, List.map_append]
      simp [e]
  · have c1 : decide (i < (lastL was).length) = false := by simpa using hi
    obtain rfl : i = (lastL was).length := by omega
    rw [List.take_length] at h2
    simp -implicitDefEqProofs only [sims.1, fx.1, keeps.1, tick_on, calleeK, extractV, oneV, faddrK, nonnil, b_shr, b_shl, fieldK, Nat.reduceAdd, Nat.reduceMul, Nat.reduceSub, Nat.reduceEqDiff, Nat.reduceLT, Nat.reduceLeDiff, Nat.reduceBEq, Nat.reduceBNe, reduceIte, Int.reduceEq, Int.reduceLT, Int.reduceLE, Int.reduceNe, Int.reduceToNat, ltNat, c1, evn, oV_len]
    have hor : o = remL was now := h2
    clear h2 h1 hi c1
    refine W_loopM (fun x : Nat × (List Ru × Nat) => [(59, .int .i64 ((lastL now).length : Int)), (58, oV (lastL now).length q2), (7, .mp n2), (5, .mp n1), (60, .int .i64 (x.1 : Int)), (13, rV x.2.1.length x.2.2), (4, mV o.length q)])
      (fun x m4 => x.1 ≤ (lastL now).length ∧ x.2.1 = ((lastL now).take x.1).filter (fun r => !(lastL was).any (alk r)) ∧ x.2.1.length ≤ x.1 ∧ RowR m4 x.2.2 x.2.1 ∧ mm.length ≤ x.2.2 ∧ Kp mm m4) (fun x => (lastL now).length - x.1) (0, ([], mm.length)) (by kernel_rfl) ⟨Nat.zero_le _, rfl, Nat.le_refl _, fun h => absurd rfl h, Nat.le_refl _, Kp.refl _⟩ ?_
    rintro ⟨i, o2, qr⟩ m4 ⟨i1, i2, i3, i4, i5, i6⟩
    simp only at i1 i2 i3 i4 i5 i6
    have hB4 := hB'.of i6
    rcases Nat.lt_or_ge i (lastL now).length with hi | hi
    · have c1 : decide (i < (lastL now).length) = true := by simpa using hi
      have w1 := add1N i (by omega)
      have hmi := List.getElem_mem hi
      have hwi := hw2 _ (lastL_sub hmi)
      have l1 := ld_ord hB4.d hi
      have htk : (lastL now).take (i + 1) = (lastL now).take i ++ [(lastL now)[i]] := (List.take_append_getElem hi).symm
      have hsi := hc _ (lastL_sub hmi)
      simp -implicitDefEqProofs only [sims.1, fx.1, keeps.1, tick_on, calleeK, extractV, oneV, faddrK, nonnil, b_shr, b_shl, fieldK, Nat.reduceAdd, Nat.reduceMul, Nat.reduceSub, Nat.reduceEqDiff, Nat.reduceLT, Nat.reduceLeDiff, Nat.reduceBEq, Nat.reduceBNe, reduceIte, Int.reduceEq, Int.reduceLT, Int.reduceLE, Int.reduceNe, Int.reduceToNat, ltNat, c1, ia_ord hi, l1, st54n]
      generalize (lastL now)[i] = r at hmi hwi htk hsi ⊢
      have x1 : (m4 ++ [B.var 54 (plC r)])[m4.length]? = some (.var 54 (plC r)) := by simp
      have lk := look_now un49 (hB4.of (Kp.app m4 [B.var 54 (plC r)])).b hwi hw2 false
      rw [lastL_find hmi, cond_false] at lk
      have st1 : ∀ (mm : Mem) (z : List V), z.length = 25 → storeK 25 (mm ++ [.var 36 z]) (.ptr mm.length 0) (.agg (oC (some r))) = some (mm ++ [.var 36 (ruC r)]) := fun mm z hz => st25n mm z (ruC r) hz rfl
      have x2 : (m4 ++ [B.var 54 (plC r)] ++ [B.var 36 (ruC r)])[m4.length]? = some (.var 54 (plC r)) := by simp
      have k2 : Kp m4 (m4 ++ [B.var 54 (plC r)] ++ [B.var 36 (ruC r)]) := (Kp.app _ _).trans (Kp.app _ _)
      have lk2 := look_now un49 (hB4.of k2).a hwi hw1 true
      rw [cond_true] at lk2
      have st2 := fun (mm : Mem) (z : List V) (hz : z.length = 25) => st25n mm z (oC (was.reverse.find? (pl r))) hz (oC_len _)
      simp -implicitDefEqProofs only [sims.1, fx.1, keeps.1, tick_on, calleeK, extractV, oneV, faddrK, nonnil, b_shr, b_shl, fieldK, Nat.reduceAdd, Nat.reduceMul, Nat.reduceSub, Nat.reduceEqDiff, Nat.reduceLT, Nat.reduceLeDiff, Nat.reduceBEq, Nat.reduceBNe, reduceIte, Int.reduceEq, Int.reduceLT, Int.reduceLE, Int.reduceNe, Int.reduceToNat, x1, lk, pPP, st1, x2, lk2, st2]
      simp only [List.length_append, List.length_cons, List.length_nil, Nat.zero_add, Nat.add_assoc, Nat.reduceAdd]
      have y1 : (m4 ++ [B.var 54 (plC r)] ++ [B.var 36 (ruC r)] ++ [B.var 36 (oC (was.reverse.find? (pl r)))])[m4.length + 1]? = some (.var 36 (ruC r)) := by simp
      have y2 : (m4 ++ [B.var 54 (plC r)] ++ [B.var 36 (ruC r)] ++ [B.var 36 (oC (was.reverse.find? (pl r)))])[m4.length + 2]? = some (.var 36 (oC (was.reverse.find? (pl r)))) := by simp
      have k3 : Kp m4 (m4 ++ [B.var 54 (plC r)] ++ [B.var 36 (ruC r)] ++ [B.var 36 (oC (was.reverse.find? (pl r)))]) := k2.trans (Kp.app _ _)
      replace i4 : RowR (m4 ++ [B.var 54 (plC r)] ++ [B.var 36 (ruC r)] ++ [B.var 36 (oC (was.reverse.find? (pl r)))]) qr o2 := fun hn => by
        have := i4 hn
        rw [k3.2 _ (List.getElem?_eq_some_iff.1 this).1]; exact this
      have i6' := i6.trans k3
      generalize m4 ++ [B.var 54 (plC r)] ++ [B.var 36 (ruC r)] ++ [B.var 36 (oC (was.reverse.find? (pl r)))] = M at y1 y2 k3 i4 i6' ⊢
      generalize m4.length = X at y1 y2 ⊢
      have hak := any_alk r was
      have hfa := find_any r was
      have add : ∀ (m5 : Mem), m5 = M → (lastL was).any (alk r) = false → ∃ m6, appendA Try.prog 22 22 (rV o2.length qr) (.sl 25 m5.length 0 1) (m5 ++ [.row 36 25 [ruC r]]) = some (rV (o2.length + 1) (M.length + 1), m6) ∧
          (i + 1 ≤ (lastL now).length ∧ o2 ++ [r] = ((lastL now).take (i + 1)).filter (fun r => !(lastL was).any (alk r)) ∧ (o2 ++ [r]).length ≤ i + 1 ∧ RowR m6 (M.length + 1) (o2 ++ [r]) ∧ mm.length ≤ M.length + 1 ∧ Kp mm m6) := by
        rintro m5 rfl hf
        obtain ⟨m6, a1, a2, a3, a4⟩ := app_ru r i4 (by omega)
        refine ⟨m6, a1, hi, ?_, by simp only [List.length_append, List.length_cons, List.length_nil]; omega, a3, by have := i6'.1; omega, Nat.le_trans i6'.1 (by omega), fun k hk => ?_⟩
        · rw [htk, i2, List.filter_append]
          simp [hf]
        · rw [a4 k (by have := i6'.1; omega) (.inl (by omega))]
          exact i6'.2 k hk
      have skip : (lastL was).any (alk r) = true → (i + 1 ≤ (lastL now).length ∧ o2 = ((lastL now).take (i + 1)).filter (fun r => !(lastL was).any (alk r)) ∧ o2.length ≤ i + 1 ∧ RowR M qr o2 ∧ mm.length ≤ qr ∧ Kp mm M) := fun hf => by
        refine ⟨hi, ?_, by omega, i4, i5, i6'⟩
        rw [htk, i2, List.filter_append]
        simp [hf]
      have bsr := bs22 r M
      cases hfo : was.reverse.find? (pl r) with
      | none =>
        rw [hfo] at hfa hak y2
        obtain ⟨m6, a1, a2⟩ := add M rfl (by rw [hak]; rfl)
        simp only [Option.isSome_none] at hfa
        simp -implicitDefEqProofs only [sims.1, fx.1, keeps.1, tick_on, calleeK, extractV, oneV, faddrK, nonnil, b_shr, b_shl, fieldK, Nat.reduceAdd, Nat.reduceMul, Nat.reduceSub, Nat.reduceEqDiff, Nat.reduceLT, Nat.reduceLeDiff, Nat.reduceBEq, Nat.reduceBNe, reduceIte, Int.reduceEq, Int.reduceLT, Int.reduceLE, Int.reduceNe, Int.reduceToNat, ← hfa, y1, pR, bsr, a1, w1]
        refine ⟨(i + 1, (o2 ++ [r], M.length + 1)), ?_, a2, by simp only; omega⟩
        simp only [List.length_append, List.length_cons, List.length_nil]
        kernel_rfl
      | some p =>
        rw [hfo] at hfa hak y2
        simp only [oC] at y2
        simp only [Option.isSome_some] at hfa
        have hp := find_last r hfo
        have hwp := hw1 _ (lastL_sub hp.1)
        cases e2 : decide (p.ck = r.ck)
        · obtain ⟨m6, a1, a2⟩ := add M rfl (by rw [hak]; simp [sameO, e2])
          simp -implicitDefEqProofs only [sims.1, fx.1, keeps.1, tick_on, calleeK, extractV, oneV, faddrK, nonnil, b_shr, b_shl, fieldK, Nat.reduceAdd, Nat.reduceMul, Nat.reduceSub, Nat.reduceEqDiff, Nat.reduceLT, Nat.reduceLeDiff, Nat.reduceBEq, Nat.reduceBNe, reduceIte, Int.reduceEq, Int.reduceLT, Int.reduceLE, Int.reduceNe, Int.reduceToNat, ← hfa, y1, y2, p23, p24, ck_dec, e2, pR, bsr, a1, w1]
          refine ⟨(i + 1, (o2 ++ [r], M.length + 1)), ?_, a2, by simp only; omega⟩
          simp only [List.length_append, List.length_cons, List.length_nil]
          kernel_rfl
        · simp -implicitDefEqProofs only [sims.1, fx.1, keeps.1, tick_on, calleeK, extractV, oneV, faddrK, nonnil, b_shr, b_shl, fieldK, Nat.reduceAdd, Nat.reduceMul, Nat.reduceSub, Nat.reduceEqDiff, Nat.reduceLT, Nat.reduceLeDiff, Nat.reduceBEq, Nat.reduceBNe, reduceIte, Int.reduceEq, Int.reduceLT, Int.reduceLE, Int.reduceNe, Int.reduceToNat, ← hfa, y1, y2, p23, p24, ck_dec, e2, pR]
          refine callD_ans (ans15 p.l r.l hwp.2.2 hwi.2.2) en15 (nfs_cps2 _ _) rfl ?_
          cases e3 : decide (p.l = r.l)
          · obtain ⟨m6, a1, a2⟩ := add M rfl (by rw [hak]; simp [sameO, e3])
            simp -implicitDefEqProofs only [sims.1, fx.1, keeps.1, tick_on, calleeK, extractV, oneV, faddrK, nonnil, b_shr, b_shl, fieldK, Nat.reduceAdd, Nat.reduceMul, Nat.reduceSub, Nat.reduceEqDiff, Nat.reduceLT, Nat.reduceLeDiff, Nat.reduceBEq, Nat.reduceBNe, reduceIte, Int.reduceEq, Int.reduceLT, Int.reduceLE, Int.reduceNe, Int.reduceToNat, y1, pR, bsr, a1, w1]
            refine ⟨(i + 1, (o2 ++ [r], M.length + 1)), ?_, a2, by simp only; omega⟩
            simp only [List.length_append, List.length_cons, List.length_nil]
            kernel_rfl
          · have a2 := skip (by rw [hak]; simp [sameO, e2, e3])
            simp -implicitDefEqProofs only [sims.1, fx.1, keeps.1, tick_on, calleeK, extractV, oneV, faddrK, nonnil, b_shr, b_shl, fieldK, Nat.reduceAdd, Nat.reduceMul, Nat.reduceSub, Nat.reduceEqDiff, Nat.reduceLT, Nat.reduceLeDiff, Nat.reduceBEq, Nat.reduceBNe, reduceIte, Int.reduceEq, Int.reduceLT, Int.reduceLE, Int.reduceNe, Int.reduceToNat, w1]
            exact ⟨(i + 1, (o2, qr)), by kernel_rfl, a2, by simp only; omega⟩
    · have c1 : decide (i < (lastL now).length) = false := by simpa using hi
      obtain rfl : i = (lastL now).length := by omega
      rw [List.take_length] at i2
      simp -implicitDefEqProofs only [sims.1, fx.1, keeps.1, tick_on, calleeK, extractV, oneV, faddrK, nonnil, b_shr, b_shl, fieldK, Nat.reduceAdd, Nat.reduceMul, Nat.reduceSub, Nat.reduceEqDiff, Nat.reduceLT, Nat.reduceLeDiff, Nat.reduceBEq, Nat.reduceBNe, reduceIte, Int.reduceEq, Int.reduceLT, Int.reduceLE, Int.reduceNe, Int.reduceToNat, ltNat, c1, evn, oV_len]
      have har : o2 = addR was now := i2
      have hsl : (ssort ltD o2).length = o2.length := ssort_len _
      refine callD16 i4 (by omega) ?_
      intro v m5 b1 b2 b3
      simp -implicitDefEqProofs only [sims.1, fx.1, keeps.1, tick_on, calleeK, extractV, oneV, faddrK, nonnil, b_shr, b_shl, fieldK, Nat.reduceAdd, Nat.reduceMul, Nat.reduceSub, Nat.reduceEqDiff, Nat.reduceLT, Nat.reduceLeDiff, Nat.reduceBEq, Nat.reduceBNe, reduceIte, Int.reduceEq, Int.reduceLT, Int.reduceLE, Int.reduceNe, Int.reduceToNat, rV_len]
      have hKm : Kp mm m5 := ⟨Nat.le_trans i6.1 b3, fun k hk => by rw [b2 k (by have := i6.1; omega) (by omega)]; exact i6.2 k hk⟩
      have hRm : RowM m5 q o := fun hn => by
        have := h4 hn
        rw [hKm.2 _ (List.getElem?_eq_some_iff.1 this).1]; exact this
      have hqq : o ≠ [] → q ≠ qr := fun hn => by
        have := (List.getElem?_eq_some_iff.1 (h4 hn)).1
        omega
      have hbt : btw was now = o ++ (ssort ltD o2).map fun r => ⟨0, r⟩ := by rw [hor, har]; rfl
      have hS : ∀ r ∈ ssort ltD o2, r ∈ now := fun r hr => addR_sub (har ▸ (ssort_perm _).mem_iff.1 hr)
      rw [hbt]
      clear hbt har i2 hKm b2 b3 i6 i5 hB' hB4 h6 h4 hor
      generalize ssort ltD o2 = S at b1 hsl hS ⊢
      have hr13 : rV o2.length qr = rV S.length qr := by rw [hsl]
      rw [hr13, ← hsl]
      have hSl : S.length ≤ 150 := by omega
      have ho3 : o.length ≤ 150 := by omega
      clear hsl hr13 i1 i3 i4 h3 c1 hi hB hlw hln
      refine W_loopM (fun x : Nat × (List Me × Nat) => [(98, .int .i64 (S.length : Int)), (97, rV S.length qr), (99, .int .i64 (x.1 : Int)), (4, mV x.2.1.length x.2.2)])
        (fun x m6 => x.1 ≤ S.length ∧ x.2.1 = o ++ (S.take x.1).map (fun r => (⟨0, r⟩ : Me)) ∧ RowM m6 x.2.2 x.2.1 ∧ RowR m6 qr S ∧ (x.2.1 ≠ [] → x.2.2 ≠ qr)) (fun x => S.length - x.1) (0, (o, q)) (by kernel_rfl) ⟨Nat.zero_le _, by simp, hRm, b1, hqq⟩ ?_
      rintro ⟨i, o3, q3⟩ m6 ⟨j1, j2, j3, j4, j5⟩
      simp only at j1 j2 j3 j4 j5
      have hol : o3.length = o.length + i := by rw [j2]; simp; omega
      rcases Nat.lt_or_ge i S.length with hi | hi
      · have c1 : decide (i < S.length) = true := by simpa using hi
        have w1 := add1N i (by omega)
        have hmi := List.getElem_mem hi
        have hsi := hc _ (hS _ hmi)
        have htk : S.take (i + 1) = S.take i ++ [S[i]] := (List.take_append_getElem hi).symm
        have ia : ∀ {kk : IntKind}, iaddrS 25 (rV S.length qr) (.int kk (i : Int)) = some (.ep 25 qr i 0) := by
          rw [rV_pos (by omega)]
          exact row_ia hi
        have hSn : S ≠ [] := List.ne_nil_of_length_pos (by omega)
        have hrow := j4 hSn
        have hql := (List.getElem?_eq_some_iff.1 hrow).1
        have l1 : loadK true 25 m6 (.ep 25 qr i 0) = some (ruV S[i]) := by
          rw [loadK_ep, hrow]
          simp [hi, pR]
        simp -implicitDefEqProofs only [sims.1, fx.1, keeps.1, tick_on, calleeK, extractV, oneV, faddrK, nonnil, b_shr, b_shl, fieldK, Nat.reduceAdd, Nat.reduceMul, Nat.reduceSub, Nat.reduceEqDiff, Nat.reduceLT, Nat.reduceLeDiff, Nat.reduceBEq, Nat.reduceBNe, reduceIte, Int.reduceEq, Int.reduceLT, Int.reduceLE, Int.reduceNe, Int.reduceToNat, ltNat, c1, ia, l1, st36n]
        generalize S[i] = r at hmi hsi htk ⊢
        have x1 : (m6 ++ [B.var 36 (ruC r)])[m6.length]? = some (.var 36 (ruC r)) := by simp
        simp -implicitDefEqProofs only [sims.1, fx.1, keeps.1, tick_on, calleeK, extractV, oneV, faddrK, nonnil, b_shr, b_shl, fieldK, Nat.reduceAdd, Nat.reduceMul, Nat.reduceSub, Nat.reduceEqDiff, Nat.reduceLT, Nat.reduceLeDiff, Nat.reduceBEq, Nat.reduceBNe, reduceIte, Int.reduceEq, Int.reduceLT, Int.reduceLE, Int.reduceNe, Int.reduceToNat, x1, pR, st36n, evn]
        have x2 : (m6 ++ [B.var 36 (ruC r)] ++ [B.var 36 (ruC r)])[m6.length]? = some (.var 36 (ruC r)) := by simp
        have x3 : (m6 ++ [B.var 36 (ruC r)] ++ [B.var 36 (ruC r)])[m6.length + 1]? = some (.var 36 (ruC r)) := by simp
        have k3 : Kp m6 (m6 ++ [B.var 36 (ruC r)] ++ [B.var 36 (ruC r)]) := (Kp.app _ _).trans (Kp.app _ _)
        have x9 : (m6 ++ [B.var 36 (ruC r)] ++ [B.var 36 (ruC r)]).length = m6.length + 2 := by simp
        simp only [List.length_append, List.length_cons, List.length_nil, Nat.zero_add, Nat.add_assoc, Nat.reduceAdd]
        generalize m6 ++ [B.var 36 (ruC r)] ++ [B.var 36 (ruC r)] = M at x2 x3 k3 x9 ⊢
        have s1 : storeK 1 M (.ptr (m6.length + 1) 23) .nils = some (M.set (m6.length + 1) (.var 36 (midR r .nils))) := st_mid x3 rfl rfl
        have x2' : (M.set (m6.length + 1) (.var 36 (midR r .nils)))[m6.length]? = some (.var 36 (ruC r)) := by rw [List.getElem?_set_ne (by omega)]; exact x2
        simp -implicitDefEqProofs only [sims.1, fx.1, keeps.1, tick_on, calleeK, extractV, oneV, faddrK, nonnil, b_shr, b_shl, fieldK, Nat.reduceAdd, Nat.reduceMul, Nat.reduceSub, Nat.reduceEqDiff, Nat.reduceLT, Nat.reduceLeDiff, Nat.reduceBEq, Nat.reduceBNe, reduceIte, Int.reduceEq, Int.reduceLT, Int.reduceLE, Int.reduceNe, Int.reduceToNat, s1, x2', p23, len_cps]
        have kX : ∀ k, k < m6.length → (M.set (m6.length + 1) (.var 36 (midR r .nils)))[k]? = m6[k]? := fun k hk => by
          rw [List.getElem?_set_ne (by omega)]; exact k3.2 k hk
        have xX : (M.set (m6.length + 1) (.var 36 (midR r .nils)))[m6.length + 1]? = some (.var 36 (midR r .nils)) := List.getElem?_set_self (by omega)
        have lX : (M.set (m6.length + 1) (.var 36 (midR r .nils))).length = m6.length + 2 := by simpa using x9
        generalize M.set (m6.length + 1) (.var 36 (midR r .nils)) = M0 at x2' kX xX lX ⊢
        refine W_loopM (fun x : Nat × Nat => [(107, .int .i64 (r.l.length : Int)), (106, cpsV r.l), (108, .int .i64 (x.1 : Int)), (4, mV o3.length q3), (21, .ptr (m6.length + 1) 0), (99, .int .i64 (i : Int)), (98, .int .i64 (S.length : Int)), (97, rV S.length qr)])
          (fun x m7 => x.1 ≤ r.l.length ∧ m7[m6.length + 1]? = some (.var 36 (midR r (cV x.1 x.2))) ∧ RowC m7 x.2 (r.l.take x.1) ∧ m6.length + 2 ≤ x.2 ∧ m6.length + 2 ≤ m7.length ∧ ∀ k, k < m6.length → m7[k]? = m6[k]?) (fun x => r.l.length - x.1) (0, m6.length + 2) (by kernel_rfl) ⟨Nat.zero_le _, xX, fun h => absurd rfl h, Nat.le_refl _, by omega, kX⟩ ?_
        rintro ⟨j, q4⟩ m7 ⟨t1, t2, t3, t4, t5, t6⟩
        simp only at t1 t2 t3 t4 t5 t6
        rcases Nat.lt_or_ge j r.l.length with hj | hj
        · have c2 : decide (j < r.l.length) = true := by simpa using hj
          have w2 := add1N j (by omega)
          have hcj := hsi.2 _ (List.getElem_mem hj)
          have htj : r.l.take (j + 1) = r.l.take j ++ [r.l[j]] := (List.take_append_getElem hj).symm
          simp -implicitDefEqProofs only [sims.1, fx.1, keeps.1, tick_on, calleeK, extractV, oneV, faddrK, nonnil, b_shr, b_shl, fieldK, Nat.reduceAdd, Nat.reduceMul, Nat.reduceSub, Nat.reduceEqDiff, Nat.reduceLT, Nat.reduceLeDiff, Nat.reduceBEq, Nat.reduceBNe, reduceIte, Int.reduceEq, Int.reduceLT, Int.reduceLE, Int.reduceNe, Int.reduceToNat, ltNat, c2, ia_cps hj, at_cps hj]
          generalize r.l[j] = c at hcj htj ⊢
          have htl : (r.l.take j).length = j := by simp; omega
          obtain ⟨M5, a1, a2, a3, a4⟩ := app_cp c t3 (by omega)
          rw [htl] at a1
          rw [← htj] at a3
          have v1 : (m7 ++ [B.row 46 1 [[cpV c]]])[m6.length + 1]? = some (.var 36 (midR r (cV j q4))) := by rw [List.getElem?_append_left (by omega)]; exact t2
          have z1 : ∀ n, n < m6.length + 2 → M5[n]? = m7[n]? := fun n hn => a4 n (by omega) (.inl (by omega))
          have zN := (z1 (m6.length + 1) (by omega)).trans t2
          refine w_calls (J13 m7 (m7 ++ [.row 46 1 [[cpV c]]]) M5 (M5.set (m6.length + 1) (.var 36 (midR r (cV (j + 1) (m7.length + 1)))))) [3, 4, 5, 7] [.ptr (m6.length + 1) 23, cV j q4, cpV c, cpV c, .sl 1 m7.length 0 1, cV (j + 1) (m7.length + 1), .ptr (m6.length + 1) 23, .tup []] (by kernel_rfl) rfl ?_ ?_
          · refine okN_pure rfl rfl rfl (fun k m' h => by kernel_rfl) ?_
            refine okN_early 3 rfl rfl rfl (by kernel_rfl) (fun k m' hk h => by
              have := J13_at3 t2 v1 zN k m' hk h
              show Option.map (Res.val · m') (loadV Try.prog m' 34 (.ptr (m6.length + 1) 23)) = _
              have pm : (midR r (cV j q4))[23]? = some (cV j q4) := rfl
              simp -implicitDefEqProofs only [sims.1, fx.1, keeps.1, tick_on, calleeK, extractV, oneV, faddrK, nonnil, b_shr, b_shl, fieldK, Nat.reduceAdd, Nat.reduceMul, Nat.reduceSub, Nat.reduceEqDiff, Nat.reduceLT, Nat.reduceLeDiff, Nat.reduceBEq, Nat.reduceBNe, reduceIte, Int.reduceEq, Int.reduceLT, Int.reduceLE, Int.reduceNe, Int.reduceToNat, this, pm]) ?_
            refine okN_pure rfl rfl rfl (fun k m' h => by rfl) ?_
            refine okN_call rfl (show calleeV (evO _) _ = some (18, [cpV c]) by kernel_rfl) rfl rfl (fun m' h => ?_) ?_
            · exact callD_ans (ans18 c (by omega)) en18 (nfs_cons (nf_cp _) rfl) (nf_cp _) ⟨rfl, h⟩
            refine okN_val rfl rfl rfl rfl (fun m' h => ?_) ?_
            · refine ⟨m7 ++ [B.row 46 1 [[cpV c]]], ?_, by exact rfl⟩
              rw [show m' = m7 from h]
              show Option.map (fun p => Res.val p.1 p.2) (bsliceV Try.prog 34 1 [(0, cpV c)] m7) = _
              rw [bs34]
              rfl
            refine okN_val rfl rfl rfl rfl (fun m' h => ?_) ?_
            · refine ⟨M5, ?_, by exact rfl⟩
              rw [show m' = m7 ++ [.row 46 1 [[cpV c]]] from h]
              show Option.map (fun p => Res.val p.1 p.2) (appendA Try.prog 34 34 (cV j q4) (.sl 1 m7.length 0 1) (m7 ++ [.row 46 1 [[cpV c]]])) = _
              rw [a1]
              rfl
            refine okN_pure rfl rfl rfl (fun k m' h => by kernel_rfl) ?_
            refine okN_skip rfl rfl rfl rfl (fun m' h => ?_) ?_
            · refine ⟨M5.set (m6.length + 1) (.var 36 (midR r (cV (j + 1) (m7.length + 1)))), ?_, by exact rfl⟩
              rw [show m' = M5 from h]
              show Option.map Res.skip (storeV Try.prog 34 M5 (.ptr (m6.length + 1) 23) (cV (j + 1) (m7.length + 1))) = _
              rw [st34, st_mid zN rfl rfl]
              rfl
            exact okN_nil
          rintro m' h
          rw [show m' = M5.set (m6.length + 1) (.var 36 (midR r (cV (j + 1) (m7.length + 1)))) from h]
          clear h m'
          simp -implicitDefEqProofs only [sims.1, fx.1, keeps.1, tick_on, calleeK, extractV, oneV, faddrK, nonnil, b_shr, b_shl, fieldK, Nat.reduceAdd, Nat.reduceMul, Nat.reduceSub, Nat.reduceEqDiff, Nat.reduceLT, Nat.reduceLeDiff, Nat.reduceBEq, Nat.reduceBNe, reduceIte, Int.reduceEq, Int.reduceLT, Int.reduceLE, Int.reduceNe, Int.reduceToNat, putAll, w2]
          refine ⟨(j + 1, m7.length + 1), by kernel_rfl, ⟨hj, List.getElem?_set_self (by omega), ?_, by omega, ?_, fun k hk => ?_⟩, (show r.l.length - (j + 1) < r.l.length - j by omega)⟩
          · exact fun h => by rw [List.getElem?_set_ne (by omega)]; exact a3 h
          · omega
          · rw [List.getElem?_set_ne (by omega), z1 _ (by omega)]
            exact t6 k hk
        · have c2 : decide (j < r.l.length) = false := by simpa using hj
          obtain rfl : j = r.l.length := by omega
          rw [List.take_length] at t3
          have pm : partK true 25 (midR r (cV r.l.length q4)) 0 = some (.agg (midR r (cV r.l.length q4))) := rfl
          obtain ⟨M8, f1, f2, f3⟩ := frz_me t3
          have bs := bs26 f1
          have hq3 : o3 ≠ [] → q3 < m6.length := fun hn => (List.getElem?_eq_some_iff.1 (j3 hn)).1
          have j3' : RowM M8 q3 o3 := fun hn => by
            have := hq3 hn
            rw [f3 _ (by omega), t6 _ this]
            exact j3 hn
          obtain ⟨M9, a1, a2, a3, a4⟩ := app_me ⟨0, r⟩ j3' (by omega)
          simp -implicitDefEqProofs only [sims.1, fx.1, keeps.1, tick_on, calleeK, extractV, oneV, faddrK, nonnil, b_shr, b_shl, fieldK, Nat.reduceAdd, Nat.reduceMul, Nat.reduceSub, Nat.reduceEqDiff, Nat.reduceLT, Nat.reduceLeDiff, Nat.reduceBEq, Nat.reduceBNe, reduceIte, Int.reduceEq, Int.reduceLT, Int.reduceLE, Int.reduceNe, Int.reduceToNat, ltNat, c2, t2, pm, b45m, bs, a1, w1]
          refine ⟨(i + 1, (o3 ++ [⟨0, r⟩], M8.length + 1)), ?_, ⟨hi, ?_, a3, fun hn => ?_, fun _ => ?_⟩, (show S.length - (i + 1) < S.length - i by omega)⟩
          · simp only [List.length_append, List.length_cons, List.length_nil]
            kernel_rfl
          · rw [htk, j2, List.map_append, List.append_assoc]
            rfl
          · rw [a4 qr (by omega) (by by_cases hn : o3 = []
                                     · exact .inr hn
                                     · exact .inl (Ne.symm (j5 hn))), f3 _ (by omega), t6 _ hql]
            exact hrow
          · simp only
            omega
      · have c1 : decide (i < S.length) = false := by simpa using hi
        obtain rfl : i = S.length := by omega
        rw [List.take_length] at j2
        simp -implicitDefEqProofs only [sims.1, fx.1, keeps.1, tick_on, calleeK, extractV, oneV, faddrK, nonnil, b_shr, b_shl, fieldK, Nat.reduceAdd, Nat.reduceMul, Nat.reduceSub, Nat.reduceEqDiff, Nat.reduceLT, Nat.reduceLeDiff, Nat.reduceBEq, Nat.reduceBNe, reduceIte, Int.reduceEq, Int.reduceLT, Int.reduceLE, Int.reduceNe, Int.reduceToNat, ltNat, c1]
        exact ⟨m6, q3, by rw [j2], by rw [← j2]; exact j3⟩
end Go.Proofs.Ytggdnepfahknbaa
