/- A frame's bytes are read, by the reference. No condition. -/
import Derived.Test.YtmbjjelbpnbmoaaNu
namespace Go.Proofs.Ytmbjjelbpnbmoaa
open Go Ab
set_option linter.unusedSimpArgs false
set_option linter.unusedVariables false
set_option maxRecDepth 20000

theorem ansG (l : List Nat) (a n : Nat) (hb : ∀ b ∈ l, b < 256) (hn : n ≤ 7) (h : a + n ≤ l.length) (hl : l.length < 281474976710656) : Ans Try.prog 32 [byV l, .int .i64 (a : Int), .int .i64 (n : Int)] (.int .u64 (gt l a n : Int)) := ans32 l a n hb hn h hl
theorem callD_get {m : Mem} {K Kp : V → Mem → Prop} {x y : Int} (l : List Nat) (a n : Nat) (hb : ∀ b ∈ l, b < 256) (hn : n ≤ 7) (h : a + n ≤ l.length) (hl : l.length < 281474976710656) (hx : x = (a : Int)) (hy : y = (n : Int)) (hk : K (.int .u64 (gt l a n : Int)) m) : callD Try.prog 32 [byV l, .int .i64 x, .int .i64 y] m K Kp := by
  subst hx hy
  exact callD_ans (ansG l a n hb hn h hl) en32 (by simp only [nfs, nf_by, nf, Bool.and_self]) rfl hk
theorem pc_hd (h : Hd) (x : V) : partK true 11 (pcC h x) 0 = some (.agg (hdC h)) := rfl
def g3 (l : List Nat) : Hd
  | 0 => gt l 6 6 | 1 => gt l 0 6 | 3 => bif tg l then gt l 14 2 else 0 | _ => 0
theorem g3_tag {l : List Nat} (t : tg l = true) : ∀ i, i < 11 → upH (upH (upH zH 1 (gt l 0 6)) 0 (gt l 6 6)) 3 (gt l 14 2) i = g3 l i := by
  intro i hi
  match i, hi with
  | 0, _ | 1, _ | 2, _ | 3, _ | 4, _ | 5, _ | 6, _ | 7, _ | 8, _ | 9, _ | 10, _ => simp [upH, g3, zH, t]
theorem g3_no {l : List Nat} (t : tg l = false) : ∀ i, i < 11 → upH (upH zH 1 (gt l 0 6)) 0 (gt l 6 6) i = g3 l i := by
  intro i hi
  match i, hi with
  | 0, _ | 1, _ | 2, _ | 3, _ | 4, _ | 5, _ | 6, _ | 7, _ | 8, _ | 9, _ | 10, _ => simp [upH, g3, zH, t]
theorem g3_h3 (l : List Nat) : ∀ i, i < 11 → upH (g3 l) 2 (kd l) i = h3 l i := by
  intro i hi
  match i, hi with
  | 0, _ | 1, _ | 2, _ | 3, _ | 4, _ | 5, _ | 6, _ | 7, _ | 8, _ | 9, _ | 10, _ => rfl
def D1 (l : List Nat) (e : Env) (m : Mem) : Prop := e 0 = byV l ∧ e 2 = .ptr 0 0 ∧ e 4 = .ptr 1 0 ∧ (∃ q : Nat, e 5 = .int .i64 (q : Int) ∧ q + 2 = po l ∧ gt l q 2 = kd l) ∧
  m = [.var 27 (pcC zH .nils), .var 27 (pcC (g3 l) .nils)] ∧ po l ≤ l.length ∧ 14 ≤ l.length ∧ (tg l = true → 18 ≤ l.length ∧ gt l 14 2 ≠ 0)
def D2 (l : List Nat) (e : Env) (m : Mem) : Prop := e 0 = byV l ∧ e 2 = .ptr 0 0 ∧ e 4 = .ptr 1 0 ∧ rdOK l = true ∧
  ∃ n : Nat, 2 ≤ n ∧ n < m.length ∧ m[0]? = some (.var 27 (pcC zH .nils)) ∧ m[1]? = some (.var 27 (pcC (rdH l) (.sl 1 n 0 (rdB l).length))) ∧ m[n]? = some (rowB (rdB l))
theorem canon13 {env : Env} {m : Mem} {H : Hd} {n q pi ai : Nat} {c own l : List Nat} {j : Int} (h7 : env 7 = byV own) (h0 : env 0 = byV l) (h9 : env 9 = .int .i64 j) (h4 : env 4 = .ptr pi 0) (h2 : env 2 = .ptr ai 0)
    (hp : m[pi]? = some (.var 27 (pcC H (.sl 1 n 0 q)))) (ha : m[ai]? = some (.var 27 (pcC zH .nils))) (hn : m[n]? = some (rowB c)) (d1 : pi ≠ ai) (d2 : pi ≠ n) (d3 : ai ≠ n) :
    canon 0 [7, 0, 9, 4, 2] env m = some (mkEnv [(7, byV own), (0, byV l), (9, .int .i64 j), (4, .ptr 0 0), (2, .ptr 1 0)], [.var 27 (pcC H (.sl 1 2 0 q)), .var 27 (pcC zH .nils), rowB c]) := by
  have lp : pi < m.length := (List.getElem?_eq_some_iff.1 hp).1
  have la : ai < m.length := (List.getElem?_eq_some_iff.1 ha).1
  have ln : n < m.length := (List.getElem?_eq_some_iff.1 hn).1
  have gp : m.getD pi .dead = .var 27 (pcC H (.sl 1 n 0 q)) := by simp [List.getD, hp]
  have ga : m.getD ai .dead = .var 27 (pcC zH .nils) := by simp [List.getD, ha]
  have gn : m.getD n .dead = rowB c := by simp [List.getD, hn]
  have np : nmsB (.var 27 (pcC H (.sl 1 n 0 q))) = [n] := by
    simp only [nmsB, pcC, hdC, cl]
    rfl
  have na : nmsB (.var 27 (pcC zH .nils)) = [] := nmsB_flat (nfB_pc0 zH)
  have nn : nmsB (rowB c) = [] := nmsB_flat (nfB_row c)
  have i1 : Nat.beq pi ai = false := by
    cases h : Nat.beq pi ai with
    | false => rfl
    | true => exact absurd (Nat.eq_of_beq_eq_true h) d1
  have i2 : Nat.beq pi n = false := by
    cases h : Nat.beq pi n with
    | false => rfl
    | true => exact absurd (Nat.eq_of_beq_eq_true h) d2
  have i3 : Nat.beq ai n = false := by
    cases h : Nat.beq ai n with
    | false => rfl
    | true => exact absurd (Nat.eq_of_beq_eq_true h) d3
  have i0 : ∀ k, Nat.beq k k = true := fun k => by simp
  have x1 : idx [pi, ai, n] pi = 0 := by simp [idx]
  have x2 : idx [pi, ai, n] ai = 1 := by simp only [idx, i1, i0, cond_true, cond_false]
  have x3 : idx [pi, ai, n] n = 2 := by simp only [idx, i2, i3, i0, cond_true, cond_false]
  refine canon_of [byV own, byV l, .int .i64 j, .ptr pi 0, .ptr ai 0] [pi, ai, n] ?_ ?_ ?_ ?_ (vs' := [byV own, byV l, .int .i64 j, .ptr 0 0, .ptr 1 0]) ?_ rfl ?_
  · simp only [List.map_cons, List.map_nil, h7, h0, h9, h4, h2]
  · have hnm : List.range 0 ++ nmss [byV own, byV l, .int .i64 j, .ptr pi 0, .ptr ai 0] = [pi, ai] := rfl
    rw [hnm]
    have c1 : ([pi] : List Nat).contains ai = false := by simp; omega
    have c2 : ([pi, ai] : List Nat).contains n = false := by simp; omega
    have z : reach m 77 [] [pi, ai, n] = [pi, ai, n] := rfl
    simp only [reach, List.contains_nil, cond_false, List.nil_append, List.cons_append, gp, np, c1, ga, na, List.append_nil, c2, gn, nn, z]
  · simp only [inDs, nf_inD _ _ (nf_by _), inD]
    simp
  · have hin : inDB (fun k => [pi, ai, n].contains k) (.var 27 (pcC H (.sl 1 n 0 q))) = true := by
      simp only [inDB, pcC, hdC, cl]
      simp [List.range, List.range.loop, inDs, inD]
    have hnd : nodupB [pi, ai, n] = true := by simp [nodupB]; omega
    simp only [closedB, hnd, List.all_cons, List.all_nil, gp, ga, gn, hin, nfB_inDB _ (nfB_pc0 zH), nfB_inDB _ (nfB_row c), Bool.and_true, Bool.true_and]
    simp [lp, la, ln, prefixB]
  · simp only [rens, ren_nf _ _ (nf_by _), ren, x1, x2]
  · simp only [view, List.map_cons, List.map_nil, gp, ga, gn, nfB_renB _ (nfB_pc0 zH), nfB_renB _ (nfB_row c)]
    have : renB (idx [pi, ai, n]) (.var 27 (pcC H (.sl 1 n 0 q))) = .var 27 (pcC H (.sl 1 2 0 q)) := by
      simp only [renB, pcC, hdC, cl]
      simp [List.range, List.range.loop, rens, ren, x3]
    rw [this]
theorem frmR_max {h : Hd} {b : List Nat} (h0 : bldF h b = 0) : (frmR h b).length ≤ 1518 := by
  unfold bldF at h0
  cases ok : okH h
  · simp [ok] at h0
  rw [ok] at h0
  simp only [cond_true] at h0
  cases k : (decide (h 2 = 2054) && !asks b)
  · rw [k] at h0
    simp only [cond_false] at h0
    cases l1 : decide (mostH h < b.length) <;> rw [l1] at h0 <;> simp only [cond_true, cond_false] at h0
    · cases l2 : decide (mostH h < (frmR h b).length) <;> rw [l2] at h0 <;> simp only [cond_true, cond_false] at h0
      · have := of_decide_eq_false l2
        have hm : mostH h ≤ 1518 := by unfold mostH; cases decide (h 3 = 0) <;> simp
        omega
      · omega
    · omega
  · rw [k] at h0
    simp at h0
theorem long_no {l : List Nat} (h : 1518 < l.length) : prsK l = false := by
  unfold prsK
  cases b0 : decide (bldF (rdH l) (rdB l) = 0)
  · simp
  · have := frmR_max (of_decide_eq_true b0)
    have : decide (frmR (rdH l) (rdB l) = l) = false := by
      simp only [decide_eq_false_iff_not]
      intro e
      rw [e] at this
      omega
    simp [this]
theorem len14 (n : Nat) : decide ((n : Int) < 14) = decide (n < 14) := by rw [Bool.eq_iff_iff]; simp; omega
theorem len18 (n : Nat) : decide ((n : Int) < 18) = decide (n < 18) := by rw [Bool.eq_iff_iff]; simp; omega
theorem wAt (q k : Nat) (h : q + k < 9223372036854775808) : IntKind.i64.wrap ((q : Int) + (k : Int)) = ((q + k : Nat) : Int) := by rw [IntKind.wrap_i64]; omega
theorem neNat (a b : Nat) : decide ((a : Int) = (b : Int)) = decide (a = b) := by rw [Bool.eq_iff_iff]; simp; omega
theorem portsR0 (H : Hd) : (portsR H 0).length = bif decide (H 6 = 6) then 20 else bif decide (H 6 = 17) then 8 else 0 := by
  unfold portsR
  cases decide (H 6 = 6) <;> cases decide (H 6 = 17) <;> simp [putB_len]
set_option maxHeartbeats 16000000 in
theorem snd13 (l : List Nat) (hb : ∀ b ∈ l, b < 256) (hl : l.length < 140737488351233) : Snd Try.prog 13 [byV l] [] (QP l) := by
  refine Snd_of_W fol rfl rfl (by kernel_rfl) (by kernel_rfl) ?_
  have lA : ∀ m, lenV Try.prog m 22 (byV l) = some (.int .i64 (l.length : Int)) := fun m => len_by _ _
  cases a1 : decide (l.length < 14)
  rotate_left
  · simp -implicitDefEqProofs only [sims.1, fx.1, keeps.1, tick_on, calleeK, extractV, oneV, faddrK, nonnil, b_shr, b_shl, fieldK, Nat.reduceAdd, Nat.reduceMul, Nat.reduceSub, Nat.reduceEqDiff, Nat.reduceLT, Nat.reduceLeDiff, Nat.reduceBEq, Nat.reduceBNe, reduceIte, Int.reduceEq, Int.reduceLT, Int.reduceLE, Int.reduceNe, Int.reduceToNat, pks.1, sets.1, tick_on, storeK_slp, len14, len1518, len18, ltNat, lA, a1]
    exact qp_short (short14 (of_decide_eq_true a1)) _
  cases a2 : decide (1518 < l.length)
  rotate_left
  · simp -implicitDefEqProofs only [sims.1, fx.1, keeps.1, tick_on, calleeK, extractV, oneV, faddrK, nonnil, b_shr, b_shl, fieldK, Nat.reduceAdd, Nat.reduceMul, Nat.reduceSub, Nat.reduceEqDiff, Nat.reduceLT, Nat.reduceLeDiff, Nat.reduceBEq, Nat.reduceBNe, reduceIte, Int.reduceEq, Int.reduceLT, Int.reduceLE, Int.reduceNe, Int.reduceToNat, pks.1, sets.1, tick_on, storeK_slp, len14, len1518, len18, ltNat, lA, a1, a2]
    exact qp_err (long_no (of_decide_eq_true a2)) _
  have h14 : 14 ≤ l.length := by have := of_decide_eq_false a1; omega
  have hmax : l.length ≤ 1518 := by have := of_decide_eq_false a2; omega
  simp -implicitDefEqProofs only [sims.1, fx.1, keeps.1, tick_on, calleeK, extractV, oneV, faddrK, nonnil, b_shr, b_shl, fieldK, Nat.reduceAdd, Nat.reduceMul, Nat.reduceSub, Nat.reduceEqDiff, Nat.reduceLT, Nat.reduceLeDiff, Nat.reduceBEq, Nat.reduceBNe, reduceIte, Int.reduceEq, Int.reduceLT, Int.reduceLE, Int.reduceNe, Int.reduceToNat, pks.1, sets.1, tick_on, storeK_slp, len14, len1518, len18, ltNat, lA, a1, a2]
  refine callD_get l (0) 6 hb (by omega) (by omega) (by omega) rfl rfl ?_
  simp -implicitDefEqProofs only [sims.1, fx.1, keeps.1, tick_on, calleeK, extractV, oneV, faddrK, nonnil, b_shr, b_shl, fieldK, Nat.reduceAdd, Nat.reduceMul, Nat.reduceSub, Nat.reduceEqDiff, Nat.reduceLT, Nat.reduceLeDiff, Nat.reduceBEq, Nat.reduceBNe, reduceIte, Int.reduceEq, Int.reduceLT, Int.reduceLE, Int.reduceNe, Int.reduceToNat, pks.1, sets.1, tick_on, storeK_slp, len14, len1518, len18, ltNat]
  refine callD_get l (6) 6 hb (by omega) (by omega) (by omega) rfl rfl ?_
  simp -implicitDefEqProofs only [sims.1, fx.1, keeps.1, tick_on, calleeK, extractV, oneV, faddrK, nonnil, b_shr, b_shl, fieldK, Nat.reduceAdd, Nat.reduceMul, Nat.reduceSub, Nat.reduceEqDiff, Nat.reduceLT, Nat.reduceLeDiff, Nat.reduceBEq, Nat.reduceBNe, reduceIte, Int.reduceEq, Int.reduceLT, Int.reduceLE, Int.reduceNe, Int.reduceToNat, pks.1, sets.1, tick_on, storeK_slp, len14, len1518, len18, ltNat]
  refine callD_get l (12) 2 hb (by omega) (by omega) (by omega) rfl rfl ?_
  simp -implicitDefEqProofs only [sims.1, fx.1, keeps.1, tick_on, calleeK, extractV, oneV, faddrK, nonnil, b_shr, b_shl, fieldK, Nat.reduceAdd, Nat.reduceMul, Nat.reduceSub, Nat.reduceEqDiff, Nat.reduceLT, Nat.reduceLeDiff, Nat.reduceBEq, Nat.reduceBNe, reduceIte, Int.reduceEq, Int.reduceLT, Int.reduceLE, Int.reduceNe, Int.reduceToNat, pks.1, sets.1, tick_on, storeK_slp, len14, len1518, len18, ltNat]
  refine cutIf (D1 l) ?_ (fun t => ?_) (fun t => ?_)
  rotate_left
  · have t : tg l = true := t
    cases a3 : decide (l.length < 18)
    · have h18 : 18 ≤ l.length := by have := of_decide_eq_false a3; omega
      simp -implicitDefEqProofs only [sims.1, fx.1, keeps.1, tick_on, calleeK, extractV, oneV, faddrK, nonnil, b_shr, b_shl, fieldK, Nat.reduceAdd, Nat.reduceMul, Nat.reduceSub, Nat.reduceEqDiff, Nat.reduceLT, Nat.reduceLeDiff, Nat.reduceBEq, Nat.reduceBNe, reduceIte, Int.reduceEq, Int.reduceLT, Int.reduceLE, Int.reduceNe, Int.reduceToNat, pks.1, sets.1, tick_on, storeK_slp, len14, len1518, len18, ltNat, lA, a3]
      refine callD_get l (14) 2 hb (by omega) (by omega) (by omega) rfl rfl ?_
      simp -implicitDefEqProofs only [sims.1, fx.1, keeps.1, tick_on, calleeK, extractV, oneV, faddrK, nonnil, b_shr, b_shl, fieldK, Nat.reduceAdd, Nat.reduceMul, Nat.reduceSub, Nat.reduceEqDiff, Nat.reduceLT, Nat.reduceLeDiff, Nat.reduceBEq, Nat.reduceBNe, reduceIte, Int.reduceEq, Int.reduceLT, Int.reduceLE, Int.reduceNe, Int.reduceToNat, pks.1, sets.1, tick_on, storeK_slp, len14, len1518, len18, ltNat]
      have hp : po l = 18 := by simp only [po, t, cond_true]
      cases z : decide (gt l 14 2 = 0)
      · simp -implicitDefEqProofs only [sims.1, fx.1, keeps.1, tick_on, calleeK, extractV, oneV, faddrK, nonnil, b_shr, b_shl, fieldK, Nat.reduceAdd, Nat.reduceMul, Nat.reduceSub, Nat.reduceEqDiff, Nat.reduceLT, Nat.reduceLeDiff, Nat.reduceBEq, Nat.reduceBNe, reduceIte, Int.reduceEq, Int.reduceLT, Int.reduceLE, Int.reduceNe, Int.reduceToNat, pks.1, sets.1, tick_on, storeK_slp, len14, len1518, len18, ltNat, z]
        rw [pc_ext .nils (g3_tag t)]
        exact ⟨rfl, rfl, rfl, ⟨16, rfl, by omega, by simp only [kd, t, cond_true]⟩, rfl, by omega, by omega, fun _ => ⟨by omega, of_decide_eq_false z⟩⟩
      · simp -implicitDefEqProofs only [sims.1, fx.1, keeps.1, tick_on, calleeK, extractV, oneV, faddrK, nonnil, b_shr, b_shl, fieldK, Nat.reduceAdd, Nat.reduceMul, Nat.reduceSub, Nat.reduceEqDiff, Nat.reduceLT, Nat.reduceLeDiff, Nat.reduceBEq, Nat.reduceBNe, reduceIte, Int.reduceEq, Int.reduceLT, Int.reduceLE, Int.reduceNe, Int.reduceToNat, pks.1, sets.1, tick_on, storeK_slp, len14, len1518, len18, ltNat, z]
        exact qp_short (vlan0 t (of_decide_eq_true z)) _
    · simp -implicitDefEqProofs only [sims.1, fx.1, keeps.1, tick_on, calleeK, extractV, oneV, faddrK, nonnil, b_shr, b_shl, fieldK, Nat.reduceAdd, Nat.reduceMul, Nat.reduceSub, Nat.reduceEqDiff, Nat.reduceLT, Nat.reduceLeDiff, Nat.reduceBEq, Nat.reduceBNe, reduceIte, Int.reduceEq, Int.reduceLT, Int.reduceLE, Int.reduceNe, Int.reduceToNat, pks.1, sets.1, tick_on, storeK_slp, len14, len1518, len18, ltNat, lA, a3]
      exact qp_short (short18 t (of_decide_eq_true a3)) _
  · have t : tg l = false := t
    simp -implicitDefEqProofs only [sims.1, fx.1, keeps.1, tick_on, calleeK, extractV, oneV, faddrK, nonnil, b_shr, b_shl, fieldK, Nat.reduceAdd, Nat.reduceMul, Nat.reduceSub, Nat.reduceEqDiff, Nat.reduceLT, Nat.reduceLeDiff, Nat.reduceBEq, Nat.reduceBNe, reduceIte, Int.reduceEq, Int.reduceLT, Int.reduceLE, Int.reduceNe, Int.reduceToNat, pks.1, sets.1, tick_on, storeK_slp, len14, len1518, len18, ltNat]
    have hp : po l = 14 := by simp only [po, t, cond_false]
    rw [pc_ext .nils (g3_no t)]
    exact ⟨rfl, rfl, rfl, ⟨12, rfl, by omega, by simp only [kd, t, cond_false]⟩, rfl, by omega, by omega, fun h => by rw [t] at h; cases h⟩
  rintro e m ⟨e0, e2, e4, ⟨q, e5, hq, hkd⟩, rfl, hpo, hl14, htg⟩
  simp -implicitDefEqProofs only [sims.1, fx.1, keeps.1, tick_on, calleeK, extractV, oneV, faddrK, nonnil, b_shr, b_shl, fieldK, Nat.reduceAdd, Nat.reduceMul, Nat.reduceSub, Nat.reduceEqDiff, Nat.reduceLT, Nat.reduceLeDiff, Nat.reduceBEq, Nat.reduceBNe, reduceIte, Int.reduceEq, Int.reduceLT, Int.reduceLE, Int.reduceNe, Int.reduceToNat, pks.1, sets.1, tick_on, storeK_slp, len14, len1518, len18, ltNat, e0, e2, e4, e5]
  refine callD_get l q 2 hb (by omega) (by omega) (by omega) rfl rfl ?_
  rw [hkd]
  have w2 : IntKind.i64.wrap ((q : Int) + 2) = ((po l : Nat) : Int) := by rw [IntKind.wrap_i64]; omega
  simp -implicitDefEqProofs only [sims.1, fx.1, keeps.1, tick_on, calleeK, extractV, oneV, faddrK, nonnil, b_shr, b_shl, fieldK, Nat.reduceAdd, Nat.reduceMul, Nat.reduceSub, Nat.reduceEqDiff, Nat.reduceLT, Nat.reduceLeDiff, Nat.reduceBEq, Nat.reduceBNe, reduceIte, Int.reduceEq, Int.reduceLT, Int.reduceLE, Int.reduceNe, Int.reduceToNat, pks.1, sets.1, tick_on, storeK_slp, len14, len1518, len18, ltNat, e0, e2, e4, e5, w2]
  rw [pc_ext .nils (g3_h3 l)]
  have w28 : IntKind.i64.wrap (((po l : Nat) : Int) + 28) = ((po l + 28 : Nat) : Int) := by rw [IntKind.wrap_i64]; omega
  have w14 : IntKind.i64.wrap (((po l : Nat) : Int) + 14) = ((po l + 14 : Nat) : Int) := by rw [IntKind.wrap_i64]; omega
  have w24 : IntKind.i64.wrap (((po l : Nat) : Int) + 24) = ((po l + 24 : Nat) : Int) := by rw [IntKind.wrap_i64]; omega
  have w7 : IntKind.i64.wrap (((po l : Nat) : Int) + 7) = ((po l + 7 : Nat) : Int) := by rw [IntKind.wrap_i64]; omega
  have w20 : IntKind.i64.wrap (((po l : Nat) : Int) + 20) = ((po l + 20 : Nat) : Int) := by rw [IntKind.wrap_i64]; omega
  have w9 : IntKind.i64.wrap (((po l : Nat) : Int) + 9) = ((po l + 9 : Nat) : Int) := by rw [IntKind.wrap_i64]; omega
  have w12 : IntKind.i64.wrap (((po l : Nat) : Int) + 12) = ((po l + 12 : Nat) : Int) := by rw [IntKind.wrap_i64]; omega
  have w16 : IntKind.i64.wrap (((po l : Nat) : Int) + 16) = ((po l + 16 : Nat) : Int) := by rw [IntKind.wrap_i64]; omega
  cases k1 : decide (kd l = 2054)
  · cases k2 : decide (kd l = 2048)
    · have hmr : mr l = 0 := by simp only [mr, k2, cond_false]
      have hnd : need l = po l := by simp only [need, k1, hmr, cond_false, Nat.add_zero]
      have hok : rdOK l = true := ok_of hl14 htg (by omega)
      have hB : rdB l = l.drop (po l) := by simp only [rdB, k1, hmr, cond_false, Nat.add_zero]
      have sF := sl_from l (po l) (by omega)
      rw [← hB] at sF
      have hBl := rdB_len l
      simp -implicitDefEqProofs only [sims.1, fx.1, keeps.1, tick_on, calleeK, extractV, oneV, faddrK, nonnil, b_shr, b_shl, fieldK, Nat.reduceAdd, Nat.reduceMul, Nat.reduceSub, Nat.reduceEqDiff, Nat.reduceLT, Nat.reduceLeDiff, Nat.reduceBEq, Nat.reduceBNe, reduceIte, Int.reduceEq, Int.reduceLT, Int.reduceLE, Int.reduceNe, Int.reduceToNat, pks.1, sets.1, tick_on, storeK_slp, len14, len1518, len18, ltNat, e0, e2, e4, e5, lA, k1, k2, w28, w14, w24, w7, w20, w9, w12, w16, sF, bsl0, h3_2]
      rw [apB [] (rdB l)]
      rotate_left
      · exact ct_by
      · rfl
      · rfl
      · omega
      · omega
      simp -implicitDefEqProofs only [sims.1, fx.1, keeps.1, tick_on, calleeK, extractV, oneV, faddrK, nonnil, b_shr, b_shl, fieldK, Nat.reduceAdd, Nat.reduceMul, Nat.reduceSub, Nat.reduceEqDiff, Nat.reduceLT, Nat.reduceLeDiff, Nat.reduceBEq, Nat.reduceBNe, reduceIte, Int.reduceEq, Int.reduceLT, Int.reduceLE, Int.reduceNe, Int.reduceToNat, pks.1, sets.1, tick_on, storeK_slp, len14, len1518, len18, ltNat, e0, e2, e4, e5, lA, k1, k2, w28, w14, w24, w7, w20, w9, w12, w16, Nat.zero_add]
      rw [pc_ext _ (fin_oth k1 k2)]
      have lO : ∀ m, lenV Try.prog m 22 (byV (bldO (rdH l) (rdB l))) = some (.int .i64 ((bldO (rdH l) (rdB l)).length : Int)) := fun m => len_by _ _
      refine callD_pk (ansB34 (rdH l) (rdB l) (rdB_lt hb) (by have := rdB_len l; omega)) en34 (by simp only [nf, nfs, nf_by, Bool.and_self]) rfl rfl ?_
      cases b0 : decide (bldF (rdH l) (rdB l) = 0)
      · simp -implicitDefEqProofs only [sims.1, fx.1, keeps.1, tick_on, calleeK, extractV, oneV, faddrK, nonnil, b_shr, b_shl, fieldK, Nat.reduceAdd, Nat.reduceMul, Nat.reduceSub, Nat.reduceEqDiff, Nat.reduceLT, Nat.reduceLeDiff, Nat.reduceBEq, Nat.reduceBNe, reduceIte, Int.reduceEq, Int.reduceLT, Int.reduceLE, Int.reduceNe, Int.reduceToNat, pks.1, sets.1, tick_on, storeK_slp, len14, len1518, len18, ltNat, e0, e2, e4, e5, lA, lO, b0]
        exact qp_err (by simp only [prsK, b0, Bool.false_and, Bool.and_false]) _
      have hO : bldO (rdH l) (rdB l) = frmR (rdH l) (rdB l) := by simp only [bldO, b0, cond_true]
      cases b2 : decide ((bldO (rdH l) (rdB l)).length = l.length)
      · simp -implicitDefEqProofs only [sims.1, fx.1, keeps.1, tick_on, calleeK, extractV, oneV, faddrK, nonnil, b_shr, b_shl, fieldK, Nat.reduceAdd, Nat.reduceMul, Nat.reduceSub, Nat.reduceEqDiff, Nat.reduceLT, Nat.reduceLeDiff, Nat.reduceBEq, Nat.reduceBNe, reduceIte, Int.reduceEq, Int.reduceLT, Int.reduceLE, Int.reduceNe, Int.reduceToNat, pks.1, sets.1, tick_on, storeK_slp, len14, len1518, len18, ltNat, e0, e2, e4, e5, lA, lO, b0, neNat, b2]
        refine qp_err ?_ _
        have : decide (frmR (rdH l) (rdB l) = l) = false := by simp only [decide_eq_false_iff_not]; intro h; rw [hO, h] at b2; simp at b2
        simp only [prsK, this, Bool.and_false]
      have hlen := of_decide_eq_true b2
      have hlt := bldO_lt (rdH l) (rdB l) (rdB_lt hb)
      simp -implicitDefEqProofs only [sims.1, fx.1, keeps.1, tick_on, calleeK, extractV, oneV, faddrK, nonnil, b_shr, b_shl, fieldK, Nat.reduceAdd, Nat.reduceMul, Nat.reduceSub, Nat.reduceEqDiff, Nat.reduceLT, Nat.reduceLeDiff, Nat.reduceBEq, Nat.reduceBNe, reduceIte, Int.reduceEq, Int.reduceLT, Int.reduceLE, Int.reduceNe, Int.reduceToNat, pks.1, sets.1, tick_on, storeK_slp, len14, len1518, len18, ltNat, e0, e2, e4, e5, lA, lO, b0, neNat, b2]
      generalize hown : bldO (rdH l) (rdB l) = own at hlen hO hlt
      refine W_loop (fun j : Nat => (mkEnv [(7, byV own), (0, byV l), (9, .int .i64 (j : Int)), (4, .ptr 0 0), (2, .ptr 1 0)], [.var 27 (pcC (rdH l) (.sl 1 2 0 (rdB l).length)), .var 27 (pcC zH .nils), rowB (rdB l)])) (fun j => j ≤ l.length ∧ own.take j = l.take j) (fun j => l.length + 1 - j) 0
        (canon13 (pi := 1) (ai := 0) (n := 3) rfl e0 rfl e4 e2 rfl rfl rfl (by omega) (by omega) (by omega)) ⟨by omega, by simp⟩ ?_
      rintro j ⟨h1, h2⟩
      have w1 := wrap_i64s j (by omega)
      rcases Nat.lt_or_ge j l.length with hj | hj
      · have c1 : decide (j < l.length) = true := by simpa using hj
        have io : ∀ {kk : IntKind}, iaddrS 1 (byV own) (.int kk (j : Int)) = some (.ip (byC (own[j]'(by omega)))) := fun {kk} => ia_by (by omega)
        have il : ∀ {kk : IntKind}, iaddrS 1 (byV l) (.int kk (j : Int)) = some (.ip (byC l[j])) := fun {kk} => ia_by hj
        simp -implicitDefEqProofs only [sims.1, fx.1, keeps.1, tick_on, calleeK, extractV, oneV, faddrK, nonnil, b_shr, b_shl, fieldK, Nat.reduceAdd, Nat.reduceMul, Nat.reduceSub, Nat.reduceEqDiff, Nat.reduceLT, Nat.reduceLeDiff, Nat.reduceBEq, Nat.reduceBNe, reduceIte, Int.reduceEq, Int.reduceLT, Int.reduceLE, Int.reduceNe, Int.reduceToNat, pks.1, sets.1, tick_on, storeK_slp, len14, len1518, len18, ltNat, lA, c1]
        refine w_quiet ?_
        cases ee : decide (own[j]'(by omega) = l[j])
        · simp -implicitDefEqProofs only [sims.1, fx.1, keeps.1, tick_on, calleeK, extractV, oneV, faddrK, nonnil, b_shr, b_shl, fieldK, Nat.reduceAdd, Nat.reduceMul, Nat.reduceSub, Nat.reduceEqDiff, Nat.reduceLT, Nat.reduceLeDiff, Nat.reduceBEq, Nat.reduceBNe, reduceIte, Int.reduceEq, Int.reduceLT, Int.reduceLE, Int.reduceNe, Int.reduceToNat, pks.1, sets.1, tick_on, storeK_slp, len14, len1518, len18, ltNat, lA, c1, io, il, by0, neNat, ee]
          refine qp_err ?_ _
          have : decide (frmR (rdH l) (rdB l) = l) = false := by
            simp only [decide_eq_false_iff_not]
            intro h
            have h5 := of_decide_eq_false ee
            have h6 : own = l := hO.trans h
            subst h6
            exact h5 rfl
          simp only [prsK, this, Bool.and_false]
        · simp -implicitDefEqProofs only [sims.1, fx.1, keeps.1, tick_on, calleeK, extractV, oneV, faddrK, nonnil, b_shr, b_shl, fieldK, Nat.reduceAdd, Nat.reduceMul, Nat.reduceSub, Nat.reduceEqDiff, Nat.reduceLT, Nat.reduceLeDiff, Nat.reduceBEq, Nat.reduceBNe, reduceIte, Int.reduceEq, Int.reduceLT, Int.reduceLE, Int.reduceNe, Int.reduceToNat, pks.1, sets.1, tick_on, storeK_slp, len14, len1518, len18, ltNat, lA, c1, io, il, by0, neNat, ee, w1]
          refine ⟨j + 1, canon13 (pi := 0) (ai := 1) (n := 2) rfl rfl rfl rfl rfl rfl rfl rfl (by omega) (by omega) (by omega), ⟨by omega, ?_⟩, by omega⟩
          rw [List.take_add_one, List.take_add_one, h2, List.getElem?_eq_getElem hj, List.getElem?_eq_getElem (show j < own.length by omega), of_decide_eq_true ee]
      · obtain rfl : j = l.length := by omega
        have c1 : decide (l.length < l.length) = false := by simp
        have hol : own = l := by
          rw [List.take_of_length_le (by omega), List.take_of_length_le (by omega)] at h2
          exact h2
        simp -implicitDefEqProofs only [sims.1, fx.1, keeps.1, tick_on, calleeK, extractV, oneV, faddrK, nonnil, b_shr, b_shl, fieldK, Nat.reduceAdd, Nat.reduceMul, Nat.reduceSub, Nat.reduceEqDiff, Nat.reduceLT, Nat.reduceLeDiff, Nat.reduceBEq, Nat.reduceBNe, reduceIte, Int.reduceEq, Int.reduceLT, Int.reduceLE, Int.reduceNe, Int.reduceToNat, pks.1, sets.1, tick_on, storeK_slp, len14, len1518, len18, ltNat, lA, c1, sp_pc]
        have b1 : decide (frmR (rdH l) (rdB l) = l) = true := by rw [← hO, hol]; simp
        exact qp_ok (by simp only [prsK, hok, b0, b1, Bool.and_self]) (fun _ _ => rfl) rfl rfl
    · have hpr : gt l (po l + 9) 1 = pr l := rfl
      have hneed : po l + 20 ≤ need l := by
        simp only [need, mr, k1, k2, cond_true, cond_false]
        cases decide (pr l = 6) <;> cases decide (pr l = 17) <;> simp
      cases a4 : decide (l.length < po l + 20)
      rotate_left
      · simp -implicitDefEqProofs only [sims.1, fx.1, keeps.1, tick_on, calleeK, extractV, oneV, faddrK, nonnil, b_shr, b_shl, fieldK, Nat.reduceAdd, Nat.reduceMul, Nat.reduceSub, Nat.reduceEqDiff, Nat.reduceLT, Nat.reduceLeDiff, Nat.reduceBEq, Nat.reduceBNe, reduceIte, Int.reduceEq, Int.reduceLT, Int.reduceLE, Int.reduceNe, Int.reduceToNat, pks.1, sets.1, tick_on, storeK_slp, len14, len1518, len18, ltNat, e0, e2, e4, e5, lA, k1, k2, w28, w14, w24, w7, w20, w9, w12, w16, a4, h3_2]
        exact qp_short (shortN (by have := of_decide_eq_true a4; omega)) _
      have hl20 : po l + 20 ≤ l.length := by have := of_decide_eq_false a4; omega
      simp -implicitDefEqProofs only [sims.1, fx.1, keeps.1, tick_on, calleeK, extractV, oneV, faddrK, nonnil, b_shr, b_shl, fieldK, Nat.reduceAdd, Nat.reduceMul, Nat.reduceSub, Nat.reduceEqDiff, Nat.reduceLT, Nat.reduceLeDiff, Nat.reduceBEq, Nat.reduceBNe, reduceIte, Int.reduceEq, Int.reduceLT, Int.reduceLE, Int.reduceNe, Int.reduceToNat, pks.1, sets.1, tick_on, storeK_slp, len14, len1518, len18, ltNat, e0, e2, e4, e5, lA, k1, k2, w28, w14, w24, w7, w20, w9, w12, w16, a4, h3_2]
      refine callD_get l (po l + 9) 1 hb (by omega) (by omega) (by omega) rfl rfl ?_
      simp -implicitDefEqProofs only [sims.1, fx.1, keeps.1, tick_on, calleeK, extractV, oneV, faddrK, nonnil, b_shr, b_shl, fieldK, Nat.reduceAdd, Nat.reduceMul, Nat.reduceSub, Nat.reduceEqDiff, Nat.reduceLT, Nat.reduceLeDiff, Nat.reduceBEq, Nat.reduceBNe, reduceIte, Int.reduceEq, Int.reduceLT, Int.reduceLE, Int.reduceNe, Int.reduceToNat, pks.1, sets.1, tick_on, storeK_slp, len14, len1518, len18, ltNat, e0, e2, e4, e5, lA, k1, k2, w28, w14, w24, w7, w20, w9, w12, w16]
      refine callD_get l (po l + 12) 4 hb (by omega) (by omega) (by omega) rfl rfl ?_
      simp -implicitDefEqProofs only [sims.1, fx.1, keeps.1, tick_on, calleeK, extractV, oneV, faddrK, nonnil, b_shr, b_shl, fieldK, Nat.reduceAdd, Nat.reduceMul, Nat.reduceSub, Nat.reduceEqDiff, Nat.reduceLT, Nat.reduceLeDiff, Nat.reduceBEq, Nat.reduceBNe, reduceIte, Int.reduceEq, Int.reduceLT, Int.reduceLE, Int.reduceNe, Int.reduceToNat, pks.1, sets.1, tick_on, storeK_slp, len14, len1518, len18, ltNat, e0, e2, e4, e5, lA, k1, k2, w28, w14, w24, w7, w20, w9, w12, w16]
      refine callD_get l (po l + 16) 4 hb (by omega) (by omega) (by omega) rfl rfl ?_
      simp -implicitDefEqProofs only [sims.1, fx.1, keeps.1, tick_on, calleeK, extractV, oneV, faddrK, nonnil, b_shr, b_shl, fieldK, Nat.reduceAdd, Nat.reduceMul, Nat.reduceSub, Nat.reduceEqDiff, Nat.reduceLT, Nat.reduceLeDiff, Nat.reduceBEq, Nat.reduceBNe, reduceIte, Int.reduceEq, Int.reduceLT, Int.reduceLE, Int.reduceNe, Int.reduceToNat, pks.1, sets.1, tick_on, storeK_slp, len14, len1518, len18, ltNat, e0, e2, e4, e5, lA, k1, k2, w28, w14, w24, w7, w20, w9, w12, w16, pc_hd]
      rw [hpr]
      generalize hHi : upH (upH (upH (h3 l) 6 (pr l)) 4 (gt l (po l + 12) 4)) 5 (gt l (po l + 16) 4) = Hi
      have hHi6 : Hi 6 = pr l := by rw [← hHi]; rfl
      refine callD_ans (ans33 Hi 0 (by omega)) en33 (show nfs [hdA Hi, .int .i64 0] = true by simp only [nfs, nf_hdA, nf, Bool.and_self]) (nf_by _) ?_
      have lP : ∀ m, lenV Try.prog m 22 (byV (portsR Hi 0)) = some (.int .i64 ((portsR Hi 0).length : Int)) := fun m => len_by _ _
      cases p1 : decide (pr l = 6)
      · cases p2 : decide (pr l = 17)
        · have hmr : mr l = 20 := by simp only [mr, k2, p1, p2, cond_true, cond_false]
          have hnd : need l = po l + 20 := by simp only [need, k1, hmr, cond_false]
          have hPl : (portsR Hi 0).length = 0 := by rw [portsR0, hHi6]; simp only [p1, p2, cond_true, cond_false]
          have wM : IntKind.i64.wrap (((po l + 20 : Nat) : Int) + ((0 : Nat) : Int)) = ((po l + 20 : Nat) : Int) := by rw [IntKind.wrap_i64]; omega
          have gM : decide ((0 : Int) < ((0 : Nat) : Int)) = false := by kernel_rfl
          cases a5 : decide (l.length < po l + 20)
          rotate_left
          · simp -implicitDefEqProofs only [sims.1, fx.1, keeps.1, tick_on, calleeK, extractV, oneV, faddrK, nonnil, b_shr, b_shl, fieldK, Nat.reduceAdd, Nat.reduceMul, Nat.reduceSub, Nat.reduceEqDiff, Nat.reduceLT, Nat.reduceLeDiff, Nat.reduceBEq, Nat.reduceBNe, reduceIte, Int.reduceEq, Int.reduceLT, Int.reduceLE, Int.reduceNe, Int.reduceToNat, pks.1, sets.1, tick_on, storeK_slp, len14, len1518, len18, ltNat, e0, e2, e4, e5, lA, k1, k2, w28, w14, w24, w7, w20, w9, w12, w16, lP, hPl, wM, gM, a5]
            exact qp_short (shortN (by have := of_decide_eq_true a5; omega)) _
          have hlk : po l + 20 ≤ l.length := by have := of_decide_eq_false a5; omega
          have hok : rdOK l = true := ok_of hl14 htg (by omega)
          have hB : rdB l = l.drop (po l + 20) := by simp only [rdB, k1, hmr, cond_false]
          have sF := sl_from l (po l + 20) (by omega)
          rw [← hB] at sF
          have hBl := rdB_len l
          have wQ : IntKind.i64.wrap (((po l + 20 : Nat) : Int) + 2) = ((po l + 22 : Nat) : Int) := by rw [IntKind.wrap_i64]; omega
          simp -implicitDefEqProofs only [sims.1, fx.1, keeps.1, tick_on, calleeK, extractV, oneV, faddrK, nonnil, b_shr, b_shl, fieldK, Nat.reduceAdd, Nat.reduceMul, Nat.reduceSub, Nat.reduceEqDiff, Nat.reduceLT, Nat.reduceLeDiff, Nat.reduceBEq, Nat.reduceBNe, reduceIte, Int.reduceEq, Int.reduceLT, Int.reduceLE, Int.reduceNe, Int.reduceToNat, pks.1, sets.1, tick_on, storeK_slp, len14, len1518, len18, ltNat, e0, e2, e4, e5, lA, k1, k2, w28, w14, w24, w7, w20, w9, w12, w16, lP, hPl, wM, gM, a5, sF, bsl0, wQ]
          rw [apB [] (rdB l)]
          rotate_left
          · exact ct_by
          · rfl
          · rfl
          · omega
          · omega
          simp -implicitDefEqProofs only [sims.1, fx.1, keeps.1, tick_on, calleeK, extractV, oneV, faddrK, nonnil, b_shr, b_shl, fieldK, Nat.reduceAdd, Nat.reduceMul, Nat.reduceSub, Nat.reduceEqDiff, Nat.reduceLT, Nat.reduceLeDiff, Nat.reduceBEq, Nat.reduceBNe, reduceIte, Int.reduceEq, Int.reduceLT, Int.reduceLE, Int.reduceNe, Int.reduceToNat, pks.1, sets.1, tick_on, storeK_slp, len14, len1518, len18, ltNat, e0, e2, e4, e5, lA, k1, k2, w28, w14, w24, w7, w20, w9, w12, w16, lP, hPl, wM, gM, a5, sF, bsl0, wQ, Nat.zero_add]
          rw [← hHi, pc_ext _ (fin_ip0 k1 k2 p1 p2)]
          have lO : ∀ m, lenV Try.prog m 22 (byV (bldO (rdH l) (rdB l))) = some (.int .i64 ((bldO (rdH l) (rdB l)).length : Int)) := fun m => len_by _ _
          refine callD_pk (ansB34 (rdH l) (rdB l) (rdB_lt hb) (by have := rdB_len l; omega)) en34 (by simp only [nf, nfs, nf_by, Bool.and_self]) rfl rfl ?_
          cases b0 : decide (bldF (rdH l) (rdB l) = 0)
          · simp -implicitDefEqProofs only [sims.1, fx.1, keeps.1, tick_on, calleeK, extractV, oneV, faddrK, nonnil, b_shr, b_shl, fieldK, Nat.reduceAdd, Nat.reduceMul, Nat.reduceSub, Nat.reduceEqDiff, Nat.reduceLT, Nat.reduceLeDiff, Nat.reduceBEq, Nat.reduceBNe, reduceIte, Int.reduceEq, Int.reduceLT, Int.reduceLE, Int.reduceNe, Int.reduceToNat, pks.1, sets.1, tick_on, storeK_slp, len14, len1518, len18, ltNat, e0, e2, e4, e5, lA, lO, b0]
            exact qp_err (by simp only [prsK, b0, Bool.false_and, Bool.and_false]) _
          have hO : bldO (rdH l) (rdB l) = frmR (rdH l) (rdB l) := by simp only [bldO, b0, cond_true]
          cases b2 : decide ((bldO (rdH l) (rdB l)).length = l.length)
          · simp -implicitDefEqProofs only [sims.1, fx.1, keeps.1, tick_on, calleeK, extractV, oneV, faddrK, nonnil, b_shr, b_shl, fieldK, Nat.reduceAdd, Nat.reduceMul, Nat.reduceSub, Nat.reduceEqDiff, Nat.reduceLT, Nat.reduceLeDiff, Nat.reduceBEq, Nat.reduceBNe, reduceIte, Int.reduceEq, Int.reduceLT, Int.reduceLE, Int.reduceNe, Int.reduceToNat, pks.1, sets.1, tick_on, storeK_slp, len14, len1518, len18, ltNat, e0, e2, e4, e5, lA, lO, b0, neNat, b2]
            refine qp_err ?_ _
            have : decide (frmR (rdH l) (rdB l) = l) = false := by simp only [decide_eq_false_iff_not]; intro h; rw [hO, h] at b2; simp at b2
            simp only [prsK, this, Bool.and_false]
          have hlen := of_decide_eq_true b2
          have hlt := bldO_lt (rdH l) (rdB l) (rdB_lt hb)
          simp -implicitDefEqProofs only [sims.1, fx.1, keeps.1, tick_on, calleeK, extractV, oneV, faddrK, nonnil, b_shr, b_shl, fieldK, Nat.reduceAdd, Nat.reduceMul, Nat.reduceSub, Nat.reduceEqDiff, Nat.reduceLT, Nat.reduceLeDiff, Nat.reduceBEq, Nat.reduceBNe, reduceIte, Int.reduceEq, Int.reduceLT, Int.reduceLE, Int.reduceNe, Int.reduceToNat, pks.1, sets.1, tick_on, storeK_slp, len14, len1518, len18, ltNat, e0, e2, e4, e5, lA, lO, b0, neNat, b2]
          generalize hown : bldO (rdH l) (rdB l) = own at hlen hO hlt
          refine W_loop (fun j : Nat => (mkEnv [(7, byV own), (0, byV l), (9, .int .i64 (j : Int)), (4, .ptr 0 0), (2, .ptr 1 0)], [.var 27 (pcC (rdH l) (.sl 1 2 0 (rdB l).length)), .var 27 (pcC zH .nils), rowB (rdB l)])) (fun j => j ≤ l.length ∧ own.take j = l.take j) (fun j => l.length + 1 - j) 0
            (canon13 (pi := 1) (ai := 0) (n := 3) rfl e0 rfl e4 e2 rfl rfl rfl (by omega) (by omega) (by omega)) ⟨by omega, by simp⟩ ?_
          rintro j ⟨h1, h2⟩
          have w1 := wrap_i64s j (by omega)
          rcases Nat.lt_or_ge j l.length with hj | hj
          · have c1 : decide (j < l.length) = true := by simpa using hj
            have io : ∀ {kk : IntKind}, iaddrS 1 (byV own) (.int kk (j : Int)) = some (.ip (byC (own[j]'(by omega)))) := fun {kk} => ia_by (by omega)
            have il : ∀ {kk : IntKind}, iaddrS 1 (byV l) (.int kk (j : Int)) = some (.ip (byC l[j])) := fun {kk} => ia_by hj
            simp -implicitDefEqProofs only [sims.1, fx.1, keeps.1, tick_on, calleeK, extractV, oneV, faddrK, nonnil, b_shr, b_shl, fieldK, Nat.reduceAdd, Nat.reduceMul, Nat.reduceSub, Nat.reduceEqDiff, Nat.reduceLT, Nat.reduceLeDiff, Nat.reduceBEq, Nat.reduceBNe, reduceIte, Int.reduceEq, Int.reduceLT, Int.reduceLE, Int.reduceNe, Int.reduceToNat, pks.1, sets.1, tick_on, storeK_slp, len14, len1518, len18, ltNat, lA, c1]
            refine w_quiet ?_
            cases ee : decide (own[j]'(by omega) = l[j])
            · simp -implicitDefEqProofs only [sims.1, fx.1, keeps.1, tick_on, calleeK, extractV, oneV, faddrK, nonnil, b_shr, b_shl, fieldK, Nat.reduceAdd, Nat.reduceMul, Nat.reduceSub, Nat.reduceEqDiff, Nat.reduceLT, Nat.reduceLeDiff, Nat.reduceBEq, Nat.reduceBNe, reduceIte, Int.reduceEq, Int.reduceLT, Int.reduceLE, Int.reduceNe, Int.reduceToNat, pks.1, sets.1, tick_on, storeK_slp, len14, len1518, len18, ltNat, lA, c1, io, il, by0, neNat, ee]
              refine qp_err ?_ _
              have : decide (frmR (rdH l) (rdB l) = l) = false := by
                simp only [decide_eq_false_iff_not]
                intro h
                have h5 := of_decide_eq_false ee
                have h6 : own = l := hO.trans h
                subst h6
                exact h5 rfl
              simp only [prsK, this, Bool.and_false]
            · simp -implicitDefEqProofs only [sims.1, fx.1, keeps.1, tick_on, calleeK, extractV, oneV, faddrK, nonnil, b_shr, b_shl, fieldK, Nat.reduceAdd, Nat.reduceMul, Nat.reduceSub, Nat.reduceEqDiff, Nat.reduceLT, Nat.reduceLeDiff, Nat.reduceBEq, Nat.reduceBNe, reduceIte, Int.reduceEq, Int.reduceLT, Int.reduceLE, Int.reduceNe, Int.reduceToNat, pks.1, sets.1, tick_on, storeK_slp, len14, len1518, len18, ltNat, lA, c1, io, il, by0, neNat, ee, w1]
              refine ⟨j + 1, canon13 (pi := 0) (ai := 1) (n := 2) rfl rfl rfl rfl rfl rfl rfl rfl (by omega) (by omega) (by omega), ⟨by omega, ?_⟩, by omega⟩
              rw [List.take_add_one, List.take_add_one, h2, List.getElem?_eq_getElem hj, List.getElem?_eq_getElem (show j < own.length by omega), of_decide_eq_true ee]
          · obtain rfl : j = l.length := by omega
            have c1 : decide (l.length < l.length) = false := by simp
            have hol : own = l := by
              rw [List.take_of_length_le (by omega), List.take_of_length_le (by omega)] at h2
              exact h2
            simp -implicitDefEqProofs only [sims.1, fx.1, keeps.1, tick_on, calleeK, extractV, oneV, faddrK, nonnil, b_shr, b_shl, fieldK, Nat.reduceAdd, Nat.reduceMul, Nat.reduceSub, Nat.reduceEqDiff, Nat.reduceLT, Nat.reduceLeDiff, Nat.reduceBEq, Nat.reduceBNe, reduceIte, Int.reduceEq, Int.reduceLT, Int.reduceLE, Int.reduceNe, Int.reduceToNat, pks.1, sets.1, tick_on, storeK_slp, len14, len1518, len18, ltNat, lA, c1, sp_pc]
            have b1 : decide (frmR (rdH l) (rdB l) = l) = true := by rw [← hO, hol]; simp
            exact qp_ok (by simp only [prsK, hok, b0, b1, Bool.and_self]) (fun _ _ => rfl) rfl rfl
        · have hmr : mr l = 28 := by simp only [mr, k2, p1, p2, cond_true, cond_false]
          have hnd : need l = po l + 28 := by simp only [need, k1, hmr, cond_false]
          have hPl : (portsR Hi 0).length = 8 := by rw [portsR0, hHi6]; simp only [p1, p2, cond_true, cond_false]
          have wM : IntKind.i64.wrap (((po l + 20 : Nat) : Int) + ((8 : Nat) : Int)) = ((po l + 28 : Nat) : Int) := by rw [IntKind.wrap_i64]; omega
          have gM : decide ((0 : Int) < ((8 : Nat) : Int)) = true := by kernel_rfl
          cases a5 : decide (l.length < po l + 28)
          rotate_left
          · simp -implicitDefEqProofs only [sims.1, fx.1, keeps.1, tick_on, calleeK, extractV, oneV, faddrK, nonnil, b_shr, b_shl, fieldK, Nat.reduceAdd, Nat.reduceMul, Nat.reduceSub, Nat.reduceEqDiff, Nat.reduceLT, Nat.reduceLeDiff, Nat.reduceBEq, Nat.reduceBNe, reduceIte, Int.reduceEq, Int.reduceLT, Int.reduceLE, Int.reduceNe, Int.reduceToNat, pks.1, sets.1, tick_on, storeK_slp, len14, len1518, len18, ltNat, e0, e2, e4, e5, lA, k1, k2, w28, w14, w24, w7, w20, w9, w12, w16, lP, hPl, wM, gM, a5]
            exact qp_short (shortN (by have := of_decide_eq_true a5; omega)) _
          have hlk : po l + 28 ≤ l.length := by have := of_decide_eq_false a5; omega
          have hok : rdOK l = true := ok_of hl14 htg (by omega)
          have hB : rdB l = l.drop (po l + 28) := by simp only [rdB, k1, hmr, cond_false]
          have sF := sl_from l (po l + 28) (by omega)
          rw [← hB] at sF
          have hBl := rdB_len l
          have wQ : IntKind.i64.wrap (((po l + 20 : Nat) : Int) + 2) = ((po l + 22 : Nat) : Int) := by rw [IntKind.wrap_i64]; omega
          simp -implicitDefEqProofs only [sims.1, fx.1, keeps.1, tick_on, calleeK, extractV, oneV, faddrK, nonnil, b_shr, b_shl, fieldK, Nat.reduceAdd, Nat.reduceMul, Nat.reduceSub, Nat.reduceEqDiff, Nat.reduceLT, Nat.reduceLeDiff, Nat.reduceBEq, Nat.reduceBNe, reduceIte, Int.reduceEq, Int.reduceLT, Int.reduceLE, Int.reduceNe, Int.reduceToNat, pks.1, sets.1, tick_on, storeK_slp, len14, len1518, len18, ltNat, e0, e2, e4, e5, lA, k1, k2, w28, w14, w24, w7, w20, w9, w12, w16, lP, hPl, wM, gM, a5, sF, bsl0, wQ]
          refine callD_get l (po l + 20) 2 hb (by omega) (by omega) (by omega) rfl rfl ?_
          simp -implicitDefEqProofs only [sims.1, fx.1, keeps.1, tick_on, calleeK, extractV, oneV, faddrK, nonnil, b_shr, b_shl, fieldK, Nat.reduceAdd, Nat.reduceMul, Nat.reduceSub, Nat.reduceEqDiff, Nat.reduceLT, Nat.reduceLeDiff, Nat.reduceBEq, Nat.reduceBNe, reduceIte, Int.reduceEq, Int.reduceLT, Int.reduceLE, Int.reduceNe, Int.reduceToNat, pks.1, sets.1, tick_on, storeK_slp, len14, len1518, len18, ltNat, e0, e2, e4, e5, lA, k1, k2, w28, w14, w24, w7, w20, w9, w12, w16, lP, hPl, wM, gM, a5, sF, bsl0, wQ]
          refine callD_get l (po l + 22) 2 hb (by omega) (by omega) (by omega) rfl rfl ?_
          simp -implicitDefEqProofs only [sims.1, fx.1, keeps.1, tick_on, calleeK, extractV, oneV, faddrK, nonnil, b_shr, b_shl, fieldK, Nat.reduceAdd, Nat.reduceMul, Nat.reduceSub, Nat.reduceEqDiff, Nat.reduceLT, Nat.reduceLeDiff, Nat.reduceBEq, Nat.reduceBNe, reduceIte, Int.reduceEq, Int.reduceLT, Int.reduceLE, Int.reduceNe, Int.reduceToNat, pks.1, sets.1, tick_on, storeK_slp, len14, len1518, len18, ltNat, e0, e2, e4, e5, lA, k1, k2, w28, w14, w24, w7, w20, w9, w12, w16, lP, hPl, wM, gM, a5, sF, bsl0, wQ]
          rw [apB [] (rdB l)]
          rotate_left
          · exact ct_by
          · rfl
          · rfl
          · omega
          · omega
          simp -implicitDefEqProofs only [sims.1, fx.1, keeps.1, tick_on, calleeK, extractV, oneV, faddrK, nonnil, b_shr, b_shl, fieldK, Nat.reduceAdd, Nat.reduceMul, Nat.reduceSub, Nat.reduceEqDiff, Nat.reduceLT, Nat.reduceLeDiff, Nat.reduceBEq, Nat.reduceBNe, reduceIte, Int.reduceEq, Int.reduceLT, Int.reduceLE, Int.reduceNe, Int.reduceToNat, pks.1, sets.1, tick_on, storeK_slp, len14, len1518, len18, ltNat, e0, e2, e4, e5, lA, k1, k2, w28, w14, w24, w7, w20, w9, w12, w16, lP, hPl, wM, gM, a5, sF, bsl0, wQ, Nat.zero_add]
          rw [← hHi, pc_ext _ (fin_ip1 k1 k2 (by simp only [hasP, k2, p1, p2, Bool.and_self, Bool.or_true, Bool.true_and]))]
          have lO : ∀ m, lenV Try.prog m 22 (byV (bldO (rdH l) (rdB l))) = some (.int .i64 ((bldO (rdH l) (rdB l)).length : Int)) := fun m => len_by _ _
          refine callD_pk (ansB34 (rdH l) (rdB l) (rdB_lt hb) (by have := rdB_len l; omega)) en34 (by simp only [nf, nfs, nf_by, Bool.and_self]) rfl rfl ?_
          cases b0 : decide (bldF (rdH l) (rdB l) = 0)
          · simp -implicitDefEqProofs only [sims.1, fx.1, keeps.1, tick_on, calleeK, extractV, oneV, faddrK, nonnil, b_shr, b_shl, fieldK, Nat.reduceAdd, Nat.reduceMul, Nat.reduceSub, Nat.reduceEqDiff, Nat.reduceLT, Nat.reduceLeDiff, Nat.reduceBEq, Nat.reduceBNe, reduceIte, Int.reduceEq, Int.reduceLT, Int.reduceLE, Int.reduceNe, Int.reduceToNat, pks.1, sets.1, tick_on, storeK_slp, len14, len1518, len18, ltNat, e0, e2, e4, e5, lA, lO, b0]
            exact qp_err (by simp only [prsK, b0, Bool.false_and, Bool.and_false]) _
          have hO : bldO (rdH l) (rdB l) = frmR (rdH l) (rdB l) := by simp only [bldO, b0, cond_true]
          cases b2 : decide ((bldO (rdH l) (rdB l)).length = l.length)
          · simp -implicitDefEqProofs only [sims.1, fx.1, keeps.1, tick_on, calleeK, extractV, oneV, faddrK, nonnil, b_shr, b_shl, fieldK, Nat.reduceAdd, Nat.reduceMul, Nat.reduceSub, Nat.reduceEqDiff, Nat.reduceLT, Nat.reduceLeDiff, Nat.reduceBEq, Nat.reduceBNe, reduceIte, Int.reduceEq, Int.reduceLT, Int.reduceLE, Int.reduceNe, Int.reduceToNat, pks.1, sets.1, tick_on, storeK_slp, len14, len1518, len18, ltNat, e0, e2, e4, e5, lA, lO, b0, neNat, b2]
            refine qp_err ?_ _
            have : decide (frmR (rdH l) (rdB l) = l) = false := by simp only [decide_eq_false_iff_not]; intro h; rw [hO, h] at b2; simp at b2
            simp only [prsK, this, Bool.and_false]
          have hlen := of_decide_eq_true b2
          have hlt := bldO_lt (rdH l) (rdB l) (rdB_lt hb)
          simp -implicitDefEqProofs only [sims.1, fx.1, keeps.1, tick_on, calleeK, extractV, oneV, faddrK, nonnil, b_shr, b_shl, fieldK, Nat.reduceAdd, Nat.reduceMul, Nat.reduceSub, Nat.reduceEqDiff, Nat.reduceLT, Nat.reduceLeDiff, Nat.reduceBEq, Nat.reduceBNe, reduceIte, Int.reduceEq, Int.reduceLT, Int.reduceLE, Int.reduceNe, Int.reduceToNat, pks.1, sets.1, tick_on, storeK_slp, len14, len1518, len18, ltNat, e0, e2, e4, e5, lA, lO, b0, neNat, b2]
          generalize hown : bldO (rdH l) (rdB l) = own at hlen hO hlt
          refine W_loop (fun j : Nat => (mkEnv [(7, byV own), (0, byV l), (9, .int .i64 (j : Int)), (4, .ptr 0 0), (2, .ptr 1 0)], [.var 27 (pcC (rdH l) (.sl 1 2 0 (rdB l).length)), .var 27 (pcC zH .nils), rowB (rdB l)])) (fun j => j ≤ l.length ∧ own.take j = l.take j) (fun j => l.length + 1 - j) 0
            (canon13 (pi := 1) (ai := 0) (n := 3) rfl e0 rfl e4 e2 rfl rfl rfl (by omega) (by omega) (by omega)) ⟨by omega, by simp⟩ ?_
          rintro j ⟨h1, h2⟩
          have w1 := wrap_i64s j (by omega)
          rcases Nat.lt_or_ge j l.length with hj | hj
          · have c1 : decide (j < l.length) = true := by simpa using hj
            have io : ∀ {kk : IntKind}, iaddrS 1 (byV own) (.int kk (j : Int)) = some (.ip (byC (own[j]'(by omega)))) := fun {kk} => ia_by (by omega)
            have il : ∀ {kk : IntKind}, iaddrS 1 (byV l) (.int kk (j : Int)) = some (.ip (byC l[j])) := fun {kk} => ia_by hj
            simp -implicitDefEqProofs only [sims.1, fx.1, keeps.1, tick_on, calleeK, extractV, oneV, faddrK, nonnil, b_shr, b_shl, fieldK, Nat.reduceAdd, Nat.reduceMul, Nat.reduceSub, Nat.reduceEqDiff, Nat.reduceLT, Nat.reduceLeDiff, Nat.reduceBEq, Nat.reduceBNe, reduceIte, Int.reduceEq, Int.reduceLT, Int.reduceLE, Int.reduceNe, Int.reduceToNat, pks.1, sets.1, tick_on, storeK_slp, len14, len1518, len18, ltNat, lA, c1]
            refine w_quiet ?_
            cases ee : decide (own[j]'(by omega) = l[j])
            · simp -implicitDefEqProofs only [sims.1, fx.1, keeps.1, tick_on, calleeK, extractV, oneV, faddrK, nonnil, b_shr, b_shl, fieldK, Nat.reduceAdd, Nat.reduceMul, Nat.reduceSub, Nat.reduceEqDiff, Nat.reduceLT, Nat.reduceLeDiff, Nat.reduceBEq, Nat.reduceBNe, reduceIte, Int.reduceEq, Int.reduceLT, Int.reduceLE, Int.reduceNe, Int.reduceToNat, pks.1, sets.1, tick_on, storeK_slp, len14, len1518, len18, ltNat, lA, c1, io, il, by0, neNat, ee]
              refine qp_err ?_ _
              have : decide (frmR (rdH l) (rdB l) = l) = false := by
                simp only [decide_eq_false_iff_not]
                intro h
                have h5 := of_decide_eq_false ee
                have h6 : own = l := hO.trans h
                subst h6
                exact h5 rfl
              simp only [prsK, this, Bool.and_false]
            · simp -implicitDefEqProofs only [sims.1, fx.1, keeps.1, tick_on, calleeK, extractV, oneV, faddrK, nonnil, b_shr, b_shl, fieldK, Nat.reduceAdd, Nat.reduceMul, Nat.reduceSub, Nat.reduceEqDiff, Nat.reduceLT, Nat.reduceLeDiff, Nat.reduceBEq, Nat.reduceBNe, reduceIte, Int.reduceEq, Int.reduceLT, Int.reduceLE, Int.reduceNe, Int.reduceToNat, pks.1, sets.1, tick_on, storeK_slp, len14, len1518, len18, ltNat, lA, c1, io, il, by0, neNat, ee, w1]
              refine ⟨j + 1, canon13 (pi := 0) (ai := 1) (n := 2) rfl rfl rfl rfl rfl rfl rfl rfl (by omega) (by omega) (by omega), ⟨by omega, ?_⟩, by omega⟩
              rw [List.take_add_one, List.take_add_one, h2, List.getElem?_eq_getElem hj, List.getElem?_eq_getElem (show j < own.length by omega), of_decide_eq_true ee]
          · obtain rfl : j = l.length := by omega
            have c1 : decide (l.length < l.length) = false := by simp
            have hol : own = l := by
              rw [List.take_of_length_le (by omega), List.take_of_length_le (by omega)] at h2
              exact h2
            simp -implicitDefEqProofs only [sims.1, fx.1, keeps.1, tick_on, calleeK, extractV, oneV, faddrK, nonnil, b_shr, b_shl, fieldK, Nat.reduceAdd, Nat.reduceMul, Nat.reduceSub, Nat.reduceEqDiff, Nat.reduceLT, Nat.reduceLeDiff, Nat.reduceBEq, Nat.reduceBNe, reduceIte, Int.reduceEq, Int.reduceLT, Int.reduceLE, Int.reduceNe, Int.reduceToNat, pks.1, sets.1, tick_on, storeK_slp, len14, len1518, len18, ltNat, lA, c1, sp_pc]
            have b1 : decide (frmR (rdH l) (rdB l) = l) = true := by rw [← hO, hol]; simp
            exact qp_ok (by simp only [prsK, hok, b0, b1, Bool.and_self]) (fun _ _ => rfl) rfl rfl
      · have hmr : mr l = 40 := by simp only [mr, k2, p1, cond_true, cond_false]
        have hnd : need l = po l + 40 := by simp only [need, k1, hmr, cond_false]
        have hPl : (portsR Hi 0).length = 20 := by rw [portsR0, hHi6]; simp only [p1, cond_true, cond_false]
        have wM : IntKind.i64.wrap (((po l + 20 : Nat) : Int) + ((20 : Nat) : Int)) = ((po l + 40 : Nat) : Int) := by rw [IntKind.wrap_i64]; omega
        have gM : decide ((0 : Int) < ((20 : Nat) : Int)) = true := by kernel_rfl
        cases a5 : decide (l.length < po l + 40)
        rotate_left
        · simp -implicitDefEqProofs only [sims.1, fx.1, keeps.1, tick_on, calleeK, extractV, oneV, faddrK, nonnil, b_shr, b_shl, fieldK, Nat.reduceAdd, Nat.reduceMul, Nat.reduceSub, Nat.reduceEqDiff, Nat.reduceLT, Nat.reduceLeDiff, Nat.reduceBEq, Nat.reduceBNe, reduceIte, Int.reduceEq, Int.reduceLT, Int.reduceLE, Int.reduceNe, Int.reduceToNat, pks.1, sets.1, tick_on, storeK_slp, len14, len1518, len18, ltNat, e0, e2, e4, e5, lA, k1, k2, w28, w14, w24, w7, w20, w9, w12, w16, lP, hPl, wM, gM, a5]
          exact qp_short (shortN (by have := of_decide_eq_true a5; omega)) _
        have hlk : po l + 40 ≤ l.length := by have := of_decide_eq_false a5; omega
        have hok : rdOK l = true := ok_of hl14 htg (by omega)
        have hB : rdB l = l.drop (po l + 40) := by simp only [rdB, k1, hmr, cond_false]
        have sF := sl_from l (po l + 40) (by omega)
        rw [← hB] at sF
        have hBl := rdB_len l
        have wQ : IntKind.i64.wrap (((po l + 20 : Nat) : Int) + 2) = ((po l + 22 : Nat) : Int) := by rw [IntKind.wrap_i64]; omega
        simp -implicitDefEqProofs only [sims.1, fx.1, keeps.1, tick_on, calleeK, extractV, oneV, faddrK, nonnil, b_shr, b_shl, fieldK, Nat.reduceAdd, Nat.reduceMul, Nat.reduceSub, Nat.reduceEqDiff, Nat.reduceLT, Nat.reduceLeDiff, Nat.reduceBEq, Nat.reduceBNe, reduceIte, Int.reduceEq, Int.reduceLT, Int.reduceLE, Int.reduceNe, Int.reduceToNat, pks.1, sets.1, tick_on, storeK_slp, len14, len1518, len18, ltNat, e0, e2, e4, e5, lA, k1, k2, w28, w14, w24, w7, w20, w9, w12, w16, lP, hPl, wM, gM, a5, sF, bsl0, wQ]
        refine callD_get l (po l + 20) 2 hb (by omega) (by omega) (by omega) rfl rfl ?_
        simp -implicitDefEqProofs only [sims.1, fx.1, keeps.1, tick_on, calleeK, extractV, oneV, faddrK, nonnil, b_shr, b_shl, fieldK, Nat.reduceAdd, Nat.reduceMul, Nat.reduceSub, Nat.reduceEqDiff, Nat.reduceLT, Nat.reduceLeDiff, Nat.reduceBEq, Nat.reduceBNe, reduceIte, Int.reduceEq, Int.reduceLT, Int.reduceLE, Int.reduceNe, Int.reduceToNat, pks.1, sets.1, tick_on, storeK_slp, len14, len1518, len18, ltNat, e0, e2, e4, e5, lA, k1, k2, w28, w14, w24, w7, w20, w9, w12, w16, lP, hPl, wM, gM, a5, sF, bsl0, wQ]
        refine callD_get l (po l + 22) 2 hb (by omega) (by omega) (by omega) rfl rfl ?_
        simp -implicitDefEqProofs only [sims.1, fx.1, keeps.1, tick_on, calleeK, extractV, oneV, faddrK, nonnil, b_shr, b_shl, fieldK, Nat.reduceAdd, Nat.reduceMul, Nat.reduceSub, Nat.reduceEqDiff, Nat.reduceLT, Nat.reduceLeDiff, Nat.reduceBEq, Nat.reduceBNe, reduceIte, Int.reduceEq, Int.reduceLT, Int.reduceLE, Int.reduceNe, Int.reduceToNat, pks.1, sets.1, tick_on, storeK_slp, len14, len1518, len18, ltNat, e0, e2, e4, e5, lA, k1, k2, w28, w14, w24, w7, w20, w9, w12, w16, lP, hPl, wM, gM, a5, sF, bsl0, wQ]
        rw [apB [] (rdB l)]
        rotate_left
        · exact ct_by
        · rfl
        · rfl
        · omega
        · omega
        simp -implicitDefEqProofs only [sims.1, fx.1, keeps.1, tick_on, calleeK, extractV, oneV, faddrK, nonnil, b_shr, b_shl, fieldK, Nat.reduceAdd, Nat.reduceMul, Nat.reduceSub, Nat.reduceEqDiff, Nat.reduceLT, Nat.reduceLeDiff, Nat.reduceBEq, Nat.reduceBNe, reduceIte, Int.reduceEq, Int.reduceLT, Int.reduceLE, Int.reduceNe, Int.reduceToNat, pks.1, sets.1, tick_on, storeK_slp, len14, len1518, len18, ltNat, e0, e2, e4, e5, lA, k1, k2, w28, w14, w24, w7, w20, w9, w12, w16, lP, hPl, wM, gM, a5, sF, bsl0, wQ, Nat.zero_add]
        rw [← hHi, pc_ext _ (fin_ip1 k1 k2 (by simp only [hasP, k2, p1, Bool.and_self, Bool.true_or, Bool.true_and]))]
        have lO : ∀ m, lenV Try.prog m 22 (byV (bldO (rdH l) (rdB l))) = some (.int .i64 ((bldO (rdH l) (rdB l)).length : Int)) := fun m => len_by _ _
        refine callD_pk (ansB34 (rdH l) (rdB l) (rdB_lt hb) (by have := rdB_len l; omega)) en34 (by simp only [nf, nfs, nf_by, Bool.and_self]) rfl rfl ?_
        cases b0 : decide (bldF (rdH l) (rdB l) = 0)
        · simp -implicitDefEqProofs only [sims.1, fx.1, keeps.1, tick_on, calleeK, extractV, oneV, faddrK, nonnil, b_shr, b_shl, fieldK, Nat.reduceAdd, Nat.reduceMul, Nat.reduceSub, Nat.reduceEqDiff, Nat.reduceLT, Nat.reduceLeDiff, Nat.reduceBEq, Nat.reduceBNe, reduceIte, Int.reduceEq, Int.reduceLT, Int.reduceLE, Int.reduceNe, Int.reduceToNat, pks.1, sets.1, tick_on, storeK_slp, len14, len1518, len18, ltNat, e0, e2, e4, e5, lA, lO, b0]
          exact qp_err (by simp only [prsK, b0, Bool.false_and, Bool.and_false]) _
        have hO : bldO (rdH l) (rdB l) = frmR (rdH l) (rdB l) := by simp only [bldO, b0, cond_true]
        cases b2 : decide ((bldO (rdH l) (rdB l)).length = l.length)
        · simp -implicitDefEqProofs only [sims.1, fx.1, keeps.1, tick_on, calleeK, extractV, oneV, faddrK, nonnil, b_shr, b_shl, fieldK, Nat.reduceAdd, Nat.reduceMul, Nat.reduceSub, Nat.reduceEqDiff, Nat.reduceLT, Nat.reduceLeDiff, Nat.reduceBEq, Nat.reduceBNe, reduceIte, Int.reduceEq, Int.reduceLT, Int.reduceLE, Int.reduceNe, Int.reduceToNat, pks.1, sets.1, tick_on, storeK_slp, len14, len1518, len18, ltNat, e0, e2, e4, e5, lA, lO, b0, neNat, b2]
          refine qp_err ?_ _
          have : decide (frmR (rdH l) (rdB l) = l) = false := by simp only [decide_eq_false_iff_not]; intro h; rw [hO, h] at b2; simp at b2
          simp only [prsK, this, Bool.and_false]
        have hlen := of_decide_eq_true b2
        have hlt := bldO_lt (rdH l) (rdB l) (rdB_lt hb)
        simp -implicitDefEqProofs only [sims.1, fx.1, keeps.1, tick_on, calleeK, extractV, oneV, faddrK, nonnil, b_shr, b_shl, fieldK, Nat.reduceAdd, Nat.reduceMul, Nat.reduceSub, Nat.reduceEqDiff, Nat.reduceLT, Nat.reduceLeDiff, Nat.reduceBEq, Nat.reduceBNe, reduceIte, Int.reduceEq, Int.reduceLT, Int.reduceLE, Int.reduceNe, Int.reduceToNat, pks.1, sets.1, tick_on, storeK_slp, len14, len1518, len18, ltNat, e0, e2, e4, e5, lA, lO, b0, neNat, b2]
        generalize hown : bldO (rdH l) (rdB l) = own at hlen hO hlt
        refine W_loop (fun j : Nat => (mkEnv [(7, byV own), (0, byV l), (9, .int .i64 (j : Int)), (4, .ptr 0 0), (2, .ptr 1 0)], [.var 27 (pcC (rdH l) (.sl 1 2 0 (rdB l).length)), .var 27 (pcC zH .nils), rowB (rdB l)])) (fun j => j ≤ l.length ∧ own.take j = l.take j) (fun j => l.length + 1 - j) 0
          (canon13 (pi := 1) (ai := 0) (n := 3) rfl e0 rfl e4 e2 rfl rfl rfl (by omega) (by omega) (by omega)) ⟨by omega, by simp⟩ ?_
        rintro j ⟨h1, h2⟩
        have w1 := wrap_i64s j (by omega)
        rcases Nat.lt_or_ge j l.length with hj | hj
        · have c1 : decide (j < l.length) = true := by simpa using hj
          have io : ∀ {kk : IntKind}, iaddrS 1 (byV own) (.int kk (j : Int)) = some (.ip (byC (own[j]'(by omega)))) := fun {kk} => ia_by (by omega)
          have il : ∀ {kk : IntKind}, iaddrS 1 (byV l) (.int kk (j : Int)) = some (.ip (byC l[j])) := fun {kk} => ia_by hj
          simp -implicitDefEqProofs only [sims.1, fx.1, keeps.1, tick_on, calleeK, extractV, oneV, faddrK, nonnil, b_shr, b_shl, fieldK, Nat.reduceAdd, Nat.reduceMul, Nat.reduceSub, Nat.reduceEqDiff, Nat.reduceLT, Nat.reduceLeDiff, Nat.reduceBEq, Nat.reduceBNe, reduceIte, Int.reduceEq, Int.reduceLT, Int.reduceLE, Int.reduceNe, Int.reduceToNat, pks.1, sets.1, tick_on, storeK_slp, len14, len1518, len18, ltNat, lA, c1]
          refine w_quiet ?_
          cases ee : decide (own[j]'(by omega) = l[j])
          · simp -implicitDefEqProofs only [sims.1, fx.1, keeps.1, tick_on, calleeK, extractV, oneV, faddrK, nonnil, b_shr, b_shl, fieldK, Nat.reduceAdd, Nat.reduceMul, Nat.reduceSub, Nat.reduceEqDiff, Nat.reduceLT, Nat.reduceLeDiff, Nat.reduceBEq, Nat.reduceBNe, reduceIte, Int.reduceEq, Int.reduceLT, Int.reduceLE, Int.reduceNe, Int.reduceToNat, pks.1, sets.1, tick_on, storeK_slp, len14, len1518, len18, ltNat, lA, c1, io, il, by0, neNat, ee]
            refine qp_err ?_ _
            have : decide (frmR (rdH l) (rdB l) = l) = false := by
              simp only [decide_eq_false_iff_not]
              intro h
              have h5 := of_decide_eq_false ee
              have h6 : own = l := hO.trans h
              subst h6
              exact h5 rfl
            simp only [prsK, this, Bool.and_false]
          · simp -implicitDefEqProofs only [sims.1, fx.1, keeps.1, tick_on, calleeK, extractV, oneV, faddrK, nonnil, b_shr, b_shl, fieldK, Nat.reduceAdd, Nat.reduceMul, Nat.reduceSub, Nat.reduceEqDiff, Nat.reduceLT, Nat.reduceLeDiff, Nat.reduceBEq, Nat.reduceBNe, reduceIte, Int.reduceEq, Int.reduceLT, Int.reduceLE, Int.reduceNe, Int.reduceToNat, pks.1, sets.1, tick_on, storeK_slp, len14, len1518, len18, ltNat, lA, c1, io, il, by0, neNat, ee, w1]
            refine ⟨j + 1, canon13 (pi := 0) (ai := 1) (n := 2) rfl rfl rfl rfl rfl rfl rfl rfl (by omega) (by omega) (by omega), ⟨by omega, ?_⟩, by omega⟩
            rw [List.take_add_one, List.take_add_one, h2, List.getElem?_eq_getElem hj, List.getElem?_eq_getElem (show j < own.length by omega), of_decide_eq_true ee]
        · obtain rfl : j = l.length := by omega
          have c1 : decide (l.length < l.length) = false := by simp
          have hol : own = l := by
            rw [List.take_of_length_le (by omega), List.take_of_length_le (by omega)] at h2
            exact h2
          simp -implicitDefEqProofs only [sims.1, fx.1, keeps.1, tick_on, calleeK, extractV, oneV, faddrK, nonnil, b_shr, b_shl, fieldK, Nat.reduceAdd, Nat.reduceMul, Nat.reduceSub, Nat.reduceEqDiff, Nat.reduceLT, Nat.reduceLeDiff, Nat.reduceBEq, Nat.reduceBNe, reduceIte, Int.reduceEq, Int.reduceLT, Int.reduceLE, Int.reduceNe, Int.reduceToNat, pks.1, sets.1, tick_on, storeK_slp, len14, len1518, len18, ltNat, lA, c1, sp_pc]
          have b1 : decide (frmR (rdH l) (rdB l) = l) = true := by rw [← hO, hol]; simp
          exact qp_ok (by simp only [prsK, hok, b0, b1, Bool.and_self]) (fun _ _ => rfl) rfl rfl
  · have hneed : need l = po l + 28 := by simp only [need, k1, cond_true]
    cases a4 : decide (l.length < po l + 28)
    rotate_left
    · simp -implicitDefEqProofs only [sims.1, fx.1, keeps.1, tick_on, calleeK, extractV, oneV, faddrK, nonnil, b_shr, b_shl, fieldK, Nat.reduceAdd, Nat.reduceMul, Nat.reduceSub, Nat.reduceEqDiff, Nat.reduceLT, Nat.reduceLeDiff, Nat.reduceBEq, Nat.reduceBNe, reduceIte, Int.reduceEq, Int.reduceLT, Int.reduceLE, Int.reduceNe, Int.reduceToNat, pks.1, sets.1, tick_on, storeK_slp, len14, len1518, len18, ltNat, e0, e2, e4, e5, lA, k1, w28, w14, w24, w7, w20, w9, w12, w16, a4, h3_2]
      exact qp_short (shortN (by have := of_decide_eq_true a4; omega)) _
    have hl20 : po l + 28 ≤ l.length := by have := of_decide_eq_false a4; omega
    have hok : rdOK l = true := ok_of hl14 htg (by omega)
    have hB : rdB l = [l[po l + 7]'(by omega)] := by
      simp only [rdB, k1, cond_true]
      rw [List.drop_eq_getElem_cons (by omega)]
      rfl
    have hBl : (rdB l).length = 1 := by rw [hB]; rfl
    have i7 : ∀ {kk : IntKind}, iaddrS 1 (byV l) (.int kk ((po l + 7 : Nat) : Int)) = some (.ip (byC (l[po l + 7]'(by omega)))) := fun {kk} => ia_by (by omega)
    simp -implicitDefEqProofs only [sims.1, fx.1, keeps.1, tick_on, calleeK, extractV, oneV, faddrK, nonnil, b_shr, b_shl, fieldK, Nat.reduceAdd, Nat.reduceMul, Nat.reduceSub, Nat.reduceEqDiff, Nat.reduceLT, Nat.reduceLeDiff, Nat.reduceBEq, Nat.reduceBNe, reduceIte, Int.reduceEq, Int.reduceLT, Int.reduceLE, Int.reduceNe, Int.reduceToNat, pks.1, sets.1, tick_on, storeK_slp, len14, len1518, len18, ltNat, e0, e2, e4, e5, lA, k1, w28, w14, w24, w7, w20, w9, w12, w16, a4, h3_2, i7, by0, bs22]
    refine callD_get l (po l + 14) 4 hb (by omega) (by omega) (by omega) rfl rfl ?_
    simp -implicitDefEqProofs only [sims.1, fx.1, keeps.1, tick_on, calleeK, extractV, oneV, faddrK, nonnil, b_shr, b_shl, fieldK, Nat.reduceAdd, Nat.reduceMul, Nat.reduceSub, Nat.reduceEqDiff, Nat.reduceLT, Nat.reduceLeDiff, Nat.reduceBEq, Nat.reduceBNe, reduceIte, Int.reduceEq, Int.reduceLT, Int.reduceLE, Int.reduceNe, Int.reduceToNat, pks.1, sets.1, tick_on, storeK_slp, len14, len1518, len18, ltNat, e0, e2, e4, e5, lA, k1, w28, w14, w24, w7, w20, w9, w12, w16, a4, h3_2, i7, by0, bs22]
    refine callD_get l (po l + 24) 4 hb (by omega) (by omega) (by omega) rfl rfl ?_
    simp -implicitDefEqProofs only [sims.1, fx.1, keeps.1, tick_on, calleeK, extractV, oneV, faddrK, nonnil, b_shr, b_shl, fieldK, Nat.reduceAdd, Nat.reduceMul, Nat.reduceSub, Nat.reduceEqDiff, Nat.reduceLT, Nat.reduceLeDiff, Nat.reduceBEq, Nat.reduceBNe, reduceIte, Int.reduceEq, Int.reduceLT, Int.reduceLE, Int.reduceNe, Int.reduceToNat, pks.1, sets.1, tick_on, storeK_slp, len14, len1518, len18, ltNat, e0, e2, e4, e5, lA, k1, w28, w14, w24, w7, w20, w9, w12, w16, a4, h3_2, i7, by0, bs22]
    rw [pc_ext _ (fin_arp k1), ← hB]
    have lO : ∀ m, lenV Try.prog m 22 (byV (bldO (rdH l) (rdB l))) = some (.int .i64 ((bldO (rdH l) (rdB l)).length : Int)) := fun m => len_by _ _
    refine callD_pk (ansB34 (rdH l) (rdB l) (rdB_lt hb) (by have := rdB_len l; omega)) en34 (by simp only [nf, nfs, nf_by, Bool.and_self]) rfl hBl.symm ?_
    cases b0 : decide (bldF (rdH l) (rdB l) = 0)
    · simp -implicitDefEqProofs only [sims.1, fx.1, keeps.1, tick_on, calleeK, extractV, oneV, faddrK, nonnil, b_shr, b_shl, fieldK, Nat.reduceAdd, Nat.reduceMul, Nat.reduceSub, Nat.reduceEqDiff, Nat.reduceLT, Nat.reduceLeDiff, Nat.reduceBEq, Nat.reduceBNe, reduceIte, Int.reduceEq, Int.reduceLT, Int.reduceLE, Int.reduceNe, Int.reduceToNat, pks.1, sets.1, tick_on, storeK_slp, len14, len1518, len18, ltNat, e0, e2, e4, e5, lA, lO, b0]
      exact qp_err (by simp only [prsK, b0, Bool.false_and, Bool.and_false]) _
    have hO : bldO (rdH l) (rdB l) = frmR (rdH l) (rdB l) := by simp only [bldO, b0, cond_true]
    cases b2 : decide ((bldO (rdH l) (rdB l)).length = l.length)
    · simp -implicitDefEqProofs only [sims.1, fx.1, keeps.1, tick_on, calleeK, extractV, oneV, faddrK, nonnil, b_shr, b_shl, fieldK, Nat.reduceAdd, Nat.reduceMul, Nat.reduceSub, Nat.reduceEqDiff, Nat.reduceLT, Nat.reduceLeDiff, Nat.reduceBEq, Nat.reduceBNe, reduceIte, Int.reduceEq, Int.reduceLT, Int.reduceLE, Int.reduceNe, Int.reduceToNat, pks.1, sets.1, tick_on, storeK_slp, len14, len1518, len18, ltNat, e0, e2, e4, e5, lA, lO, b0, neNat, b2]
      refine qp_err ?_ _
      have : decide (frmR (rdH l) (rdB l) = l) = false := by simp only [decide_eq_false_iff_not]; intro h; rw [hO, h] at b2; simp at b2
      simp only [prsK, this, Bool.and_false]
    have hlen := of_decide_eq_true b2
    have hlt := bldO_lt (rdH l) (rdB l) (rdB_lt hb)
    simp -implicitDefEqProofs only [sims.1, fx.1, keeps.1, tick_on, calleeK, extractV, oneV, faddrK, nonnil, b_shr, b_shl, fieldK, Nat.reduceAdd, Nat.reduceMul, Nat.reduceSub, Nat.reduceEqDiff, Nat.reduceLT, Nat.reduceLeDiff, Nat.reduceBEq, Nat.reduceBNe, reduceIte, Int.reduceEq, Int.reduceLT, Int.reduceLE, Int.reduceNe, Int.reduceToNat, pks.1, sets.1, tick_on, storeK_slp, len14, len1518, len18, ltNat, e0, e2, e4, e5, lA, lO, b0, neNat, b2]
    generalize hown : bldO (rdH l) (rdB l) = own at hlen hO hlt
    refine W_loop (fun j : Nat => (mkEnv [(7, byV own), (0, byV l), (9, .int .i64 (j : Int)), (4, .ptr 0 0), (2, .ptr 1 0)], [.var 27 (pcC (rdH l) (.sl 1 2 0 1)), .var 27 (pcC zH .nils), rowB (rdB l)])) (fun j => j ≤ l.length ∧ own.take j = l.take j) (fun j => l.length + 1 - j) 0
      (canon13 (pi := 1) (ai := 0) (n := 2) rfl e0 rfl e4 e2 rfl rfl rfl (by omega) (by omega) (by omega)) ⟨by omega, by simp⟩ ?_
    rintro j ⟨h1, h2⟩
    have w1 := wrap_i64s j (by omega)
    rcases Nat.lt_or_ge j l.length with hj | hj
    · have c1 : decide (j < l.length) = true := by simpa using hj
      have io : ∀ {kk : IntKind}, iaddrS 1 (byV own) (.int kk (j : Int)) = some (.ip (byC (own[j]'(by omega)))) := fun {kk} => ia_by (by omega)
      have il : ∀ {kk : IntKind}, iaddrS 1 (byV l) (.int kk (j : Int)) = some (.ip (byC l[j])) := fun {kk} => ia_by hj
      simp -implicitDefEqProofs only [sims.1, fx.1, keeps.1, tick_on, calleeK, extractV, oneV, faddrK, nonnil, b_shr, b_shl, fieldK, Nat.reduceAdd, Nat.reduceMul, Nat.reduceSub, Nat.reduceEqDiff, Nat.reduceLT, Nat.reduceLeDiff, Nat.reduceBEq, Nat.reduceBNe, reduceIte, Int.reduceEq, Int.reduceLT, Int.reduceLE, Int.reduceNe, Int.reduceToNat, pks.1, sets.1, tick_on, storeK_slp, len14, len1518, len18, ltNat, lA, c1]
      refine w_quiet ?_
      cases ee : decide (own[j]'(by omega) = l[j])
      · simp -implicitDefEqProofs only [sims.1, fx.1, keeps.1, tick_on, calleeK, extractV, oneV, faddrK, nonnil, b_shr, b_shl, fieldK, Nat.reduceAdd, Nat.reduceMul, Nat.reduceSub, Nat.reduceEqDiff, Nat.reduceLT, Nat.reduceLeDiff, Nat.reduceBEq, Nat.reduceBNe, reduceIte, Int.reduceEq, Int.reduceLT, Int.reduceLE, Int.reduceNe, Int.reduceToNat, pks.1, sets.1, tick_on, storeK_slp, len14, len1518, len18, ltNat, lA, c1, io, il, by0, neNat, ee]
        refine qp_err ?_ _
        have : decide (frmR (rdH l) (rdB l) = l) = false := by
          simp only [decide_eq_false_iff_not]
          intro h
          have h5 := of_decide_eq_false ee
          have h6 : own = l := hO.trans h
          subst h6
          exact h5 rfl
        simp only [prsK, this, Bool.and_false]
      · simp -implicitDefEqProofs only [sims.1, fx.1, keeps.1, tick_on, calleeK, extractV, oneV, faddrK, nonnil, b_shr, b_shl, fieldK, Nat.reduceAdd, Nat.reduceMul, Nat.reduceSub, Nat.reduceEqDiff, Nat.reduceLT, Nat.reduceLeDiff, Nat.reduceBEq, Nat.reduceBNe, reduceIte, Int.reduceEq, Int.reduceLT, Int.reduceLE, Int.reduceNe, Int.reduceToNat, pks.1, sets.1, tick_on, storeK_slp, len14, len1518, len18, ltNat, lA, c1, io, il, by0, neNat, ee, w1]
        refine ⟨j + 1, canon13 (pi := 0) (ai := 1) (n := 2) rfl rfl rfl rfl rfl rfl rfl rfl (by omega) (by omega) (by omega), ⟨by omega, ?_⟩, by omega⟩
        rw [List.take_add_one, List.take_add_one, h2, List.getElem?_eq_getElem hj, List.getElem?_eq_getElem (show j < own.length by omega), of_decide_eq_true ee]
    · obtain rfl : j = l.length := by omega
      have c1 : decide (l.length < l.length) = false := by simp
      have hol : own = l := by
        rw [List.take_of_length_le (by omega), List.take_of_length_le (by omega)] at h2
        exact h2
      simp -implicitDefEqProofs only [sims.1, fx.1, keeps.1, tick_on, calleeK, extractV, oneV, faddrK, nonnil, b_shr, b_shl, fieldK, Nat.reduceAdd, Nat.reduceMul, Nat.reduceSub, Nat.reduceEqDiff, Nat.reduceLT, Nat.reduceLeDiff, Nat.reduceBEq, Nat.reduceBNe, reduceIte, Int.reduceEq, Int.reduceLT, Int.reduceLE, Int.reduceNe, Int.reduceToNat, pks.1, sets.1, tick_on, storeK_slp, len14, len1518, len18, ltNat, lA, c1, sp_pc]
      have b1 : decide (frmR (rdH l) (rdB l) = l) = true := by rw [← hO, hol]; simp
      exact qp_ok (by simp only [prsK, hok, b0, b1, Bool.and_self]) (fun _ _ => rfl) rfl hBl.symm
theorem ansB13 (l : List Nat) (hb : ∀ b ∈ l, b < 256) (hl : l.length < 140737488351233) : AnsB Try.prog 13 [byV l] (prsA l) := ansB_of3 (snd13 l hb hl)
theorem ans13 (l : List Nat) (hb : ∀ b ∈ l, b < 256) (hl : l.length < 140737488351233) : Ans Try.prog 13 [byV l] (prsA l) := (ansB13 l hb hl).ans (by simp only [nfs, nf_by, Bool.and_self]) (by simp only [prsA, nf, nfs, nf_pkA, Bool.and_self])
end Go.Proofs.Ytmbjjelbpnbmoaa
