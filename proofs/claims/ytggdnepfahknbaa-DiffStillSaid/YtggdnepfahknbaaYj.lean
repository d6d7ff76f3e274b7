/- The rules that count, as the program finds them: the walk. No condition. -/
import Derived.Test.YtggdnepfahknbaaYi
namespace Go.Proofs.Ytggdnepfahknbaa
open Go Ab
set_option linter.unusedSimpArgs false
set_option linter.unusedVariables false
set_option maxRecDepth 20000

def oV (k q : Nat) : V := match k with
  | 0 => .nils
  | k + 1 => .sl 23 q 0 (k + 1)
theorem oV_pos {k q : Nat} (h : k ≠ 0) : oV k q = .sl 23 q 0 k := by
  cases k with
  | zero => exact absurd rfl h
  | succ k => rfl
theorem oV_len (mm : Mem) (k q : Nat) : lenV Try.prog mm 50 (oV k q) = some (.int .i64 (k : Int)) := by cases k <;> rfl
def OrdR (mm : Mem) (q : Nat) (o : List Ru) : Prop := o ≠ [] → mm[q]? = some (.row 54 23 (o.map plC))
def Kp (m mm : Mem) : Prop := m.length ≤ mm.length ∧ ∀ k, k < m.length → mm[k]? = m[k]?
theorem Kp.refl (m : Mem) : Kp m m := ⟨Nat.le_refl _, fun _ _ => rfl⟩
theorem Kp.trans {a b c : Mem} (h : Kp a b) (h2 : Kp b c) : Kp a c := ⟨Nat.le_trans h.1 h2.1, fun k hk => (h2.2 k (Nat.lt_of_lt_of_le hk h.1)).trans (h.2 k hk)⟩
theorem Kp.app (m x : Mem) : Kp m (m ++ x) := ⟨by simp, fun k hk => List.getElem?_append_left hk⟩
theorem Kp.set {m mm : Mem} {n : Nat} {b : B} (h : Kp m mm) (hn : m.length ≤ n) : Kp m (mm.set n b) := ⟨by simpa using h.1, fun k hk => by rw [List.getElem?_set_ne (by omega)]; exact h.2 k hk⟩
theorem zE54 : ((zeroE Try.prog 54).map fun x => (x.2.1, Nat.ble x.2.2 1000)) = some (23, true) := by kernel_rfl
theorem un50 : Try.prog.underlying 50 = some (.slice 54) := by kernel_rfl
theorem nf_pl (r : Ru) : nf (plV r) = true := by
  show nfs (plC r) = true
  have : nfs (mC r.w) = true := nfs_cl
  show (true && nfs (mC r.w)) = true
  rw [this]; rfl
theorem bs50 (r : Ru) (m : Mem) : bsliceV Try.prog 50 1 [(0, plV r)] m = some (.sl 23 m.length 0 1, m ++ [.row 54 23 [plC r]]) := by
  have h1 : zeroE Try.prog 54 = some (.int .i64 0 :: cl .u64 22 (fun _ => 0), 23, 184) := by kernel_rfl
  have hs : stys ([(0, plV r)].map (·.2)) = true := by
    have : nfs [plV r] = true := nfs_cons (nf_pl r) rfl
    simp [stys, this]
  unfold bsliceV
  simp only [un50, h1, frzQ_nf _ m hs]
  rfl
theorem app_pl {mm : Mem} {q : Nat} {o : List Ru} (r : Ru) (h : OrdR mm q o) (hl : o.length ≤ 200000) :
    ∃ mm', appendA Try.prog 50 50 (oV o.length q) (.sl 23 mm.length 0 1) (mm ++ [.row 54 23 [plC r]]) = some (oV (o.length + 1) (mm.length + 1), mm') ∧ mm'.length = mm.length + 2 ∧ OrdR mm' (mm.length + 1) (o ++ [r]) ∧ ∀ k, k < mm.length → (k ≠ q ∨ o = []) → mm'[k]? = mm[k]? := by
  obtain ⟨mm', h1, h2, h3, h4⟩ := app_any (t := 50) (e := 54) (s := 23) (by kernel_rfl) zE54 (by kernel_rfl) (mm := mm) (q := q) (l := o.map plC) (v := oV o.length q) (plC r) (by
    cases o with
    | nil => exact .inl ⟨rfl, rfl⟩
    | cons a l => exact .inr ⟨by simp, by rw [List.length_map]; rfl, h (by simp)⟩) (by rw [List.length_map]; exact hl)
  rw [List.length_map] at h1
  refine ⟨mm', h1, h2, fun _ => by rw [h3]; simp, fun k hk hn => h4 k hk (hn.imp id fun e => by rw [e]; rfl)⟩

theorem rs_len (l : List Ru) : (l.map ruC).length = l.length := List.length_map ..
theorem z49 : zeroV Try.prog 36 ≠ none := by
  have : (zeroV Try.prog 36).isSome = true := by kernel_rfl
  intro h; rw [h] at this; cases this
/-- Where the range over the rules, from the end on, has come to: these are behind it. -/
def InvS (l : List Ru) (m : Mem) (N A : Nat) (s : List Ru) (m' : Mem) : Prop :=
  ∃ q, m'[N + 3]? = some (.var 22 [rsV l]) ∧ m'[N]? = some (.var 50 [oV (lastL s).length q]) ∧ m'[N + 2]? = some (.var 69 [.mp (N + 1)]) ∧ isMap m' (N + 1) ((cntP s).map enP) ∧ isMap m' A ((nowP l).map enP) ∧ OrdR m' q (lastL s).reverse ∧ Kp m m' ∧ N + 4 ≤ q ∧ N + 4 ≤ m'.length
def InvB (l : List Ru) (m : Mem) (N A : Nat) (j : Nat) (m' : Mem) : Prop := InvS l m N A (l.drop (l.length - j)) m'
theorem drop_next {l : List Ru} {j : Nat} (hj : j < l.length) : l.drop (l.length - (j + 1)) = l[l.length - 1 - j]'(by omega) :: l.drop (l.length - j) := by
  have e1 : l.length - (j + 1) = l.length - 1 - j := by omega
  have e2 : l.length - j = l.length - 1 - j + 1 := by omega
  rw [e1, e2]
  exact List.drop_eq_getElem_cons (by omega)
def J11 (M1 M2 M3 : Mem) : Nat → Mem → Prop
  | 0, m => m = M1
  | 1, m => m = M1
  | 2, m => m = M2
  | _, m => m = M3
theorem J11_at {M1 M2 M3 : Mem} {n : Nat} {b : B} (h1 : M1[n]? = some b) (h2 : M2[n]? = some b) (h3 : M3[n]? = some b) : ∀ k m, J11 M1 M2 M3 k m → m[n]? = some b
  | 0, m, e => by rw [show m = M1 from e, h1]
  | 1, m, e => by rw [show m = M1 from e, h1]
  | 2, m, e => by rw [show m = M2 from e, h2]
  | _ + 3, m, e => by rw [show m = M3 from e, h3]
def J13 (M1 M2 M3 M4 : Mem) : Nat → Mem → Prop
  | 0, m => m = M1
  | 1, m => m = M1
  | 2, m => m = M2
  | 3, m => m = M3
  | _, m => m = M4
theorem J13_at {M1 M2 M3 M4 : Mem} {n : Nat} {b : B} (h1 : M1[n]? = some b) (h2 : M2[n]? = some b) (h3 : M3[n]? = some b) (h4 : M4[n]? = some b) : ∀ k m, J13 M1 M2 M3 M4 k m → m[n]? = some b
  | 0, m, e => by rw [show m = M1 from e, h1]
  | 1, m, e => by rw [show m = M1 from e, h1]
  | 2, m, e => by rw [show m = M2 from e, h2]
  | 3, m, e => by rw [show m = M3 from e, h3]
  | _ + 4, m, e => by rw [show m = M4 from e, h4]
theorem J13_at3 {M1 M2 M3 M4 : Mem} {n : Nat} {b : B} (h1 : M1[n]? = some b) (h2 : M2[n]? = some b) (h3 : M3[n]? = some b) : ∀ k m, k ≤ 3 → J13 M1 M2 M3 M4 k m → m[n]? = some b
  | 0, m, _, e => by rw [show m = M1 from e, h1]
  | 1, m, _, e => by rw [show m = M1 from e, h1]
  | 2, m, _, e => by rw [show m = M2 from e, h2]
  | 3, m, _, e => by rw [show m = M3 from e, h3]
  | _ + 4, m, hk, e => by omega
theorem z3 : zeroV Try.prog 3 = some (.int .i64 0) := by kernel_rfl
def J5 (M M' : Mem) : Nat → Mem → Prop
  | 0, m => m = M
  | 1, m => m = M
  | _, m => m = M'
theorem J5_at {M M' : Mem} {n : Nat} {b : B} (h : M[n]? = some b) (h' : M'[n]? = some b) : ∀ k m, J5 M M' k m → m[n]? = some b
  | 0, m, e => by rw [show m = M from e, h]
  | 1, m, e => by rw [show m = M from e, h]
  | _ + 2, m, e => by rw [show m = M' from e, h']
theorem st1n (mm : Mem) (t : TypeId) (z v : V) (h : cellsOfV v = [v]) (hb : cellsB v = true) : storeK 1 (mm ++ [.var t [z]]) (.ptr mm.length 0) v = some (mm ++ [.var t [v]]) := by
  have h0 : (mm ++ [B.var t [z]])[mm.length]? = some (.var t [z]) := by simp
  unfold storeK
  rw [h, if_pos ⟨rfl, hb⟩]
  simp only [h0]
  rw [if_pos (by simp)]
  simp [splice]

theorem st1_at {mm : Mem} {n : Nat} {t : TypeId} {z v : V} (h0 : mm[n]? = some (.var t [z])) (h : cellsOfV v = [v]) (hb : cellsB v = true) : storeK 1 mm (.ptr n 0) v = some (mm.set n (.var t [v])) := by
  unfold storeK
  rw [h, if_pos ⟨rfl, hb⟩]
  simp only [h0]
  rw [if_pos (by simp)]
  simp [splice]

set_option maxHeartbeats 4000000 in
theorem snd14 (l : List Ru) (hw : ∀ r ∈ l, wfR r) (hl : l.length ≤ 1000) (m : Mem) : Snd Try.prog 14 [rsV l] m fun r => ∃ m' n q, r = .ret (.tup [.mp n, oV (lastL l).length q]) m' ∧ m.length ≤ n ∧ isMap m' n ((nowP l).map enP) ∧ OrdR m' q (lastL l) ∧ Kp m m' := by
  refine Snd_of_WB fol rfl rfl (by kernel_rfl) (by kernel_rfl) ?_ (fun v m' h => by obtain ⟨_, _, _, h, _⟩ := h; cases h)
  have evn : ∀ env, evO env (.const (.slice none 0 0)) = .nils := fun _ => rfl
  simp -implicitDefEqProofs only [sims.1, fx.1, keeps.1, tick_on, calleeK, extractV, oneV, faddrK, nonnil, b_shr, b_shl, fieldK, Nat.reduceAdd, Nat.reduceMul, Nat.reduceSub, Nat.reduceEqDiff, Nat.reduceLT, Nat.reduceLeDiff, Nat.reduceBEq, Nat.reduceBNe, reduceIte, Int.reduceEq, Int.reduceLT, Int.reduceLE, Int.reduceNe, Int.reduceToNat, evn, hr_seq, hr_region, hr_loop, hr_cond, hr_range, Bool.or_true, Bool.true_or, Bool.or_false, wb_seq, wb_seqR, wb_range, len_rs]
  refine W_loopM (fun i : Nat => [(13, .int .i64 (l.length : Int)), (12, rsV l), (14, .int .i64 (i : Int)), (0, rsV l), (4, .mp m.length)])
    (fun i mm => i ≤ l.length ∧ isMap mm m.length ((nowP (l.take i)).map enP) ∧ Kp m mm) (fun i => l.length - i) 0 (by kernel_rfl) ⟨Nat.zero_le _, isMap_new m, Kp.app _ _⟩ ?_
  rintro i mm ⟨h1, h2, h3⟩
  rcases Nat.lt_or_ge i l.length with hi | hi
  · have c1 : decide (i < l.length) = true := by simpa using hi
    have w1 := add1N i (by omega)
    have hwi := hw _ (List.getElem_mem hi)
    have hml := h2.lt
    simp -implicitDefEqProofs only [sims.1, fx.1, keeps.1, tick_on, calleeK, extractV, oneV, faddrK, nonnil, b_shr, b_shl, fieldK, Nat.reduceAdd, Nat.reduceMul, Nat.reduceSub, Nat.reduceEqDiff, Nat.reduceLT, Nat.reduceLeDiff, Nat.reduceBEq, Nat.reduceBNe, reduceIte, Int.reduceEq, Int.reduceLT, Int.reduceLE, Int.reduceNe, Int.reduceToNat, ltNat, c1, ia_rs hi, pR, st36n]
    have h2' : isMap (mm ++ [.var 36 (ruC l[i])]) m.length ((nowP (l.take i)).map enP) := h2.of (List.getElem?_append_left hml)
    have hx : (mm ++ [B.var 36 (ruC l[i])])[mm.length]? = some (.var 36 (ruC l[i])) := by simp
    have h3' : Kp m (mm ++ [.var 36 (ruC l[i])]) := h3.trans (Kp.app _ _)
    obtain ⟨b, hb1, hb2⟩ := put_pl un49 (ruV l[i]) h2' hwi (nowP_wf _ fun r hr => hw r (List.mem_of_mem_take hr))
    generalize mm ++ [B.var 36 (ruC l[i])] = M at h2' hx h3' hb1 hb2 ⊢
    refine w_calls (J5 M (M.set m.length b)) [2, 4] [.mp m.length, ruV l[i], plV l[i], ruV l[i], .tup []] (by kernel_rfl) rfl ?_ ?_
    · have hld := J5_at hx (M' := M.set m.length b) (by rw [List.getElem?_set_ne (by omega), hx])
      refine okN_pure rfl rfl rfl (fun _ _ _ => by kernel_rfl) ?_
      refine okN_pure rfl rfl rfl (fun k m' h => by
        have := hld k m' h
        show Option.map (Res.val · m') (loadV Try.prog m' 36 (.ptr mm.length 0)) = _
        simp -implicitDefEqProofs only [sims.1, fx.1, keeps.1, tick_on, calleeK, extractV, oneV, faddrK, nonnil, b_shr, b_shl, fieldK, Nat.reduceAdd, Nat.reduceMul, Nat.reduceSub, Nat.reduceEqDiff, Nat.reduceLT, Nat.reduceLeDiff, Nat.reduceBEq, Nat.reduceBNe, reduceIte, Int.reduceEq, Int.reduceLT, Int.reduceLE, Int.reduceNe, Int.reduceToNat, this, pR]) ?_
      refine okN_call rfl (show calleeV (evO _) _ = some (24, [ruV l[i]]) by kernel_rfl) rfl rfl (fun m' h => ?_) ?_
      · exact callD_ans (ans24 l[i]) en24 (nfs_cons (nf_ru _) rfl) (nf_pl _) ⟨rfl, h⟩
      refine okN_pure rfl rfl rfl (fun k m' h => by
        have := hld k m' h
        show Option.map (Res.val · m') (loadV Try.prog m' 36 (.ptr mm.length 0)) = _
        simp -implicitDefEqProofs only [sims.1, fx.1, keeps.1, tick_on, calleeK, extractV, oneV, faddrK, nonnil, b_shr, b_shl, fieldK, Nat.reduceAdd, Nat.reduceMul, Nat.reduceSub, Nat.reduceEqDiff, Nat.reduceLT, Nat.reduceLeDiff, Nat.reduceBEq, Nat.reduceBNe, reduceIte, Int.reduceEq, Int.reduceLT, Int.reduceLE, Int.reduceNe, Int.reduceToNat, this, pR]) ?_
      refine okN_skip rfl rfl rfl rfl (fun m' h => ?_) ?_
      · refine ⟨M.set m.length b, ?_, rfl⟩
        rw [show m' = M from h]
        show Option.map Res.skip (putV Try.prog 49 M (.mp m.length) (.agg (plC l[i])) (ruV l[i])) = _
        rw [hb1]
        rfl
      exact okN_nil
    · rintro m' h
      rw [show m' = M.set m.length b from h]
      simp -implicitDefEqProofs only [sims.1, fx.1, keeps.1, tick_on, calleeK, extractV, oneV, faddrK, nonnil, b_shr, b_shl, fieldK, Nat.reduceAdd, Nat.reduceMul, Nat.reduceSub, Nat.reduceEqDiff, Nat.reduceLT, Nat.reduceLeDiff, Nat.reduceBEq, Nat.reduceBNe, reduceIte, Int.reduceEq, Int.reduceLT, Int.reduceLE, Int.reduceNe, Int.reduceToNat, putAll, w1]
      refine ⟨i + 1, by kernel_rfl, ⟨hi, ?_, h3'.set (Nat.le_refl _)⟩, by omega⟩
      rw [nowP_take hi]
      exact hb2
  · have c1 : decide (i < l.length) = false := by simpa using hi
    obtain rfl : i = l.length := by omega
    rw [List.take_length] at h2
    have hml := h2.lt
    simp -implicitDefEqProofs only [sims.1, fx.1, keeps.1, tick_on, calleeK, extractV, oneV, faddrK, nonnil, b_shr, b_shl, fieldK, Nat.reduceAdd, Nat.reduceMul, Nat.reduceSub, Nat.reduceEqDiff, Nat.reduceLT, Nat.reduceLeDiff, Nat.reduceBEq, Nat.reduceBNe, reduceIte, Int.reduceEq, Int.reduceLT, Int.reduceLE, Int.reduceNe, Int.reduceToNat, ltNat, c1, evn, hr_seq, hr_region, hr_loop, hr_cond, hr_range, Bool.or_true, Bool.true_or, Bool.or_false, wb_seq, wb_seqR, wb_range]
    have st69 : ∀ (X : Mem) (z : V) (n : Nat), storeK 1 (X ++ [.var 69 [z]]) (.ptr X.length 0) (.mp n) = some (X ++ [.var 69 [.mp n]]) := fun X z n => st1n X 69 z (.mp n) rfl rfl
    simp -implicitDefEqProofs only [sims.1, fx.1, keeps.1, tick_on, calleeK, extractV, oneV, faddrK, nonnil, b_shr, b_shl, fieldK, Nat.reduceAdd, Nat.reduceMul, Nat.reduceSub, Nat.reduceEqDiff, Nat.reduceLT, Nat.reduceLeDiff, Nat.reduceBEq, Nat.reduceBNe, reduceIte, Int.reduceEq, Int.reduceLT, Int.reduceLE, Int.reduceNe, Int.reduceToNat, st69, evn, hr_seq, hr_region, hr_loop, hr_cond, hr_range, Bool.or_true, Bool.true_or, Bool.or_false, wb_seq, wb_seqR, wb_range]
    refine callD_all (snd25 l _) en25 ?_
    simp -implicitDefEqProofs only [sims.1, fx.1, keeps.1, tick_on, calleeK, extractV, oneV, faddrK, nonnil, b_shr, b_shl, fieldK, Nat.reduceAdd, Nat.reduceMul, Nat.reduceSub, Nat.reduceEqDiff, Nat.reduceLT, Nat.reduceLeDiff, Nat.reduceBEq, Nat.reduceBNe, reduceIte, Int.reduceEq, Int.reduceLT, Int.reduceLE, Int.reduceNe, Int.reduceToNat, hr_seq, hr_region, hr_loop, hr_cond, hr_range, Bool.or_true, Bool.true_or, Bool.or_false, wb_seq, wb_seqR, wb_range]
    simp only [List.length_append, List.length_cons, List.length_nil, Nat.zero_add, Nat.add_assoc, Nat.reduceAdd]
    have g0 : (mm ++ [B.var 50 [V.nils]] ++ [B.map [] [] 0] ++ [B.var 69 [V.mp (mm.length + 1)]] ++ [B.var 22 [rsV l]])[mm.length]? = some (.var 50 [.nils]) := by simp
    have g1 : isMap (mm ++ [B.var 50 [V.nils]] ++ [B.map [] [] 0] ++ [B.var 69 [V.mp (mm.length + 1)]] ++ [B.var 22 [rsV l]]) (mm.length + 1) [] := ⟨[], 0, by simp, rfl, by simp, by simp⟩
    have g2 : (mm ++ [B.var 50 [V.nils]] ++ [B.map [] [] 0] ++ [B.var 69 [V.mp (mm.length + 1)]] ++ [B.var 22 [rsV l]])[mm.length + 2]? = some (.var 69 [.mp (mm.length + 1)]) := by simp
    have g3 : (mm ++ [B.var 50 [V.nils]] ++ [B.map [] [] 0] ++ [B.var 69 [V.mp (mm.length + 1)]] ++ [B.var 22 [rsV l]])[mm.length + 3]? = some (.var 22 [rsV l]) := by simp
    have g4 : (mm ++ [B.var 50 [V.nils]] ++ [B.map [] [] 0] ++ [B.var 69 [V.mp (mm.length + 1)]] ++ [B.var 22 [rsV l]]).length = mm.length + 4 := by simp
    have g5 : Kp mm (mm ++ [B.var 50 [V.nils]] ++ [B.map [] [] 0] ++ [B.var 69 [V.mp (mm.length + 1)]] ++ [B.var 22 [rsV l]]) := (((Kp.app _ _).trans (Kp.app _ _)).trans (Kp.app _ _)).trans (Kp.app _ _)
    generalize mm ++ [B.var 50 [V.nils]] ++ [B.map [] [] 0] ++ [B.var 69 [V.mp (mm.length + 1)]] ++ [B.var 22 [rsV l]] = M0 at g0 g1 g2 g3 g4 g5 ⊢
    have g6 := h2.of (g5.2 _ hml)
    refine rfw_of 35 (mm.length + 3) 22 25 (l.map ruC) 26 27 (InvB l m mm.length m.length) (by kernel_rfl) iter35 (by kernel_rfl) rfl (by kernel_rfl) (by rw [rs_len]; omega) (by decide) g3 (fun e he => by obtain ⟨r, _, rfl⟩ := List.mem_map.1 he; rfl) (by kernel_rfl) ?_ ?_ ?_ ?_
    · refine ⟨mm.length + 4, g3, ?_, g2, ?_, g6, ?_, h3.trans g5, Nat.le_refl _, by omega⟩
      · rw [Nat.sub_zero, List.drop_length]; exact g0
      · rw [Nat.sub_zero, List.drop_length]; exact g1
      · rw [Nat.sub_zero, List.drop_length]; exact fun h => absurd rfl h
    · rintro j m' ⟨q, h, _⟩
      exact h
    · intro j m' hj hI
      simp only [List.getElem_map, rs_len] at hj ⊢
      have hdr := drop_next hj
      have hri := hw _ (List.getElem_mem (show l.length - 1 - j < l.length by omega))
      have hsw : ∀ r ∈ l.drop (l.length - j), wfR r := fun r hr => hw r (List.mem_of_mem_drop hr)
      have hsl : (l.drop (l.length - j)).length ≤ 1000 := by simp; omega
      unfold InvB at hI ⊢
      rw [hdr]
      generalize l[l.length - 1 - j]'(by omega) = r at hri ⊢
      generalize l.drop (l.length - j) = s at hI hsw hsl ⊢
      obtain ⟨q, i1, i2, i3, i4, i5, i6, i7, i8, i9⟩ := hI
      have st36a : ∀ (mm : Mem) (z : List V), z.length = 25 → storeK 25 (mm ++ [.var 36 z]) (.ptr mm.length 0) (.agg (ruC r)) = some (mm ++ [.var 36 (ruC r)]) := fun mm z hz => st36n mm z r hz
      simp -implicitDefEqProofs only [sims.1, fx.1, keeps.1, tick_on, calleeK, extractV, oneV, faddrK, nonnil, b_shr, b_shl, fieldK, Nat.reduceAdd, Nat.reduceMul, Nat.reduceSub, Nat.reduceEqDiff, Nat.reduceLT, Nat.reduceLeDiff, Nat.reduceBEq, Nat.reduceBNe, reduceIte, Int.reduceEq, Int.reduceLT, Int.reduceLE, Int.reduceNe, Int.reduceToNat, st36a]
      have k1 : ∀ n, n < m'.length → (m' ++ [B.var 36 (ruC r)])[n]? = m'[n]? := fun n h => List.getElem?_append_left h
      have x1 : (m' ++ [B.var 36 (ruC r)])[m'.length]? = some (.var 36 (ruC r)) := by simp
      have x7 : Kp m (m' ++ [B.var 36 (ruC r)]) := i7.trans (Kp.app _ _)
      have x9 : (m' ++ [B.var 36 (ruC r)]).length = m'.length + 1 := by simp
      have hqlt : (lastL s).reverse ≠ [] → q < m'.length := fun h => (List.getElem?_eq_some_iff.1 (i6 h)).1
      rw [← k1 _ (by omega)] at i1 i2 i3
      replace i4 := i4.of (k1 _ (by omega))
      replace i5 := i5.of (k1 _ (by have := i5.lt; omega))
      replace i6 : OrdR (m' ++ [B.var 36 (ruC r)]) q (lastL s).reverse := fun h => by rw [k1 _ (hqlt h)]; exact i6 h
      generalize m' ++ [B.var 36 (ruC r)] = M1 at i1 i2 i3 i4 i5 i6 x1 x7 x9 ⊢
      generalize m'.length = X at i9 hqlt x1 x9 ⊢
      obtain ⟨st, b1, e1, e2⟩ := ent_pl un69 z3 i4 hri (cntP_wf s hsw)
      rw [cntP_get] at e1 e2
      have hcl : s.countP (pl r) ≤ s.length := List.countP_le_length
      have w1 : IntKind.i64.wrap ((s.countP (pl r) : Int) + 1) = ((s.countP (pl r) + 1 : Nat) : Int) := add1N _ (by omega)
      obtain ⟨b2, e3, e4⟩ := ent_store (.int .i64 (IntKind.i64.wrap ((s.countP (pl r) : Int) + 1))) e2
      have hl1 : lookupV Try.prog 69 M1 (.mp (mm.length + 1)) (plV r) false = some (.int .i64 (s.countP (pl r) : Int)) := by
        have := look_pl un69 z3 i4 hri (cntP_wf s hsw) false
        rw [cntP_get] at this
        exact this
      have hl2 : lookupV Try.prog 69 (M1.set (mm.length + 1) b1) (.mp (mm.length + 1)) (plV r) false = some (.int .i64 (s.countP (pl r) : Int)) := by
        have := look_pl un69 z3 e2.map hri ((cntP_wf s hsw).put hri) false
        rw [get_put, pl_refl] at this
        exact this
      have t1 : ∀ n, n ≠ mm.length + 1 → (M1.set (mm.length + 1) b1)[n]? = M1[n]? := fun n h => List.getElem?_set_ne (Ne.symm h)
      have t2 : ∀ n, n ≠ mm.length + 1 → ((M1.set (mm.length + 1) b1).set (mm.length + 1) b2)[n]? = M1[n]? := fun n h => (List.getElem?_set_ne (Ne.symm h)).trans (t1 n h)
      have t9 : ((M1.set (mm.length + 1) b1).set (mm.length + 1) b2).length = X + 1 := by simp [x9]
      have t7 : Kp m ((M1.set (mm.length + 1) b1).set (mm.length + 1) b2) := (x7.set (by omega)).set (by omega)
      rw [w1] at e4
      generalize hM2 : M1.set (mm.length + 1) b1 = M2 at e1 e2 e3 e4 hl2 t1 t2 t9 t7
      generalize hM3 : M2.set (mm.length + 1) b2 = M3 at e3 e4 t2 t9 t7
      refine w_calls (J11 M1 M2 M3) [2, 5, 7] [.mp (mm.length + 1), ruV r, plV r, .int .i64 (s.countP (pl r) : Int), .int .i64 (IntKind.i64.wrap ((s.countP (pl r) : Int) + 1)), .tup [.int .i64 (s.countP (pl r) : Int), .int .i64 (st : Int)], .int .i64 (st : Int), .tup []] (by kernel_rfl) rfl ?_ ?_
      · have hl8 := J11_at i3 (M2 := M2) (M3 := M3) (by rw [t1 _ (by omega), i3]) (by rw [t2 _ (by omega), i3])
        have hl10 := J11_at x1 (M2 := M2) (M3 := M3) (by rw [t1 _ (by omega), x1]) (by rw [t2 _ (by omega), x1])
        refine okN_pure rfl rfl rfl (fun k m' h => by
          have := hl8 k m' h
          show Option.map (Res.val · m') (loadV Try.prog m' 69 (.ptr (mm.length + 2) 0)) = _
          simp -implicitDefEqProofs only [sims.1, fx.1, keeps.1, tick_on, calleeK, extractV, oneV, faddrK, nonnil, b_shr, b_shl, fieldK, Nat.reduceAdd, Nat.reduceMul, Nat.reduceSub, Nat.reduceEqDiff, Nat.reduceLT, Nat.reduceLeDiff, Nat.reduceBEq, Nat.reduceBNe, reduceIte, Int.reduceEq, Int.reduceLT, Int.reduceLE, Int.reduceNe, Int.reduceToNat, this]) ?_
        refine okN_pure rfl rfl rfl (fun k m' h => by
          have := hl10 k m' h
          show Option.map (Res.val · m') (loadV Try.prog m' 36 (.ptr X 0)) = _
          simp -implicitDefEqProofs only [sims.1, fx.1, keeps.1, tick_on, calleeK, extractV, oneV, faddrK, nonnil, b_shr, b_shl, fieldK, Nat.reduceAdd, Nat.reduceMul, Nat.reduceSub, Nat.reduceEqDiff, Nat.reduceLT, Nat.reduceLeDiff, Nat.reduceBEq, Nat.reduceBNe, reduceIte, Int.reduceEq, Int.reduceLT, Int.reduceLE, Int.reduceNe, Int.reduceToNat, this, pR]) ?_
        refine okN_call rfl (show calleeV (evO _) _ = some (24, [ruV r]) by kernel_rfl) rfl rfl (fun m' h => ?_) ?_
        · exact callD_ans (ans24 r) en24 (nfs_cons (nf_ru _) rfl) (nf_pl _) ⟨rfl, h⟩
        refine okN_early 2 rfl rfl rfl (by kernel_rfl) (fun k m' hk h => by
          show Option.map (Res.val · m') (lookupV Try.prog 69 m' (.mp (mm.length + 1)) (plV r) false) = _
          match k, hk, h with
          | 0, _, h => rw [show m' = M1 from h, hl1]; rfl
          | 1, _, h => rw [show m' = M1 from h, hl1]; rfl
          | 2, _, h => rw [show m' = M2 from h, hl2]; rfl) ?_
        refine okN_pure rfl rfl rfl (fun k m' h => by rfl) ?_
        refine okN_val rfl rfl rfl rfl (fun m' h => ?_) ?_
        · refine ⟨M2, ?_, rfl⟩
          rw [show m' = M1 from h]
          show Option.map (fun p => Res.val p.1 p.2) (mentryV Try.prog 69 M1 (.mp (mm.length + 1)) (.agg (plC r))) = _
          rw [e1]
          rfl
        refine okN_pure rfl rfl rfl (fun k m' h => by rfl) ?_
        refine okN_skip rfl rfl rfl rfl (fun m' h => ?_) ?_
        · refine ⟨M3, ?_, rfl⟩
          rw [show m' = M2 from h]
          show Option.map Res.skip (estoreV M2 (.mp (mm.length + 1)) (.int .i64 (st : Int)) (.int .i64 (IntKind.i64.wrap ((s.countP (pl r) : Int) + 1)))) = _
          rw [e3]
          rfl
        exact okN_nil
      rintro m' h
      rw [show m' = M3 from h]
      clear h m'
      have y1 := (t2 _ (by omega)).trans i1
      have y2 := (t2 _ (by omega)).trans i2
      have y3 := (t2 _ (by omega)).trans i3
      have y5 := i5.of (t2 _ (by have := h2.lt; omega))
      have y10 := (t2 _ (by omega)).trans x1
      have y6 : OrdR M3 q (lastL s).reverse := fun h => by rw [t2 _ (by omega)]; exact i6 h
      have hl3 : lookupV Try.prog 69 M3 (.mp (mm.length + 1)) (.agg (plC r)) false = some (.int .i64 ((s.countP (pl r) + 1 : Nat) : Int)) := by
        have := look_pl un69 z3 e4 hri ((cntP_wf s hsw).put hri) false
        rw [get_put, pl_refl] at this
        exact this
      clear e1 e2 e3 hl1 hl2 t1 t2 hM2 hM3
      simp -implicitDefEqProofs only [sims.1, fx.1, keeps.1, tick_on, calleeK, extractV, oneV, faddrK, nonnil, b_shr, b_shl, fieldK, Nat.reduceAdd, Nat.reduceMul, Nat.reduceSub, Nat.reduceEqDiff, Nat.reduceLT, Nat.reduceLeDiff, Nat.reduceBEq, Nat.reduceBNe, reduceIte, Int.reduceEq, Int.reduceLT, Int.reduceLE, Int.reduceNe, Int.reduceToNat, putAll]
      refine w_quiet ?_
      simp -implicitDefEqProofs only [sims.1, fx.1, keeps.1, tick_on, calleeK, extractV, oneV, faddrK, nonnil, b_shr, b_shl, fieldK, Nat.reduceAdd, Nat.reduceMul, Nat.reduceSub, Nat.reduceEqDiff, Nat.reduceLT, Nat.reduceLeDiff, Nat.reduceBEq, Nat.reduceBNe, reduceIte, Int.reduceEq, Int.reduceLT, Int.reduceLE, Int.reduceNe, Int.reduceToNat, y3, y10, pR]
      refine callQ_ans (ans24 r) en24 (nfs_cons (nf_ru _) rfl) (nf_pl _) ?_
      have c9 : decide (((s.countP (pl r) + 1 : Nat) : Int) = 1) = !s.any (pl r) := by
        rw [← cnt_any, Bool.eq_iff_iff]
        simp only [decide_eq_true_eq]
        omega
      cases e : s.any (pl r)
      · rw [e] at c9
        simp -implicitDefEqProofs only [sims.1, fx.1, keeps.1, tick_on, calleeK, extractV, oneV, faddrK, nonnil, b_shr, b_shl, fieldK, Nat.reduceAdd, Nat.reduceMul, Nat.reduceSub, Nat.reduceEqDiff, Nat.reduceLT, Nat.reduceLeDiff, Nat.reduceBEq, Nat.reduceBNe, reduceIte, Int.reduceEq, Int.reduceLT, Int.reduceLE, Int.reduceNe, Int.reduceToNat, hl3, c9]
        have hll := lastL_len s
        obtain ⟨M5, a1, a2, a3, a4⟩ := app_pl (q := q) (o := (lastL s).reverse) r y6 (by rw [List.length_reverse]; omega)
        rw [List.length_reverse] at a1
        have hN : mm.length < M3.length := by omega
        have z1 : ∀ n, n < mm.length + 4 → M5[n]? = M3[n]? := fun n hn => a4 n (by omega) (.inl (by omega))
        have zX : M5[X]? = some (.var 36 (ruC r)) := by
          rw [← y10]
          refine a4 X (by omega) ?_
          by_cases hn : (lastL s).reverse = []
          · exact .inr hn
          · exact .inl (by have := hqlt hn; omega)
        have v1 : (M3 ++ [B.row 54 23 [plC r]])[mm.length]? = some (.var 50 [oV (lastL s).length q]) := by rw [List.getElem?_append_left hN]; exact y2
        have v10 : (M3 ++ [B.row 54 23 [plC r]])[X]? = some (.var 36 (ruC r)) := by rw [List.getElem?_append_left (by omega)]; exact y10
        have zN := (z1 mm.length (by omega)).trans y2
        have hco : cellsOfV (oV ((lastL s).length + 1) (M3.length + 1)) = [oV ((lastL s).length + 1) (M3.length + 1)] := rfl
        refine w_calls (J13 M3 (M3 ++ [.row 54 23 [plC r]]) M5 (M5.set mm.length (.var 50 [oV ((lastL s).length + 1) (M3.length + 1)]))) [2, 3, 4, 5] [oV (lastL s).length q, ruV r, plV r, .sl 23 M3.length 0 1, oV ((lastL s).length + 1) (M3.length + 1), .tup []] (by kernel_rfl) rfl ?_ ?_
        · refine okN_early 3 rfl rfl rfl (by kernel_rfl) (fun k m' hk h => by
            have := J13_at3 y2 v1 zN k m' hk h
            show Option.map (Res.val · m') (loadV Try.prog m' 50 (.ptr mm.length 0)) = _
            simp -implicitDefEqProofs only [sims.1, fx.1, keeps.1, tick_on, calleeK, extractV, oneV, faddrK, nonnil, b_shr, b_shl, fieldK, Nat.reduceAdd, Nat.reduceMul, Nat.reduceSub, Nat.reduceEqDiff, Nat.reduceLT, Nat.reduceLeDiff, Nat.reduceBEq, Nat.reduceBNe, reduceIte, Int.reduceEq, Int.reduceLT, Int.reduceLE, Int.reduceNe, Int.reduceToNat, this]) ?_
          refine okN_pure rfl rfl rfl (fun k m' h => by
            have := J13_at y10 v10 zX (by rw [List.getElem?_set_ne (by omega)]; exact zX) k m' h
            show Option.map (Res.val · m') (loadV Try.prog m' 36 (.ptr X 0)) = _
            simp -implicitDefEqProofs only [sims.1, fx.1, keeps.1, tick_on, calleeK, extractV, oneV, faddrK, nonnil, b_shr, b_shl, fieldK, Nat.reduceAdd, Nat.reduceMul, Nat.reduceSub, Nat.reduceEqDiff, Nat.reduceLT, Nat.reduceLeDiff, Nat.reduceBEq, Nat.reduceBNe, reduceIte, Int.reduceEq, Int.reduceLT, Int.reduceLE, Int.reduceNe, Int.reduceToNat, this, pR]) ?_
          refine okN_call rfl (show calleeV (evO _) _ = some (24, [ruV r]) by kernel_rfl) rfl rfl (fun m' h => ?_) ?_
          · exact callD_ans (ans24 r) en24 (nfs_cons (nf_ru _) rfl) (nf_pl _) ⟨rfl, h⟩
          refine okN_val rfl rfl rfl rfl (fun m' h => ?_) ?_
          · refine ⟨M3 ++ [B.row 54 23 [plC r]], ?_, by exact rfl⟩
            rw [show m' = M3 from h]
            show Option.map (fun p => Res.val p.1 p.2) (bsliceV Try.prog 50 1 [(0, plV r)] M3) = _
            rw [bs50]
            rfl
          refine okN_val rfl rfl rfl rfl (fun m' h => ?_) ?_
          · refine ⟨M5, ?_, by exact rfl⟩
            rw [show m' = M3 ++ [.row 54 23 [plC r]] from h]
            show Option.map (fun p => Res.val p.1 p.2) (appendA Try.prog 50 50 (oV (lastL s).length q) (.sl 23 M3.length 0 1) (M3 ++ [.row 54 23 [plC r]])) = _
            rw [a1]
            rfl
          refine okN_skip rfl rfl rfl rfl (fun m' h => ?_) ?_
          · refine ⟨M5.set mm.length (.var 50 [oV ((lastL s).length + 1) (M3.length + 1)]), ?_, by exact rfl⟩
            rw [show m' = M5 from h]
            show Option.map Res.skip (storeV Try.prog 50 M5 (.ptr mm.length 0) (oV ((lastL s).length + 1) (M3.length + 1))) = _
            rw [st50, st1_at zN rfl rfl]
            rfl
          exact okN_nil
        rintro m' h
        rw [show m' = M5.set mm.length (.var 50 [oV ((lastL s).length + 1) (M3.length + 1)]) from h]
        simp -implicitDefEqProofs only [sims.1, fx.1, keeps.1, tick_on, calleeK, extractV, oneV, faddrK, nonnil, b_shr, b_shl, fieldK, Nat.reduceAdd, Nat.reduceMul, Nat.reduceSub, Nat.reduceEqDiff, Nat.reduceLT, Nat.reduceLeDiff, Nat.reduceBEq, Nat.reduceBNe, reduceIte, Int.reduceEq, Int.reduceLT, Int.reduceLE, Int.reduceNe, Int.reduceToNat, putAll, nrmQ_nrm]
        have u1 : ∀ n, n ≠ mm.length → (M5.set mm.length (.var 50 [oV ((lastL s).length + 1) (M3.length + 1)]))[n]? = M5[n]? := fun n hn => List.getElem?_set_ne (Ne.symm hn)
        refine ⟨M3.length + 1, ?_, ?_, ?_, ?_, ?_, ?_, ?_, by omega, by simp; omega⟩
        · rw [u1 _ (by omega), z1 _ (by omega)]; exact y1
        · rw [lastL_cons, e, cond_false, List.length_cons, List.getElem?_set_self (by omega)]
        · rw [u1 _ (by omega), z1 _ (by omega)]; exact y3
        · exact e4.of (by rw [u1 _ (by omega), z1 _ (by omega)])
        · exact y5.of (by rw [u1 _ (by omega), z1 _ (by omega)])
        · rw [lastL_cons, e, cond_false, List.reverse_cons]
          exact fun h => by rw [u1 _ (by omega)]; exact a3 h
        · refine Kp.set ⟨by have := t7.1; omega, fun k hk => ?_⟩ (by omega)
          rw [z1 _ (by omega)]
          exact t7.2 k hk
      · rw [e] at c9
        simp -implicitDefEqProofs only [sims.1, fx.1, keeps.1, tick_on, calleeK, extractV, oneV, faddrK, nonnil, b_shr, b_shl, fieldK, Nat.reduceAdd, Nat.reduceMul, Nat.reduceSub, Nat.reduceEqDiff, Nat.reduceLT, Nat.reduceLeDiff, Nat.reduceBEq, Nat.reduceBNe, reduceIte, Int.reduceEq, Int.reduceLT, Int.reduceLE, Int.reduceNe, Int.reduceToNat, hl3, c9, nrmQ_nrm]
        exact ⟨q, y1, by rw [lastL_cons, e]; exact y2, y3, e4, y5, by rw [lastL_cons, e]; exact y6, t7, i8, by omega⟩
    · intro m' hI
      unfold InvB at hI
      rw [rs_len, Nat.sub_self, List.drop_zero] at hI
      obtain ⟨q, i1, i2, i3, i4, i5, i6, i7, i8, i9⟩ := hI
      simp -implicitDefEqProofs only [sims.1, fx.1, keeps.1, tick_on, calleeK, extractV, oneV, faddrK, nonnil, b_shr, b_shl, fieldK, Nat.reduceAdd, Nat.reduceMul, Nat.reduceSub, Nat.reduceEqDiff, Nat.reduceLT, Nat.reduceLeDiff, Nat.reduceBEq, Nat.reduceBNe, reduceIte, Int.reduceEq, Int.reduceLT, Int.reduceLE, Int.reduceNe, Int.reduceToNat, i2]
      cases hz : lastL l with
      | nil =>
        rw [hz] at i2
        simp only [List.length_nil, oV] at i2 ⊢
        refine callD_ans ans26n en26 rfl rfl ?_
        simp -implicitDefEqProofs only [sims.1, fx.1, keeps.1, tick_on, calleeK, extractV, oneV, faddrK, nonnil, b_shr, b_shl, fieldK, Nat.reduceAdd, Nat.reduceMul, Nat.reduceSub, Nat.reduceEqDiff, Nat.reduceLT, Nat.reduceLeDiff, Nat.reduceBEq, Nat.reduceBNe, reduceIte, Int.reduceEq, Int.reduceLT, Int.reduceLE, Int.reduceNe, Int.reduceToNat]
        refine w_quiet ?_
        simp -implicitDefEqProofs only [sims.1, fx.1, keeps.1, tick_on, calleeK, extractV, oneV, faddrK, nonnil, b_shr, b_shl, fieldK, Nat.reduceAdd, Nat.reduceMul, Nat.reduceSub, Nat.reduceEqDiff, Nat.reduceLT, Nat.reduceLeDiff, Nat.reduceBEq, Nat.reduceBNe, reduceIte, Int.reduceEq, Int.reduceLT, Int.reduceLE, Int.reduceNe, Int.reduceToNat, i2]
        exact ⟨_, _, q, rfl, Nat.le_refl _, i5, fun h => absurd rfl h, i7⟩
      | cons a o =>
        have hne : lastL l ≠ [] := by rw [hz]; simp
        rw [← hz]
        rw [oV_pos (by rw [hz]; simp)] at i2 ⊢
        have hll := lastL_len l
        have i6' := i6 (by simpa using hne)
        have hq := (List.getElem?_eq_some_iff.1 i6').1
        have s26 := snd26r i6' (by rw [List.length_reverse]; omega) (by simpa using hne)
        rw [List.length_reverse, List.reverse_reverse] at s26
        refine callD_all s26 en26 ?_
        have j2 : (m'.set q (.row 54 23 ((lastL l).map plC)))[mm.length]? = some (.var 50 [.sl 23 q 0 (lastL l).length]) := by rw [List.getElem?_set_ne (by omega)]; exact i2
        simp -implicitDefEqProofs only [sims.1, fx.1, keeps.1, tick_on, calleeK, extractV, oneV, faddrK, nonnil, b_shr, b_shl, fieldK, Nat.reduceAdd, Nat.reduceMul, Nat.reduceSub, Nat.reduceEqDiff, Nat.reduceLT, Nat.reduceLeDiff, Nat.reduceBEq, Nat.reduceBNe, reduceIte, Int.reduceEq, Int.reduceLT, Int.reduceLE, Int.reduceNe, Int.reduceToNat]
        refine w_quiet ?_
        simp -implicitDefEqProofs only [sims.1, fx.1, keeps.1, tick_on, calleeK, extractV, oneV, faddrK, nonnil, b_shr, b_shl, fieldK, Nat.reduceAdd, Nat.reduceMul, Nat.reduceSub, Nat.reduceEqDiff, Nat.reduceLT, Nat.reduceLeDiff, Nat.reduceBEq, Nat.reduceBNe, reduceIte, Int.reduceEq, Int.reduceLT, Int.reduceLE, Int.reduceNe, Int.reduceToNat, j2]
        exact ⟨_, _, q, by rw [oV_pos (by rw [hz]; simp)], Nat.le_refl _, i5.of (List.getElem?_set_ne (by have := h2.lt; omega)), fun _ => by rw [List.getElem?_set_self hq], i7.set (by omega)⟩
end Go.Proofs.Ytggdnepfahknbaa
