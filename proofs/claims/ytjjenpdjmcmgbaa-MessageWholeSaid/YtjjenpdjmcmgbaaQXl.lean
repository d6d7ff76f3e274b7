/- Each Type's way, read. No condition. -/
import Derived.Test.YtjjenpdjmcmgbaaQXk
import Derived.Test.YtjjenpdjmcmgbaaQZf
namespace Go.Proofs.Ytjjenpdjmcmgbaa
open Go Ab
set_option linter.unusedSimpArgs false
set_option linter.unusedVariables false
set_option maxRecDepth 20000
/-- A cell's nil slice, told as an empty one. -/
theorem RQ_nil {f : FuncId} {vs : List V} {m : Mem} {c q ty : Nat} {l : List V} {p : Option (List V × List Nat)} (o s : Nat) (hqc : q ≠ c) (h : Snd Try.prog f vs m (RQ c q ty l m p)) (ho : ∀ t, p = some t → t.1[o]? = some .nils) :
    Snd Try.prog f vs m (RQ c q ty l m (p.map fun t => (t.1.set o (.isl s []), t.2))) := by
  refine Snd_frzC h fun r hr => ?_
  cases p with
  | none => exact .inl hr
  | some t =>
    obtain ⟨m', rfl, h1, h2, h3⟩ := hr
    refine .inr ⟨q, ty, t.1, o, .nils, .nils, .isl s [], m', h3, ho t rfl, rfl, h3, .inr ⟨rfl, s, rfl⟩, ?_⟩
    refine ⟨_, rfl, h1.set _, ?_, ?_⟩
    · unfold Cr
      rw [List.getElem?_set_ne hqc]
      exact h2
    · rw [List.getElem?_set_self (List.getElem?_eq_some_iff.1 h3).1]
def rdP (rest : List Nat) : Option (List Nat × List Nat) := rdL (rdN 2) rest
def rdB (rest : List Nat) : Option (List Nat × List Nat) := rdL (rdN 1) rest
def rdH (rest : List Nat) : Option (He × List Nat) := (rdR rest).bind fun r => (rdN 8 r.2).bind fun p => (rdN 8 p.2).map fun b => (⟨r.1, p.1, b.1⟩, b.2)
def rdHs (rest : List Nat) : Option (List He × List Nat) := rdL rdH rest
def rdFl (rest : List Nat) : Option (Bool × List Nat) := (rdN 1 rest).bind fun a => if 1 < a.1 then none else some (decide (a.1 = 1), a.2)
theorem rdNb (n : Nat) : ∀ r (p : Nat × List Nat), Byt r → rdN n r = some p → Byt p.2 := fun _ _ => rdN_byt
theorem rdP_byt {rest : List Nat} {t : List Nat × List Nat} (h : Byt rest) (e : rdP rest = some t) : Byt t.2 := rdL_byt (rdNb 2) h e
theorem rdH_byt {rest : List Nat} {p : He × List Nat} (h : Byt rest) (e : rdH rest = some p) : Byt p.2 := by
  unfold rdH at e
  cases h1 : rdR rest with
  | none => rw [h1] at e; cases e
  | some a =>
  rw [h1] at e
  simp only [Option.bind_some] at e
  cases h2 : rdN 8 a.2 with
  | none => rw [h2] at e; cases e
  | some b =>
  rw [h2] at e
  simp only [Option.bind_some] at e
  cases h3 : rdN 8 b.2 with
  | none => rw [h3] at e; cases e
  | some w =>
  rw [h3] at e
  cases e
  exact rdN_byt (rdN_byt (rdR_byt h h1) h2) h3
def heZ : List V := R4 [] [.int .u64 0, .int .u64 0] 0 w0 .nils 0
set_option maxHeartbeats 2000000 in
theorem snd56r {m : Mem} {c q k : Nat} {rest : List Nat} (hc : Cr m c rest) (hB : Byt rest) (hk : Nm m c k) (hkc : k ≠ c) (hq : m[q]? = some (.var 59 heZ)) (hqc : q ≠ c) (hkq : k ≠ q) :
    Snd Try.prog 56 [.ptr q 0, .ptr k 0] m (RQ c q 59 heZ m ((rdH rest).map fun t => (heC t.1, t.2))) := by
  refine Snd_of_W fol rfl rfl (by kernel_rfl) (by kernel_rfl) ?_
  have hk' : m[k]? = some (.var 69 [.ptr c 0]) := hk
  simp -implicitDefEqProofs only [sims.1, fx.1, keeps.1, tick_on, calleeK, extractV, oneV, faddrK, nonnil, b_shr, b_shl, fieldK, Nat.reduceAdd, Nat.reduceMul, Nat.reduceSub, Nat.reduceEqDiff, Nat.reduceLT, Nat.reduceLeDiff, Nat.reduceBEq, Nat.reduceBNe, reduceIte, Int.reduceEq, Int.reduceLT, Int.reduceLE, Int.reduceNe, Int.reduceToNat]
  refine w_callsP (JR m (GR c q 59 heZ m ((rdR rest).map fun t => ([] ++ (ruC t.1 ++ [.int .u64 0, .int .u64 0]), t.2)))) (HR c q 59 heZ m ((rdR rest).map fun t => ([] ++ (ruC t.1 ++ [.int .u64 0, .int .u64 0]), t.2))) [4] [.ptr c 0, .ptr q 0, .ptr q 0, .ptr q 0, .tup []] (by kernel_rfl) rfl ?_ ?_ ?_
  · refine okN_early 0 rfl rfl rfl rfl (fun i M' hi h => by
      show Option.map (Res.val · M') (loadV Try.prog M' 69 (.ptr k 0)) = _
      rw [JR0 h hi, ld69, loadK_ptr, hk']
      rfl) ?_
    refine okN_pure rfl rfl rfl (fun _ _ _ => rfl) ?_
    refine okN_pure rfl rfl rfl (fun _ _ _ => rfl) ?_
    refine okN_pure rfl rfl rfl (fun _ M' _ => by
      show Option.map (Res.val · M') (faddrV Try.prog 59 0 (.ptr q 0)) = _
      rw [fa59_0]
      rfl) ?_
    refine okN_call rfl (show calleeV (evO _) _ = some (53, [.ptr c 0, .ptr q 0]) by kernel_rfl) rfl rfl (fun m' h => callD_jr (snd53r (A := []) (Z := [.int .u64 0, .int .u64 0]) hc hB hq hqc) en53 h) ?_
    exact okN_nil
  rotate_left
  · rintro _ M ⟨rfl, e, kk, l', q', hl⟩
    have e := map_none' e
    rw [show rdH rest = none from by simp only [rdH, e, Option.bind_none]]
    exact ⟨M, l', rfl, kk, q', hl⟩
  rintro M1 ⟨l1, r1, e, k1, c1, q1⟩
  obtain ⟨a, da, e6⟩ := map_some' e
  cases e6
  have B1 : Byt a.2 := rdR_byt hB da
  have q1 : M1[q]? = some (.var 59 (heC ⟨a.1, 0, 0⟩)) := q1
  have hk1 : M1[k]? = some (.var 69 [.ptr c 0]) := k1.2 _ _ hkc hkq hk
  simp -implicitDefEqProofs only [sims.1, fx.1, keeps.1, tick_on, calleeK, extractV, oneV, faddrK, nonnil, b_shr, b_shl, fieldK, Nat.reduceAdd, Nat.reduceMul, Nat.reduceSub, Nat.reduceEqDiff, Nat.reduceLT, Nat.reduceLeDiff, Nat.reduceBEq, Nat.reduceBNe, reduceIte, Int.reduceEq, Int.reduceLT, Int.reduceLE, Int.reduceNe, Int.reduceToNat, putAll]
  refine w_callsP (JR M1 (GR c q 59 (heC ⟨a.1, 0, 0⟩) M1 (cellR (heC ⟨a.1, 0, 0⟩) 25 ((rdN 8 a.2).map fun p => (.int .u64 (p.1 : Int), p.2))))) (HR c q 59 (heC ⟨a.1, 0, 0⟩) M1 (cellR (heC ⟨a.1, 0, 0⟩) 25 ((rdN 8 a.2).map fun p => (.int .u64 (p.1 : Int), p.2)))) [5] [.ptr c 0, .ptr q 0, .ptr q 0, .ptr q 25, .ptr q 25, .tup []] (by kernel_rfl) rfl ?_ ?_ ?_
  · refine okN_early 0 rfl rfl rfl rfl (fun i M' hi h => by
      show Option.map (Res.val · M') (loadV Try.prog M' 69 (.ptr k 0)) = _
      rw [JR0 h hi, ld69, loadK_ptr, hk1]
      rfl) ?_
    refine okN_pure rfl rfl rfl (fun _ _ _ => rfl) ?_
    refine okN_pure rfl rfl rfl (fun _ _ _ => rfl) ?_
    refine okN_pure rfl rfl rfl (fun _ M' _ => by
      show Option.map (Res.val · M') (faddrV Try.prog 59 1 (.ptr q 0)) = _
      rw [fa59_1]
      rfl) ?_
    refine okN_pure rfl rfl rfl (fun _ M' _ => by
      show Option.map (Res.val · M') (faddrV Try.prog 57 0 (.ptr q 25)) = _
      rw [fa57_0]
      rfl) ?_
    refine okN_call rfl (show calleeV (evO _) _ = some (31, [.ptr c 0, .ptr q 25, .int .i64 8]) by kernel_rfl) rfl rfl (fun m' h => callD_jr (snd31q (n := 8) (o := 25) (a := 0) c1 q1 hqc rfl B1.1 B1.2 (by omega) (by omega)) en31 h) ?_
    exact okN_nil
  rotate_left
  · rintro _ M ⟨rfl, e, kk, l', q', hl⟩
    have e := map_none' (cellR_none e)
    rw [show rdH rest = none from by simp only [rdH, da, e, Option.bind_some, Option.bind_none]]
    exact ⟨M, l', rfl, k1.trans kk, q', hl⟩
  rintro M2 ⟨l2, r2, e, k2, c2, q2⟩
  obtain ⟨v, e5, rfl⟩ := cellR_some e
  obtain ⟨b, db, e6⟩ := map_some' e5
  cases e6
  have B2 : Byt b.2 := rdN_byt B1 db
  have q2 : M2[q]? = some (.var 59 (heC ⟨a.1, b.1, 0⟩)) := q2
  have hk2 : M2[k]? = some (.var 69 [.ptr c 0]) := k2.2 _ _ hkc hkq hk1
  simp -implicitDefEqProofs only [sims.1, fx.1, keeps.1, tick_on, calleeK, extractV, oneV, faddrK, nonnil, b_shr, b_shl, fieldK, Nat.reduceAdd, Nat.reduceMul, Nat.reduceSub, Nat.reduceEqDiff, Nat.reduceLT, Nat.reduceLeDiff, Nat.reduceBEq, Nat.reduceBNe, reduceIte, Int.reduceEq, Int.reduceLT, Int.reduceLE, Int.reduceNe, Int.reduceToNat, putAll]
  refine w_callsP (JR M2 (GR c q 59 (heC ⟨a.1, b.1, 0⟩) M2 (cellR (heC ⟨a.1, b.1, 0⟩) 26 ((rdN 8 b.2).map fun p => (.int .u64 (p.1 : Int), p.2))))) (HR c q 59 (heC ⟨a.1, b.1, 0⟩) M2 (cellR (heC ⟨a.1, b.1, 0⟩) 26 ((rdN 8 b.2).map fun p => (.int .u64 (p.1 : Int), p.2)))) [5] [.ptr c 0, .ptr q 0, .ptr q 0, .ptr q 25, .ptr q 26, .tup []] (by kernel_rfl) rfl ?_ ?_ ?_
  · refine okN_early 0 rfl rfl rfl rfl (fun i M' hi h => by
      show Option.map (Res.val · M') (loadV Try.prog M' 69 (.ptr k 0)) = _
      rw [JR0 h hi, ld69, loadK_ptr, hk2]
      rfl) ?_
    refine okN_pure rfl rfl rfl (fun _ _ _ => rfl) ?_
    refine okN_pure rfl rfl rfl (fun _ _ _ => rfl) ?_
    refine okN_pure rfl rfl rfl (fun _ M' _ => by
      show Option.map (Res.val · M') (faddrV Try.prog 59 1 (.ptr q 0)) = _
      rw [fa59_1]
      rfl) ?_
    refine okN_pure rfl rfl rfl (fun _ M' _ => by
      show Option.map (Res.val · M') (faddrV Try.prog 57 1 (.ptr q 25)) = _
      rw [fa57_1]
      rfl) ?_
    refine okN_call rfl (show calleeV (evO _) _ = some (31, [.ptr c 0, .ptr q 26, .int .i64 8]) by kernel_rfl) rfl rfl (fun m' h => callD_jr (snd31q (n := 8) (o := 26) (a := 0) c2 q2 hqc rfl B2.1 B2.2 (by omega) (by omega)) en31 h) ?_
    exact okN_nil
  rotate_left
  · rintro _ M ⟨rfl, e, kk, l', q', hl⟩
    have e := map_none' (cellR_none e)
    rw [show rdH rest = none from by simp only [rdH, da, db, e, Option.bind_some, Option.map_none]]
    exact ⟨M, l', rfl, k1.trans (k2.trans kk), q', hl⟩
  rintro M3 ⟨l3, r3, e, k3, c3, q3⟩
  obtain ⟨v, e5, rfl⟩ := cellR_some e
  obtain ⟨d, dd, e6⟩ := map_some' e5
  cases e6
  simp -implicitDefEqProofs only [sims.1, fx.1, keeps.1, tick_on, calleeK, extractV, oneV, faddrK, nonnil, b_shr, b_shl, fieldK, Nat.reduceAdd, Nat.reduceMul, Nat.reduceSub, Nat.reduceEqDiff, Nat.reduceLT, Nat.reduceLeDiff, Nat.reduceBEq, Nat.reduceBNe, reduceIte, Int.reduceEq, Int.reduceLT, Int.reduceLE, Int.reduceNe, Int.reduceToNat, putAll]
  rw [show rdH rest = some (⟨a.1, b.1, d.1⟩, d.2) from by simp only [rdH, da, db, dd, Option.bind_some, Option.map_some]]
  exact ⟨M3, rfl, k1.trans (k2.trans k3), c3, q3⟩
theorem snd45r {m : Mem} {c q k : Nat} {rest : List Nat} (hc : Cr m c rest) (hB : Byt rest) (hk : Nm m c k) (hq : m[q]? = some (.var 32 [.int .u16 0])) (hqc : q ≠ c) :
    Snd Try.prog 45 [.ptr q 0, .ptr k 0] m (RQ c q 32 [.int .u16 0] m ((rdN 2 rest).map fun t => (poC t.1, t.2))) := by
  refine Snd_of_W fol rfl rfl (by kernel_rfl) (by kernel_rfl) ?_
  have hk' : m[k]? = some (.var 69 [.ptr c 0]) := hk
  simp -implicitDefEqProofs only [sims.1, fx.1, keeps.1, tick_on, calleeK, extractV, oneV, faddrK, nonnil, b_shr, b_shl, fieldK, Nat.reduceAdd, Nat.reduceMul, Nat.reduceSub, Nat.reduceEqDiff, Nat.reduceLT, Nat.reduceLeDiff, Nat.reduceBEq, Nat.reduceBNe, reduceIte, Int.reduceEq, Int.reduceLT, Int.reduceLE, Int.reduceNe, Int.reduceToNat, hk']
  refine callD_r (snd42r (o := 0) hc hq hqc rfl hB.1 hB.2) en42 ?_ ?_
  · intro l' r' m1 e k1 c1 q1
    obtain ⟨v, e5, rfl⟩ := cellR_some e
    obtain ⟨a, da, e6⟩ := map_some' e5
    cases e6
    simp -implicitDefEqProofs only [sims.1, fx.1, keeps.1, tick_on, calleeK, extractV, oneV, faddrK, nonnil, b_shr, b_shl, fieldK, Nat.reduceAdd, Nat.reduceMul, Nat.reduceSub, Nat.reduceEqDiff, Nat.reduceLT, Nat.reduceLeDiff, Nat.reduceBEq, Nat.reduceBNe, reduceIte, Int.reduceEq, Int.reduceLT, Int.reduceLE, Int.reduceNe, Int.reduceToNat]
    rw [da]
    exact ⟨m1, rfl, k1, c1, q1⟩
  · intro l' m1 e k1 q1 hl
    rw [map_none' (cellR_none e)]
    exact ⟨m1, l', rfl, k1, q1, hl⟩
theorem snd48r {m : Mem} {c q k : Nat} {rest : List Nat} (hc : Cr m c rest) (hB : Byt rest) (hk : Nm m c k) (hq : m[q]? = some (.var 5 [.int .u8 0])) (hqc : q ≠ c) :
    Snd Try.prog 48 [.ptr q 0, .ptr k 0] m (RQ c q 5 [.int .u8 0] m ((rdN 1 rest).map fun t => (byC t.1, t.2))) := by
  refine Snd_of_W fol rfl rfl (by kernel_rfl) (by kernel_rfl) ?_
  have hk' : m[k]? = some (.var 69 [.ptr c 0]) := hk
  simp -implicitDefEqProofs only [sims.1, fx.1, keeps.1, tick_on, calleeK, extractV, oneV, faddrK, nonnil, b_shr, b_shl, fieldK, Nat.reduceAdd, Nat.reduceMul, Nat.reduceSub, Nat.reduceEqDiff, Nat.reduceLT, Nat.reduceLeDiff, Nat.reduceBEq, Nat.reduceBNe, reduceIte, Int.reduceEq, Int.reduceLT, Int.reduceLE, Int.reduceNe, Int.reduceToNat, hk']
  refine callD_r (snd49r (o := 0) hc hq hqc rfl hB.1 hB.2) en49 ?_ ?_
  · intro l' r' m1 e k1 c1 q1
    obtain ⟨v, e5, rfl⟩ := cellR_some e
    obtain ⟨a, da, e6⟩ := map_some' e5
    cases e6
    simp -implicitDefEqProofs only [sims.1, fx.1, keeps.1, tick_on, calleeK, extractV, oneV, faddrK, nonnil, b_shr, b_shl, fieldK, Nat.reduceAdd, Nat.reduceMul, Nat.reduceSub, Nat.reduceEqDiff, Nat.reduceLT, Nat.reduceLeDiff, Nat.reduceBEq, Nat.reduceBNe, reduceIte, Int.reduceEq, Int.reduceLT, Int.reduceLE, Int.reduceNe, Int.reduceToNat]
    rw [da]
    exact ⟨m1, rfl, k1, c1, q1⟩
  · intro l' m1 e k1 q1 hl
    rw [map_none' (cellR_none e)]
    exact ⟨m1, l', rfl, k1, q1, hl⟩
theorem snd43r {m : Mem} {c q ty o : Nat} {l : List V} {rest : List Nat} (hc : Cr m c rest) (hB : Byt rest) (hq : m[q]? = some (.var ty l)) (hqc : q ≠ c) (ho : l[o]? = some .nils) :
    Snd Try.prog 43 [.ptr c 0, .ptr q o] m (RQ c q ty l m (cellR l o ((rdP rest).map fun t => (poV t.1, t.2)))) := by
  refine Snd_of_W fol rfl rfl (by kernel_rfl) (by kernel_rfl) ?_
  have nb : newV 69 m (.ptr c 0) = some (.ptr m.length 0, m ++ [.var 69 [.ptr c 0]]) := newV_one rfl
  have hs : ∀ (b : B), (m ++ [b])[m.length]? = some b := fun b => by simp
  have hlt := hc.lt
  have hql := (List.getElem?_eq_some_iff.1 hq).1
  have hq1 : ∀ ex : Mem, (m ++ ex)[q]? = some (.var ty l) := fun ex => by rw [List.getElem?_append_left hql]; exact hq
  simp -implicitDefEqProofs only [sims.1, fx.1, keeps.1, tick_on, calleeK, extractV, oneV, faddrK, nonnil, b_shr, b_shl, fieldK, Nat.reduceAdd, Nat.reduceMul, Nat.reduceSub, Nat.reduceEqDiff, Nat.reduceLT, Nat.reduceLeDiff, Nat.reduceBEq, Nat.reduceBNe, reduceIte, Int.reduceEq, Int.reduceLT, Int.reduceLE, Int.reduceNe, Int.reduceToNat, nb, hs]
  refine callD_r (LQ_RQ (s := 1) (E := 32) (List.getElem?_eq_some_iff.1 (hq1 _)).1 (hc.app _).lt hqc (List.getElem?_eq_some_iff.1 ho).1 (snd44r0 poC (fun a => .int .u16 (a : Int)) (rdN 2) (hc.app _) hB (hq1 _) hqc ho en45
    (fun m' q' rest' h1 h2 h3 h4 h5 h6 => snd45r h2 h3 (h1.2 _ _ (by omega) (by omega) (hs _)) h4 h5)
    (rdNb 2) (fun _ => rfl) (fun _ => rfl) (fun _ => rfl) (fun _ => rfl) (fun _ => rfl))) en44 ?_ ?_
  · intro l' r' m1 e k1 c1 q1
    simp -implicitDefEqProofs only [sims.1, fx.1, keeps.1, tick_on, calleeK, extractV, oneV, faddrK, nonnil, b_shr, b_shl, fieldK, Nat.reduceAdd, Nat.reduceMul, Nat.reduceSub, Nat.reduceEqDiff, Nat.reduceLT, Nat.reduceLeDiff, Nat.reduceBEq, Nat.reduceBNe, reduceIte, Int.reduceEq, Int.reduceLT, Int.reduceLE, Int.reduceNe, Int.reduceToNat]
    have e : cellR l o ((rdP rest).map fun t => (poV t.1, t.2)) = some (l', r') := e
    rw [e]
    exact ⟨m1, rfl, (K2.app m _).trans k1, c1, q1⟩
  · intro l' m1 e k1 q1 hl
    have e : cellR l o ((rdP rest).map fun t => (poV t.1, t.2)) = none := e
    rw [e]
    exact ⟨m1, l', rfl, (K2.app m _).trans k1, q1, hl⟩
theorem snd41r {m : Mem} {c q : Nat} {l : List V} {rest : List Nat} (hc : Cr m c rest) (hB : Byt rest) (hq : m[q]? = some (.var 37 l)) (hqc : q ≠ c) (ho : l[28]? = some (.int .u16 0)) :
    Snd Try.prog 41 [.ptr c 0, .ptr q 0] m (RQ c q 37 l m (cellR l 28 ((rdN 2 rest).map fun t => (.int .u16 (t.1 : Int), t.2)))) := by
  refine Snd_of_W fol rfl rfl (by kernel_rfl) (by kernel_rfl) ?_
  have hnn : ∀ k o, nonnil (.ptr k o) = true := fun _ _ => rfl
  simp -implicitDefEqProofs only [sims.1, fx.1, keeps.1, tick_on, calleeK, extractV, oneV, faddrK, nonnil, b_shr, b_shl, fieldK, Nat.reduceAdd, Nat.reduceMul, Nat.reduceSub, Nat.reduceEqDiff, Nat.reduceLT, Nat.reduceLeDiff, Nat.reduceBEq, Nat.reduceBNe, reduceIte, Int.reduceEq, Int.reduceLT, Int.reduceLE, Int.reduceNe, Int.reduceToNat, hnn]
  refine callD_r (snd42r (o := 28) hc hq hqc ho hB.1 hB.2) en42 ?_ ?_
  · intro l' r' m1 e k1 c1 q1
    simp -implicitDefEqProofs only [sims.1, fx.1, keeps.1, tick_on, calleeK, extractV, oneV, faddrK, nonnil, b_shr, b_shl, fieldK, Nat.reduceAdd, Nat.reduceMul, Nat.reduceSub, Nat.reduceEqDiff, Nat.reduceLT, Nat.reduceLeDiff, Nat.reduceBEq, Nat.reduceBNe, reduceIte, Int.reduceEq, Int.reduceLT, Int.reduceLE, Int.reduceNe, Int.reduceToNat]
    rw [e]
    exact ⟨m1, rfl, k1, c1, q1⟩
  · intro l' m1 e k1 q1 hl
    rw [e]
    exact ⟨m1, l', rfl, k1, q1, hl⟩
theorem snd59r {m : Mem} {c q : Nat} {l : List V} {rest : List Nat} (hc : Cr m c rest) (hB : Byt rest) (hq : m[q]? = some (.var 37 l)) (hqc : q ≠ c) (ho : l[35]? = some (.int .u16 0)) :
    Snd Try.prog 59 [.ptr c 0, .ptr q 0] m (RQ c q 37 l m (cellR l 35 ((rdN 2 rest).map fun t => (.int .u16 (t.1 : Int), t.2)))) := by
  refine Snd_of_W fol rfl rfl (by kernel_rfl) (by kernel_rfl) ?_
  have hnn : ∀ k o, nonnil (.ptr k o) = true := fun _ _ => rfl
  simp -implicitDefEqProofs only [sims.1, fx.1, keeps.1, tick_on, calleeK, extractV, oneV, faddrK, nonnil, b_shr, b_shl, fieldK, Nat.reduceAdd, Nat.reduceMul, Nat.reduceSub, Nat.reduceEqDiff, Nat.reduceLT, Nat.reduceLeDiff, Nat.reduceBEq, Nat.reduceBNe, reduceIte, Int.reduceEq, Int.reduceLT, Int.reduceLE, Int.reduceNe, Int.reduceToNat, hnn]
  refine callD_r (snd42r (o := 35) hc hq hqc ho hB.1 hB.2) en42 ?_ ?_
  · intro l' r' m1 e k1 c1 q1
    simp -implicitDefEqProofs only [sims.1, fx.1, keeps.1, tick_on, calleeK, extractV, oneV, faddrK, nonnil, b_shr, b_shl, fieldK, Nat.reduceAdd, Nat.reduceMul, Nat.reduceSub, Nat.reduceEqDiff, Nat.reduceLT, Nat.reduceLeDiff, Nat.reduceBEq, Nat.reduceBNe, reduceIte, Int.reduceEq, Int.reduceLT, Int.reduceLE, Int.reduceNe, Int.reduceToNat]
    rw [e]
    exact ⟨m1, rfl, k1, c1, q1⟩
  · intro l' m1 e k1 q1 hl
    rw [e]
    exact ⟨m1, l', rfl, k1, q1, hl⟩
end Go.Proofs.Ytjjenpdjmcmgbaa
