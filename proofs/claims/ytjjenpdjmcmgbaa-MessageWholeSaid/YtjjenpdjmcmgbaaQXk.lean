/- A rule, read: the walk. No condition. -/
import Derived.Test.YtjjenpdjmcmgbaaQXj
namespace Go.Proofs.Ytjjenpdjmcmgbaa
open Go Ab
set_option linter.unusedSimpArgs false
set_option linter.unusedVariables false
set_option maxRecDepth 20000
theorem cellR_some {l : List V} {o : Nat} {p : Option (V × List Nat)} {l' : List V} {r : List Nat} (e : cellR l o p = some (l', r)) : ∃ v, p = some (v, r) ∧ l' = l.set o v := by
  cases p with
  | none => cases e
  | some p => cases e; exact ⟨_, rfl, rfl⟩
theorem cellR_none {l : List V} {o : Nat} {p : Option (V × List Nat)} (e : cellR l o p = none) : p = none := by
  cases p with
  | none => rfl
  | some p => cases e
theorem map_none' {α β : Type} {p : Option α} {f : α → β} (e : p.map f = none) : p = none := by cases p with
  | none => rfl
  | some p => cases e
theorem map_some' {α β : Type} {p : Option α} {f : α → β} {b : β} (e : p.map f = some b) : ∃ a, p = some a ∧ f a = b := by cases p with
  | none => cases e
  | some p => cases e; exact ⟨_, rfl, rfl⟩
set_option maxHeartbeats 2000000 in
theorem snd53r {m : Mem} {c q ty : Nat} {A Z : List V} {rest : List Nat} (hc : Cr m c rest) (hB : Byt rest) (hq : m[q]? = some (.var ty (R4 A Z 0 w0 .nils 0))) (hqc : q ≠ c) :
    Snd Try.prog 53 [.ptr c 0, .ptr q A.length] m (RQ c q ty (R4 A Z 0 w0 .nils 0) m ((rdR rest).map fun t => (A ++ (ruC t.1 ++ Z), t.2))) := by
  refine Snd_of_W fol rfl rfl (by kernel_rfl) (by kernel_rfl) ?_
  have nb : newV 69 m (.ptr c 0) = some (.ptr m.length 0, m ++ [.var 69 [.ptr c 0]]) := newV_one rfl
  have hnn : ∀ k o, nonnil (.ptr k o) = true := fun _ _ => rfl
  have hql := (List.getElem?_eq_some_iff.1 hq).1
  have hcl := hc.lt
  have hs : ∀ (b b' : B), (m ++ [b, b'])[m.length]? = some b := fun b b' => by simp
  have hs2 : ∀ (b b' : B), (m ++ [b, b'])[m.length + 1]? = some b' := fun b b' => by simp
  have hap : ∀ (b b' : B), m ++ [b] ++ [b'] = m ++ [b, b'] := fun b b' => by simp
  have hset : ∀ b b' b'' : B, (m ++ [b, b']).set (m.length + 1) b'' = m ++ [b, b''] := fun b b' b'' => by simp
  have hq1 : ∀ ex : Mem, (m ++ ex)[q]? = some (.var ty (R4 A Z 0 w0 .nils 0)) := fun ex => by rw [List.getElem?_append_left hql]; exact hq
  have at0 : ∀ (a : Int) (w : Nat → Nat) (L : V) (ck : Nat), (R4 A Z a w L ck)[A.length]? = some (.int .i64 a) := fun _ _ _ _ => R4_at0
  have a1 : IntKind.i32.wrap 0 = 0 := rfl
  have a2 : IntKind.u32.wrap 0 = 0 := rfl
  simp -implicitDefEqProofs only [sims.1, fx.1, keeps.1, tick_on, calleeK, extractV, oneV, faddrK, nonnil, b_shr, b_shl, fieldK, Nat.reduceAdd, Nat.reduceMul, Nat.reduceSub, Nat.reduceEqDiff, Nat.reduceLT, Nat.reduceLeDiff, Nat.reduceBEq, Nat.reduceBNe, reduceIte, Int.reduceEq, Int.reduceLT, Int.reduceLE, Int.reduceNe, Int.reduceToNat, nb, hnn, hap, hq1, at0, a1, a2, List.length_append, hs, hs2, hset]
  refine callD_r (snd22r (o := 0) (hc.app _) (hs2 _ _) (by omega) rfl hB.1 hB.2) en22 ?_ ?_
  rotate_left
  · intro l1 m1 e k1 q1 hl
    have e := map_none' (cellR_none e)
    rw [show rdR rest = none from by simp only [rdR, e, Option.bind_none]]
    exact ⟨m1, _, rfl, k1.new (by omega), k1.2 q _ hqc (by omega) (hq1 _), rfl⟩
  intro l1 r1 m1 e k1 c1 q1
  obtain ⟨v, e5, rfl⟩ := cellR_some e
  obtain ⟨a, da, e6⟩ := map_some' e5
  cases e6
  have q1 : m1[m.length + 1]? = some (.var 23 [.int .u32 (a.1 : Int)]) := q1
  have B1 : Byt a.2 := rdN_byt hB da
  have kk : K2 c q m m1 := k1.new (by omega)
  have n1 : m1[m.length]? = some (.var 69 [.ptr c 0]) := k1.2 _ _ (by omega) (by omega) (hs _ _)
  have qq : m1[q]? = some (.var ty (R4 A Z 0 w0 .nils 0)) := k1.2 q _ hqc (by omega) (hq1 _)
  have hqq := (List.getElem?_eq_some_iff.1 qq).1
  have hol : A.length < (R4 A Z 0 w0 .nils 0).length := by rw [R4_len]; omega
  have w1 := i32w (a.1 : Int)
  have st0 : ∀ a' : Int, (R4 A Z 0 w0 .nils 0).set A.length (.int .i64 a') = R4 A Z a' w0 .nils 0 := fun a' => R4_set0 a'
  simp -implicitDefEqProofs only [sims.1, fx.1, keeps.1, tick_on, calleeK, extractV, oneV, faddrK, nonnil, b_shr, b_shl, fieldK, Nat.reduceAdd, Nat.reduceMul, Nat.reduceSub, Nat.reduceEqDiff, Nat.reduceLT, Nat.reduceLeDiff, Nat.reduceBEq, Nat.reduceBNe, reduceIte, Int.reduceEq, Int.reduceLT, Int.reduceLE, Int.reduceNe, Int.reduceToNat, q1, w1, qq, hnn, hol, st0]
  generalize hM1 : m1.set q (.var ty (R4 A Z (IntKind.i32.wrap (a.1 : Int)) w0 .nils 0)) = M1
  have k2 : K2 c q m M1 := by rw [← hM1]; exact kk.set _
  have c2 : Cr M1 c a.2 := by unfold Cr; rw [← hM1, List.getElem?_set_ne hqc]; exact c1
  have q2 : M1[q]? = some (.var ty (R4 A Z (IntKind.i32.wrap (a.1 : Int)) w0 .nils 0)) := by rw [← hM1]; exact List.getElem?_set_self hqq
  have n2 : Nm M1 c m.length := by unfold Nm; rw [← hM1, List.getElem?_set_ne (by omega)]; exact n1
  clear hM1
  have eR : rdR rest = (rdN 8 a.2).bind fun b => (rdM b.2).bind fun w => (rdL (rdL rdAc) w.2).map fun t => (⟨IntKind.i32.wrap (a.1 : Int), w.1, t.1, b.1⟩, t.2) := by simp only [rdR, da, Option.bind_some]
  rw [eR]
  clear eR
  generalize IntKind.i32.wrap (a.1 : Int) = rk at *
  refine w_callsP (JR M1 (GR c q ty (R4 A Z rk w0 .nils 0) M1 (cellR (R4 A Z rk w0 .nils 0) (A.length + 24) ((rdN 8 a.2).map fun p => (.int .u64 (p.1 : Int), p.2))))) (HR c q ty (R4 A Z rk w0 .nils 0) M1 (cellR (R4 A Z rk w0 .nils 0) (A.length + 24) ((rdN 8 a.2).map fun p => (.int .u64 (p.1 : Int), p.2)))) [4] [.ptr c 0, .ptr q A.length, .ptr q A.length, .ptr q (A.length + 24), .tup []] (by kernel_rfl) rfl ?_ ?_ ?_
  · refine okN_early 0 rfl rfl rfl rfl (fun i M' hi h => by
      show Option.map (Res.val · M') (loadV Try.prog M' 69 (.ptr m.length 0)) = _
      rw [JR0 h hi, ld69, loadK_ptr, n2]
      rfl) ?_
    refine okN_pure rfl rfl rfl (fun _ _ _ => rfl) ?_
    refine okN_pure rfl rfl rfl (fun _ M' _ => rfl) ?_
    refine okN_pure rfl rfl rfl (fun _ M' _ => by
      show Option.map (Res.val · M') (faddrV Try.prog 31 3 (.ptr q A.length)) = _
      rw [fa31_3]
      rfl) ?_
    refine okN_call rfl (show calleeV (evO _) _ = some (31, [.ptr c 0, .ptr q (A.length + 24), .int .i64 8]) by kernel_rfl) rfl rfl (fun m' h => callD_jr (snd31q (n := 8) (o := A.length + 24) (a := 0) c2 q2 hqc R4_at24 B1.1 B1.2 (by omega) (by omega)) en31 h) ?_
    exact okN_nil
  rotate_left
  · rintro _ M ⟨rfl, e, kk, l', q', hl⟩
    have e := map_none' (cellR_none e)
    rw [e]
    exact ⟨M, l', rfl, k2.trans kk, q', by rw [hl, R4_len, R4_len]⟩
  rintro M2 ⟨l2, r2, e, k3, c3, q3⟩
  obtain ⟨v, e5, rfl⟩ := cellR_some e
  obtain ⟨b, db, e6⟩ := map_some' e5
  cases e6
  have B2 : Byt b.2 := rdN_byt B1 db
  have q3 : M2[q]? = some (.var ty (R4 A Z rk w0 .nils b.1)) := by rw [q3, R4_set24]
  have n3 : Nm M2 c m.length := k3.2 _ _ (by omega) (by omega) n2
  have k3 := k2.trans k3
  rw [db]
  simp only [Option.bind_some]
  simp -implicitDefEqProofs only [sims.1, fx.1, keeps.1, tick_on, calleeK, extractV, oneV, faddrK, nonnil, b_shr, b_shl, fieldK, Nat.reduceAdd, Nat.reduceMul, Nat.reduceSub, Nat.reduceEqDiff, Nat.reduceLT, Nat.reduceLeDiff, Nat.reduceBEq, Nat.reduceBNe, reduceIte, Int.reduceEq, Int.reduceLT, Int.reduceLE, Int.reduceNe, Int.reduceToNat, putAll]
  refine w_callsP (JR M2 (GR c q ty (R4 A Z rk w0 .nils b.1) M2 ((rdM b.2).map fun t => (R4 A Z rk t.1 .nils b.1, t.2)))) (HR c q ty (R4 A Z rk w0 .nils b.1) M2 ((rdM b.2).map fun t => (R4 A Z rk t.1 .nils b.1, t.2))) [4] [.ptr c 0, .ptr q A.length, .ptr q A.length, .ptr q (A.length + 1), .tup []] (by kernel_rfl) rfl ?_ ?_ ?_
  · refine okN_early 0 rfl rfl rfl rfl (fun i M' hi h => by
      show Option.map (Res.val · M') (loadV Try.prog M' 69 (.ptr m.length 0)) = _
      rw [JR0 h hi, ld69, loadK_ptr, n3]
      rfl) ?_
    refine okN_pure rfl rfl rfl (fun _ _ _ => rfl) ?_
    refine okN_pure rfl rfl rfl (fun _ M' _ => rfl) ?_
    refine okN_pure rfl rfl rfl (fun _ M' _ => by
      show Option.map (Res.val · M') (faddrV Try.prog 31 1 (.ptr q A.length)) = _
      rw [fa31_1]
      rfl) ?_
    refine okN_call rfl (show calleeV (evO _) _ = some (69, [.ptr c 0, .ptr q (A.length + 1)]) by kernel_rfl) rfl rfl (fun m' h => callD_jr (?_ : Snd Try.prog 69 _ M2 _) en69 h) ?_
    · have := snd69r (l := R4 A Z rk w0 .nils b.1) (o := A.length + 1) (ty := ty) c3 B2 (by rw [R4_len]; omega) (by rw [R4_putM]; exact q3) hqc
      simp only [R4_putM] at this
      exact this
    exact okN_nil
  rotate_left
  · rintro _ M ⟨rfl, e, kk, l', q', hl⟩
    have e := map_none' e
    rw [e]
    exact ⟨M, l', rfl, k3.trans kk, q', by rw [hl, R4_len, R4_len]⟩
  rintro M3 ⟨l3, r3, e, k4, c4, q4⟩
  obtain ⟨w, dw, e6⟩ := map_some' e
  cases e6
  have B3 : Byt w.2 := rdM_byt B2 dw
  have n4 : Nm M3 c m.length := k4.2 _ _ (by omega) (by omega) n3
  have k4 := k3.trans k4
  rw [dw]
  simp only [Option.bind_some]
  simp -implicitDefEqProofs only [sims.1, fx.1, keeps.1, tick_on, calleeK, extractV, oneV, faddrK, nonnil, b_shr, b_shl, fieldK, Nat.reduceAdd, Nat.reduceMul, Nat.reduceSub, Nat.reduceEqDiff, Nat.reduceLT, Nat.reduceLeDiff, Nat.reduceBEq, Nat.reduceBNe, reduceIte, Int.reduceEq, Int.reduceLT, Int.reduceLE, Int.reduceNe, Int.reduceToNat, putAll]
  refine w_callsP (JR M3 (GR c q ty (R4 A Z rk w.1 .nils b.1) M3 (cellR (R4 A Z rk w.1 .nils b.1) (A.length + 23) ((rdL (rdL rdAc) w.2).map fun t => (cpsV t.1, t.2))))) (HR c q ty (R4 A Z rk w.1 .nils b.1) M3 (cellR (R4 A Z rk w.1 .nils b.1) (A.length + 23) ((rdL (rdL rdAc) w.2).map fun t => (cpsV t.1, t.2)))) [5] [.ptr c 0, .ptr q A.length, .ptr q A.length, .ptr q (A.length + 23), .fn 71 [] [.ptr m.length 0], .tup []] (by kernel_rfl) rfl ?_ ?_ ?_
  · refine okN_early 0 rfl rfl rfl rfl (fun i M' hi h => by
      show Option.map (Res.val · M') (loadV Try.prog M' 69 (.ptr m.length 0)) = _
      rw [JR0 h hi, ld69, loadK_ptr, n4]
      rfl) ?_
    refine okN_pure rfl rfl rfl (fun _ _ _ => rfl) ?_
    refine okN_pure rfl rfl rfl (fun _ M' _ => rfl) ?_
    refine okN_pure rfl rfl rfl (fun _ M' _ => by
      show Option.map (Res.val · M') (faddrV Try.prog 31 2 (.ptr q A.length)) = _
      rw [fa31_2]
      rfl) ?_
    refine okN_pure rfl rfl rfl (fun _ M' _ => rfl) ?_
    refine okN_call rfl (show calleeV (evO _) _ = some (70, [.ptr c 0, .ptr q (A.length + 23), .fn 71 [] [.ptr m.length 0]]) by kernel_rfl) rfl rfl (fun m' h => callD_jr (snd70x (o := A.length + 23) c4 B3 n4 (by omega) q4 hqc (by omega) R4_at23) en70 h) ?_
    exact okN_nil
  rotate_left
  · rintro _ M ⟨rfl, e, kk, l', q', hl⟩
    have e := map_none' (cellR_none e)
    rw [e]
    exact ⟨M, l', rfl, k4.trans kk, q', by rw [hl, R4_len, R4_len]⟩
  rintro M4 ⟨l4, r4, e, k5, c5, q5⟩
  obtain ⟨v, e5, rfl⟩ := cellR_some e
  obtain ⟨t, dt, e6⟩ := map_some' e5
  cases e6
  rw [dt]
  simp -implicitDefEqProofs only [sims.1, fx.1, keeps.1, tick_on, calleeK, extractV, oneV, faddrK, nonnil, b_shr, b_shl, fieldK, Nat.reduceAdd, Nat.reduceMul, Nat.reduceSub, Nat.reduceEqDiff, Nat.reduceLT, Nat.reduceLeDiff, Nat.reduceBEq, Nat.reduceBNe, reduceIte, Int.reduceEq, Int.reduceLT, Int.reduceLE, Int.reduceNe, Int.reduceToNat, putAll]
  rw [R4_set23] at q5
  exact ⟨M4, rfl, k4.trans k5, c5, q5⟩
end Go.Proofs.Ytjjenpdjmcmgbaa
