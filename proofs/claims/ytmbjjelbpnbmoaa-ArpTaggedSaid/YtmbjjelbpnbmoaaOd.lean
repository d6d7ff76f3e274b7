/- An IPv4 head with one byte changed is none any more. No condition. -/
import Derived.Test.YtmbjjelbpnbmoaaOc
import Derived.Laws.BitsAllLaws
namespace Go.Proofs.Ytmbjjelbpnbmoaa
open Go Ab
set_option linter.unusedSimpArgs false
set_option linter.unusedVariables false
set_option maxRecDepth 20000

theorem gt_low (A X Y : List Nat) (a n : Nat) (h : a + n ≤ A.length) : gt (A ++ X) a n = gt (A ++ Y) a n := by
  unfold gt
  rw [List.drop_append_of_le_length (by omega), List.drop_append_of_le_length (by omega), List.take_append_of_le_length (by simp; omega), List.take_append_of_le_length (by simp; omega)]
/-- A row of bytes with an IPv4 head that is none, is no frame. -/
theorem spoilt_no {h : Hd} {b : List Nat} (h0 : bldF h b = 0) (hb : ∀ x ∈ b, x < 256) (k : h 2 = 2048) (j v : Nat) (hj : j < 20) (hv : v < 256) (hne : v ≠ (frmR h b).getD (po (frmR h b) + j) 0) : prsK ((frmR h b).set (po (frmR h b) + j) v) = false := by
  obtain ⟨ok, ha⟩ := bld_parts h0
  have f := fit_of ok
  have hpo := back_po (b := b) f
  have hrest : restR h b = headR h ((portsR h b.length).length + b.length) ++ (portsR h b.length ++ b) := by simp [restR, k, inetR]
  have hpl : (preR h).length = po (frmR h b) := by rw [hpo, preR_len]
  generalize hH : headR h ((portsR h b.length).length + b.length) = H at hrest
  generalize hT : portsR h b.length ++ b = T at hrest
  have hHl : H.length = 20 := by rw [← hH]; exact headR_len _ _
  have hHm : psum H 20 % 65535 = 0 := by rw [← hH]; exact head_mod _ _
  have hHb : ∀ x ∈ H, x < 256 := by rw [← hH]; exact headR_lt _ _
  have hF : frmR h b = preR h ++ (H ++ T) := by rw [frm_split, hrest]
  have hset : (frmR h b).set (po (frmR h b) + j) v = preR h ++ (H.set j v ++ T) := by
    rw [← hpl]
    rw [hF, List.set_append_right _ _ (by omega)]
    have : (preR h).length + j - (preR h).length = j := by omega
    rw [this, List.set_append_left _ _ (by omega)]
  have hold : (frmR h b).getD (po (frmR h b) + j) 0 = H.getD j 0 := by
    rw [← hpl, hF]
    simp only [List.getD]
    rw [List.getElem?_append_right (by omega), List.getElem?_append_left (by omega)]
    congr 2
    omega
  rw [hold] at hne
  rw [hset]
  have hbad := spoilt_mod H j v hHl hj hHb hv hne hHm
  generalize hG : preR h ++ (H.set j v ++ T) = G
  have hp14 : 14 ≤ (preR h).length := by rw [preR_len]; cases decide (h 3 = 0) <;> simp
  have low : ∀ a n, a + n ≤ (preR h).length → gt G a n = gt (frmR h b) a n := by
    intro a n hn
    rw [← hG, hF]
    exact gt_low _ _ _ _ _ hn
  have htg : tg G = tg (frmR h b) := by
    unfold tg
    rw [low 12 2 (by omega)]
  have hpoG : po G = po (frmR h b) := by unfold po; rw [htg]
  have hkdG : kd G = 2048 := by
    have h1 := back_kd (b := b) f
    rw [k] at h1
    rw [← h1]
    unfold kd
    rw [htg]
    have h2 : po (frmR h b) = (bif tg (frmR h b) then 18 else 14) := rfl
    cases e : tg (frmR h b)
    · simp only [cond_false]
      exact low 12 2 (by omega)
    · rw [e] at h2
      simp only [cond_true] at h2 ⊢
      exact low 16 2 (by omega)
  cases hk : prsK G
  · rfl
  exfalso
  unfold prsK at hk
  simp only [Bool.and_eq_true] at hk
  have g0 := of_decide_eq_true hk.2.1
  have gE := of_decide_eq_true hk.2.2
  obtain ⟨gok, _⟩ := bld_parts g0
  have gf := fit_of gok
  have g2 : rdH G 2 = 2048 := hkdG
  have gd := back_drop (b := rdB G) gf 0
  rw [gE, hpoG, Nat.add_zero, List.drop_zero] at gd
  have gr : restR (rdH G) (rdB G) = headR (rdH G) ((portsR (rdH G) (rdB G).length).length + (rdB G).length) ++ (portsR (rdH G) (rdB G).length ++ rdB G) := by simp [restR, g2, inetR]
  rw [gr, ← hG, ← hpl, List.drop_left] at gd
  have gm := head_mod (rdH G) ((portsR (rdH G) (rdB G).length).length + (rdB G).length)
  have gl := headR_len (rdH G) ((portsR (rdH G) (rdB G).length).length + (rdB G).length)
  rw [hG] at gd
  generalize headR (rdH G) ((portsR (rdH G) (rdB G).length).length + (rdB G).length) = Y at gd gm gl
  have : H.set j v = Y := by
    have h1 := congrArg (List.take 20) gd
    rw [List.take_append_of_le_length (by simp [hHl]), List.take_append_of_le_length (by omega), List.take_of_length_le (by simp [hHl]), List.take_of_length_le (by omega)] at h1
    exact h1
  rw [this] at hbad
  exact hbad gm
theorem ldB {m : Mem} {n i : Nat} {l : List Nat} (hm : m[n]? = some (rowB l)) (hi : i < l.length) : loadK false 1 m (.ep 1 n i 0) = some (.int .u8 ((l[i] : Nat) : Int)) := by
  rw [loadK_ep, hm]
  have h1 : (l.map byC)[i]? = some (byC l[i]) := by simp [hi]
  simp only [rowB, Option.bind_some, h1, if_true]
  rfl
theorem at20 (z : Int) : ∃ j : Nat, j < 20 ∧ (IntKind.i64.wrap (z.tmod 20 + 20)).tmod 20 = (j : Int) := by
  have h1 : -20 < z.tmod 20 := by
    have := Int.lt_tmod_of_pos z (show (0 : Int) < 20 by omega)
    omega
  have h2 : z.tmod 20 < 20 := Int.tmod_lt_of_pos z (by omega)
  rw [show IntKind.i64.wrap (z.tmod 20 + 20) = z.tmod 20 + 20 by rw [IntKind.wrap_i64]; omega, Int.tmod_eq_emod_of_nonneg (by omega)]
  exact ⟨((z.tmod 20 + 20) % 20).toNat, by omega, by omega⟩
theorem xor_ne (x y : Nat) (h : y ≠ 0) : x ^^^ y ≠ x := by
  intro e
  apply h
  have h1 : x ^^^ (x ^^^ y) = x ^^^ x := by rw [e]
  rw [← Nat.xor_assoc, Nat.xor_self, Nat.zero_xor] at h1
  exact h1
set_option maxHeartbeats 8000000 in
theorem ans5 (p : Pk) (z : Int) (y : Nat) (okp : U64h p.h ∧ okB p.b) (hy : y < 256) : Ans Try.prog 5 [pkA p.h p.b, .int .i64 z, .int .u8 (y : Int)] (.bool true) := by
  obtain ⟨hh, hpb, hpl⟩ := okp
  obtain ⟨h, b⟩ := p
  simp only at hh hpb hpl ⊢
  refine Snd_of_W fol rfl rfl (by kernel_rfl) (by kernel_rfl) ?_
  unfold pkA
  simp -implicitDefEqProofs only [sims.1, fx.1, tick_on, calleeK, List.getElem?_toArray, extractV, oneV, faddrK, nonnil, b_shr, b_shl, eq_self, beq_self_eq_true, fieldK, Option.bind_some, Option.map_some, Option.bind_none, Option.map_none, List.map_cons, List.map_nil, List.getD_cons_zero, List.getD_cons_succ, List.getD_nil, List.length_nil, List.length_cons, List.length_set, List.nil_append, List.cons_append, List.append_nil, List.getElem?_cons_zero, List.getElem?_cons_succ, List.getElem?_nil, List.set_cons_zero, List.set_cons_succ, Nat.reduceAdd, Nat.zero_add, Nat.add_zero, Nat.mul_one, Nat.mul_zero, Nat.zero_mul, Nat.reduceMul, Nat.reduceSub, Nat.reduceEqDiff, Nat.reduceLT, Nat.reduceLeDiff, Nat.reduceBEq, Nat.reduceBNe, Nat.succ_ne_self, reduceIte, if_true, if_false, ite_self, decide_true, decide_false, Bool.not_true, Bool.not_false, Bool.and_true, Bool.true_and, Bool.and_false, Bool.false_and, Bool.or_true, Bool.true_or, Bool.or_false, Bool.false_or, cond_true, cond_false, Int.reduceEq, Int.reduceLT, Int.reduceLE, Int.reduceNe, Int.reduceToNat, pk_all]
  cases b0 : decide (bldF h b = 0)
  · refine callD_ans (ans18 h b hh hpb hpl) en18 (show nfs [pkA h b] = true by simp only [nfs, nf_pkA, Bool.and_self]) (by simp only [nf, nfs, nf_by, Bool.and_self]) ?_
    simp -implicitDefEqProofs only [sims.1, fx.1, tick_on, calleeK, List.getElem?_toArray, extractV, oneV, faddrK, nonnil, b_shr, b_shl, eq_self, beq_self_eq_true, fieldK, Option.bind_some, Option.map_some, Option.bind_none, Option.map_none, List.map_cons, List.map_nil, List.getD_cons_zero, List.getD_cons_succ, List.getD_nil, List.length_nil, List.length_cons, List.length_set, List.nil_append, List.cons_append, List.append_nil, List.getElem?_cons_zero, List.getElem?_cons_succ, List.getElem?_nil, List.set_cons_zero, List.set_cons_succ, Nat.reduceAdd, Nat.zero_add, Nat.add_zero, Nat.mul_one, Nat.mul_zero, Nat.zero_mul, Nat.reduceMul, Nat.reduceSub, Nat.reduceEqDiff, Nat.reduceLT, Nat.reduceLeDiff, Nat.reduceBEq, Nat.reduceBNe, Nat.succ_ne_self, reduceIte, if_true, if_false, ite_self, decide_true, decide_false, Bool.not_true, Bool.not_false, Bool.and_true, Bool.true_and, Bool.and_false, Bool.false_and, Bool.or_true, Bool.true_or, Bool.or_false, Bool.false_or, cond_true, cond_false, Int.reduceEq, Int.reduceLT, Int.reduceLE, Int.reduceNe, Int.reduceToNat, eqC0, b0]
    refine callD_ans ans17 en17 rfl rfl ?_
    simp -implicitDefEqProofs only [sims.1, fx.1, tick_on, calleeK, List.getElem?_toArray, extractV, oneV, faddrK, nonnil, b_shr, b_shl, eq_self, beq_self_eq_true, fieldK, Option.bind_some, Option.map_some, Option.bind_none, Option.map_none, List.map_cons, List.map_nil, List.getD_cons_zero, List.getD_cons_succ, List.getD_nil, List.length_nil, List.length_cons, List.length_set, List.nil_append, List.cons_append, List.append_nil, List.getElem?_cons_zero, List.getElem?_cons_succ, List.getElem?_nil, List.set_cons_zero, List.set_cons_succ, Nat.reduceAdd, Nat.zero_add, Nat.add_zero, Nat.mul_one, Nat.mul_zero, Nat.zero_mul, Nat.reduceMul, Nat.reduceSub, Nat.reduceEqDiff, Nat.reduceLT, Nat.reduceLeDiff, Nat.reduceBEq, Nat.reduceBNe, Nat.succ_ne_self, reduceIte, if_true, if_false, ite_self, decide_true, decide_false, Bool.not_true, Bool.not_false, Bool.and_true, Bool.true_and, Bool.and_false, Bool.false_and, Bool.or_true, Bool.true_or, Bool.or_false, Bool.false_or, cond_true, cond_false, Int.reduceEq, Int.reduceLT, Int.reduceLE, Int.reduceNe, Int.reduceToNat]
    exact ans_ret rfl
  have h0 := of_decide_eq_true b0
  obtain ⟨ok, _⟩ := bld_parts h0
  have f := fit_of ok
  have hE : bldE h b = 0 := by rw [bld_eq hpb]; exact h0
  have hS : Snd Try.prog 18 [.agg (pkC h b)] [] fun q => ∃ m1 k n, q = .ret (.tup [.sl 1 k 0 n, .int .i64 0]) m1 ∧ nfM m1 = true ∧ m1[k]? = some (rowB (frmR h b)) ∧ n = (frmR h b).length := by
    refine (snd18 h b hh hpb hpl).mono ?_
    rintro q (⟨_, m1, k, n, rfl, h1, h2, h3⟩ | ⟨h1, _⟩)
    · rw [frm_eq ok hpb] at h2 h3
      exact ⟨m1, k, n, rfl, h1, h2, h3⟩
    · exact absurd hE h1
  refine callD_newQ hS en18 (show nfs [pkA h b] = true by simp only [nfs, nf_pkA, Bool.and_self]) ?_
  rintro q ⟨m1, k, n, rfl, hm1, hk1, hn⟩
  refine ⟨_, m1, rfl, hm1, rfl, rfl, ?_⟩
  have er : ren (back [] 1) (.tup [.sl 1 k 0 n, .int .i64 0]) = .tup [.sl 1 (1 + k) 0 n, .int .i64 0] := rfl
  have d0 : decide ((0 : Int) = 0) = true := rfl
  simp -implicitDefEqProofs only [sims.1, fx.1, tick_on, calleeK, List.getElem?_toArray, extractV, oneV, faddrK, nonnil, b_shr, b_shl, eq_self, beq_self_eq_true, fieldK, Option.bind_some, Option.map_some, Option.bind_none, Option.map_none, List.map_cons, List.map_nil, List.getD_cons_zero, List.getD_cons_succ, List.getD_nil, List.length_nil, List.length_cons, List.length_set, List.nil_append, List.cons_append, List.append_nil, List.getElem?_cons_zero, List.getElem?_cons_succ, List.getElem?_nil, List.set_cons_zero, List.set_cons_succ, Nat.reduceAdd, Nat.zero_add, Nat.add_zero, Nat.mul_one, Nat.mul_zero, Nat.zero_mul, Nat.reduceMul, Nat.reduceSub, Nat.reduceEqDiff, Nat.reduceLT, Nat.reduceLeDiff, Nat.reduceBEq, Nat.reduceBNe, Nat.succ_ne_self, reduceIte, if_true, if_false, ite_self, decide_true, decide_false, Bool.not_true, Bool.not_false, Bool.and_true, Bool.true_and, Bool.and_false, Bool.false_and, Bool.or_true, Bool.true_or, Bool.or_false, Bool.false_or, cond_true, cond_false, Int.reduceEq, Int.reduceLT, Int.reduceLE, Int.reduceNe, Int.reduceToNat, er]
  cases kk : decide (h 2 = 2048)
  · simp -implicitDefEqProofs only [sims.1, fx.1, tick_on, calleeK, List.getElem?_toArray, extractV, oneV, faddrK, nonnil, b_shr, b_shl, eq_self, beq_self_eq_true, fieldK, Option.bind_some, Option.map_some, Option.bind_none, Option.map_none, List.map_cons, List.map_nil, List.getD_cons_zero, List.getD_cons_succ, List.getD_nil, List.length_nil, List.length_cons, List.length_set, List.nil_append, List.cons_append, List.append_nil, List.getElem?_cons_zero, List.getElem?_cons_succ, List.getElem?_nil, List.set_cons_zero, List.set_cons_succ, Nat.reduceAdd, Nat.zero_add, Nat.add_zero, Nat.mul_one, Nat.mul_zero, Nat.zero_mul, Nat.reduceMul, Nat.reduceSub, Nat.reduceEqDiff, Nat.reduceLT, Nat.reduceLeDiff, Nat.reduceBEq, Nat.reduceBNe, Nat.succ_ne_self, reduceIte, if_true, if_false, ite_self, decide_true, decide_false, Bool.not_true, Bool.not_false, Bool.and_true, Bool.true_and, Bool.and_false, Bool.false_and, Bool.or_true, Bool.true_or, Bool.or_false, Bool.false_or, cond_true, cond_false, Int.reduceEq, Int.reduceLT, Int.reduceLE, Int.reduceNe, Int.reduceToNat, d0, iaL2, pk2, eqC3, kk]
    refine callD_ans ans17 en17 rfl rfl ?_
    simp -implicitDefEqProofs only [sims.1, fx.1, tick_on, calleeK, List.getElem?_toArray, extractV, oneV, faddrK, nonnil, b_shr, b_shl, eq_self, beq_self_eq_true, fieldK, Option.bind_some, Option.map_some, Option.bind_none, Option.map_none, List.map_cons, List.map_nil, List.getD_cons_zero, List.getD_cons_succ, List.getD_nil, List.length_nil, List.length_cons, List.length_set, List.nil_append, List.cons_append, List.append_nil, List.getElem?_cons_zero, List.getElem?_cons_succ, List.getElem?_nil, List.set_cons_zero, List.set_cons_succ, Nat.reduceAdd, Nat.zero_add, Nat.add_zero, Nat.mul_one, Nat.mul_zero, Nat.zero_mul, Nat.reduceMul, Nat.reduceSub, Nat.reduceEqDiff, Nat.reduceLT, Nat.reduceLeDiff, Nat.reduceBEq, Nat.reduceBNe, Nat.succ_ne_self, reduceIte, if_true, if_false, ite_self, decide_true, decide_false, Bool.not_true, Bool.not_false, Bool.and_true, Bool.true_and, Bool.and_false, Bool.false_and, Bool.or_true, Bool.true_or, Bool.or_false, Bool.false_or, cond_true, cond_false, Int.reduceEq, Int.reduceLT, Int.reduceLE, Int.reduceNe, Int.reduceToNat]
    exact ans_ret rfl
  cases yy : decide (y = 0)
  rotate_left
  · simp -implicitDefEqProofs only [sims.1, fx.1, tick_on, calleeK, List.getElem?_toArray, extractV, oneV, faddrK, nonnil, b_shr, b_shl, eq_self, beq_self_eq_true, fieldK, Option.bind_some, Option.map_some, Option.bind_none, Option.map_none, List.map_cons, List.map_nil, List.getD_cons_zero, List.getD_cons_succ, List.getD_nil, List.length_nil, List.length_cons, List.length_set, List.nil_append, List.cons_append, List.append_nil, List.getElem?_cons_zero, List.getElem?_cons_succ, List.getElem?_nil, List.set_cons_zero, List.set_cons_succ, Nat.reduceAdd, Nat.zero_add, Nat.add_zero, Nat.mul_one, Nat.mul_zero, Nat.zero_mul, Nat.reduceMul, Nat.reduceSub, Nat.reduceEqDiff, Nat.reduceLT, Nat.reduceLeDiff, Nat.reduceBEq, Nat.reduceBNe, Nat.succ_ne_self, reduceIte, if_true, if_false, ite_self, decide_true, decide_false, Bool.not_true, Bool.not_false, Bool.and_true, Bool.true_and, Bool.and_false, Bool.false_and, Bool.or_true, Bool.true_or, Bool.or_false, Bool.false_or, cond_true, cond_false, Int.reduceEq, Int.reduceLT, Int.reduceLE, Int.reduceNe, Int.reduceToNat, d0, iaL2, pk2, eqC3, kk, eqC0, yy]
    refine callD_ans ans17 en17 rfl rfl ?_
    simp -implicitDefEqProofs only [sims.1, fx.1, tick_on, calleeK, List.getElem?_toArray, extractV, oneV, faddrK, nonnil, b_shr, b_shl, eq_self, beq_self_eq_true, fieldK, Option.bind_some, Option.map_some, Option.bind_none, Option.map_none, List.map_cons, List.map_nil, List.getD_cons_zero, List.getD_cons_succ, List.getD_nil, List.length_nil, List.length_cons, List.length_set, List.nil_append, List.cons_append, List.append_nil, List.getElem?_cons_zero, List.getElem?_cons_succ, List.getElem?_nil, List.set_cons_zero, List.set_cons_succ, Nat.reduceAdd, Nat.zero_add, Nat.add_zero, Nat.mul_one, Nat.mul_zero, Nat.zero_mul, Nat.reduceMul, Nat.reduceSub, Nat.reduceEqDiff, Nat.reduceLT, Nat.reduceLeDiff, Nat.reduceBEq, Nat.reduceBNe, Nat.succ_ne_self, reduceIte, if_true, if_false, ite_self, decide_true, decide_false, Bool.not_true, Bool.not_false, Bool.and_true, Bool.true_and, Bool.and_false, Bool.false_and, Bool.or_true, Bool.true_or, Bool.or_false, Bool.false_or, cond_true, cond_false, Int.reduceEq, Int.reduceLT, Int.reduceLE, Int.reduceNe, Int.reduceToNat]
    exact ans_ret rfl
  have hk2 := of_decide_eq_true kk
  have hy0 := of_decide_eq_false yy
  obtain ⟨j, hj, ej⟩ := at20 z
  have hpo := back_po (b := b) f
  have hFb := frmR_lt h b hpb
  have hmax := frmR_max h0
  have hlen : po (frmR h b) + 20 ≤ (frmR h b).length := by
    have hl : (frmR h b).length = (preR h).length + (restR h b).length := by rw [frm_split, List.length_append]
    have hr : (restR h b).length = 20 + (portsR h b.length).length + b.length := by
      simp [restR, hk2, inetR, headR_len]
      omega
    rw [preR_len] at hl
    omega
  have hij : po (frmR h b) + j < (frmR h b).length := by omega
  have hget : (frmR h b).getD (po (frmR h b) + j) 0 = (frmR h b)[po (frmR h b) + j] := by simp [List.getD, hij]
  have hgl := hFb _ (List.getElem_mem hij)
  have hx := u8_xor_nat ((frmR h b)[po (frmR h b) + j]) y hgl hy
  have hxl : (frmR h b)[po (frmR h b) + j] ^^^ y < 256 := Nat.xor_lt_two_pow (n := 8) hgl hy
  have hno := spoilt_no h0 hpb hk2 j ((frmR h b)[po (frmR h b) + j] ^^^ y) hj hxl (by rw [hget]; exact xor_ne _ _ hy0)
  have hsl : ∀ x ∈ (frmR h b).set (po (frmR h b) + j) ((frmR h b)[po (frmR h b) + j] ^^^ y), x < 256 := by
    intro x hx
    rcases List.mem_or_eq_of_mem_set hx with hx | hx
    · exact hFb x hx
    · omega
  have hM : ([B.var 27 (pkC h b)] ++ m1)[1 + k]? = some (rowB (frmR h b)) := by
    rw [Nat.add_comm]
    exact hk1
  have hMf : nfM ([B.var 27 (pkC h b)] ++ m1) = true := nfM_app (nfM_cons (nfB27 _ _) rfl) hm1
  simp only [List.cons_append, List.nil_append] at hM hMf
  generalize hFF : frmR h b = F at *
  generalize hpp : po F = q at *
  have ld := ldB hM hij
  have ia : ∀ kk : IntKind, iaddrS 1 (.sl 1 (1 + k) 0 n) (.int kk ((q + j : Nat) : Int)) = some (.ep 1 (1 + k) (q + j) 0) := fun kk => ia_at (by omega)
  have sB := stB (v := F[q + j] ^^^ y) hM hij
  have eC30 : decide ((30 : Int) = 30) = true := rfl
  have dn : decide (n < q + 20) = false := by simp; omega
  have fin : ∀ (A : Prop), A → A := fun _ a => a
  cases vv : decide (h 3 = 0)
  · have hq : q = 18 := by rw [hpo, vv]; rfl
    have w1 : IntKind.i64.wrap (18 + (j : Int)) = ((q + j : Nat) : Int) := by rw [IntKind.wrap_i64]; omega
    have w2 : IntKind.i64.wrap (18 + 20) = ((q + 20 : Nat) : Int) := by rw [hq]; kernel_rfl
    simp -implicitDefEqProofs only [sims.1, fx.1, tick_on, calleeK, List.getElem?_toArray, extractV, oneV, faddrK, nonnil, b_shr, b_shl, eq_self, beq_self_eq_true, fieldK, Option.bind_some, Option.map_some, Option.bind_none, Option.map_none, List.map_cons, List.map_nil, List.getD_cons_zero, List.getD_cons_succ, List.getD_nil, List.length_nil, List.length_cons, List.length_set, List.nil_append, List.cons_append, List.append_nil, List.getElem?_cons_zero, List.getElem?_cons_succ, List.getElem?_nil, List.set_cons_zero, List.set_cons_succ, Nat.reduceAdd, Nat.zero_add, Nat.add_zero, Nat.mul_one, Nat.mul_zero, Nat.zero_mul, Nat.reduceMul, Nat.reduceSub, Nat.reduceEqDiff, Nat.reduceLT, Nat.reduceLeDiff, Nat.reduceBEq, Nat.reduceBNe, Nat.succ_ne_self, reduceIte, if_true, if_false, ite_self, decide_true, decide_false, Bool.not_true, Bool.not_false, Bool.and_true, Bool.true_and, Bool.and_false, Bool.false_and, Bool.or_true, Bool.true_or, Bool.or_false, Bool.false_or, cond_true, cond_false, Int.reduceEq, Int.reduceLT, Int.reduceLE, Int.reduceNe, Int.reduceToNat, d0, iaL2, iaL3, pk2, pk3, eqC3, kk, eqC0, yy, vv, w1, w2, ltNat, dn, ej, ia, ld, hx, sB]
    refine callD_r1 (F.set (q + j) (F[q + j] ^^^ y)) (ansB12 _ hsl (by simp; omega)) en12 (by simp only [prsA, nf, nfs, nf_pkA, Bool.and_self]) ?_ ?_ (by simp [hn]) ?_
    · exact nfM_set hMf (nfB_row _)
    · exact List.getElem?_set_self (List.getElem?_eq_some_iff.1 hM).1
    rw [prsA_err hno]
    simp -implicitDefEqProofs only [sims.1, fx.1, tick_on, calleeK, List.getElem?_toArray, extractV, oneV, faddrK, nonnil, b_shr, b_shl, eq_self, beq_self_eq_true, fieldK, Option.bind_some, Option.map_some, Option.bind_none, Option.map_none, List.map_cons, List.map_nil, List.getD_cons_zero, List.getD_cons_succ, List.getD_nil, List.length_nil, List.length_cons, List.length_set, List.nil_append, List.cons_append, List.append_nil, List.getElem?_cons_zero, List.getElem?_cons_succ, List.getElem?_nil, List.set_cons_zero, List.set_cons_succ, Nat.reduceAdd, Nat.zero_add, Nat.add_zero, Nat.mul_one, Nat.mul_zero, Nat.zero_mul, Nat.reduceMul, Nat.reduceSub, Nat.reduceEqDiff, Nat.reduceLT, Nat.reduceLeDiff, Nat.reduceBEq, Nat.reduceBNe, Nat.succ_ne_self, reduceIte, if_true, if_false, ite_self, decide_true, decide_false, Bool.not_true, Bool.not_false, Bool.and_true, Bool.true_and, Bool.and_false, Bool.false_and, Bool.or_true, Bool.true_or, Bool.or_false, Bool.false_or, cond_true, cond_false, Int.reduceEq, Int.reduceLT, Int.reduceLE, Int.reduceNe, Int.reduceToNat, eC30]
    refine callD_ans ans17 en17 rfl rfl ?_
    simp -implicitDefEqProofs only [sims.1, fx.1, tick_on, calleeK, List.getElem?_toArray, extractV, oneV, faddrK, nonnil, b_shr, b_shl, eq_self, beq_self_eq_true, fieldK, Option.bind_some, Option.map_some, Option.bind_none, Option.map_none, List.map_cons, List.map_nil, List.getD_cons_zero, List.getD_cons_succ, List.getD_nil, List.length_nil, List.length_cons, List.length_set, List.nil_append, List.cons_append, List.append_nil, List.getElem?_cons_zero, List.getElem?_cons_succ, List.getElem?_nil, List.set_cons_zero, List.set_cons_succ, Nat.reduceAdd, Nat.zero_add, Nat.add_zero, Nat.mul_one, Nat.mul_zero, Nat.zero_mul, Nat.reduceMul, Nat.reduceSub, Nat.reduceEqDiff, Nat.reduceLT, Nat.reduceLeDiff, Nat.reduceBEq, Nat.reduceBNe, Nat.succ_ne_self, reduceIte, if_true, if_false, ite_self, decide_true, decide_false, Bool.not_true, Bool.not_false, Bool.and_true, Bool.true_and, Bool.and_false, Bool.false_and, Bool.or_true, Bool.true_or, Bool.or_false, Bool.false_or, cond_true, cond_false, Int.reduceEq, Int.reduceLT, Int.reduceLE, Int.reduceNe, Int.reduceToNat]
    exact ans_ret rfl
  · have hq : q = 14 := by rw [hpo, vv]; rfl
    have w1 : IntKind.i64.wrap (14 + (j : Int)) = ((q + j : Nat) : Int) := by rw [IntKind.wrap_i64]; omega
    have w2 : IntKind.i64.wrap (14 + 20) = ((q + 20 : Nat) : Int) := by rw [hq]; kernel_rfl
    simp -implicitDefEqProofs only [sims.1, fx.1, tick_on, calleeK, List.getElem?_toArray, extractV, oneV, faddrK, nonnil, b_shr, b_shl, eq_self, beq_self_eq_true, fieldK, Option.bind_some, Option.map_some, Option.bind_none, Option.map_none, List.map_cons, List.map_nil, List.getD_cons_zero, List.getD_cons_succ, List.getD_nil, List.length_nil, List.length_cons, List.length_set, List.nil_append, List.cons_append, List.append_nil, List.getElem?_cons_zero, List.getElem?_cons_succ, List.getElem?_nil, List.set_cons_zero, List.set_cons_succ, Nat.reduceAdd, Nat.zero_add, Nat.add_zero, Nat.mul_one, Nat.mul_zero, Nat.zero_mul, Nat.reduceMul, Nat.reduceSub, Nat.reduceEqDiff, Nat.reduceLT, Nat.reduceLeDiff, Nat.reduceBEq, Nat.reduceBNe, Nat.succ_ne_self, reduceIte, if_true, if_false, ite_self, decide_true, decide_false, Bool.not_true, Bool.not_false, Bool.and_true, Bool.true_and, Bool.and_false, Bool.false_and, Bool.or_true, Bool.true_or, Bool.or_false, Bool.false_or, cond_true, cond_false, Int.reduceEq, Int.reduceLT, Int.reduceLE, Int.reduceNe, Int.reduceToNat, d0, iaL2, iaL3, pk2, pk3, eqC3, kk, eqC0, yy, vv, w1, w2, ltNat, dn, ej, ia, ld, hx, sB]
    refine callD_r1 (F.set (q + j) (F[q + j] ^^^ y)) (ansB12 _ hsl (by simp; omega)) en12 (by simp only [prsA, nf, nfs, nf_pkA, Bool.and_self]) ?_ ?_ (by simp [hn]) ?_
    · exact nfM_set hMf (nfB_row _)
    · exact List.getElem?_set_self (List.getElem?_eq_some_iff.1 hM).1
    rw [prsA_err hno]
    simp -implicitDefEqProofs only [sims.1, fx.1, tick_on, calleeK, List.getElem?_toArray, extractV, oneV, faddrK, nonnil, b_shr, b_shl, eq_self, beq_self_eq_true, fieldK, Option.bind_some, Option.map_some, Option.bind_none, Option.map_none, List.map_cons, List.map_nil, List.getD_cons_zero, List.getD_cons_succ, List.getD_nil, List.length_nil, List.length_cons, List.length_set, List.nil_append, List.cons_append, List.append_nil, List.getElem?_cons_zero, List.getElem?_cons_succ, List.getElem?_nil, List.set_cons_zero, List.set_cons_succ, Nat.reduceAdd, Nat.zero_add, Nat.add_zero, Nat.mul_one, Nat.mul_zero, Nat.zero_mul, Nat.reduceMul, Nat.reduceSub, Nat.reduceEqDiff, Nat.reduceLT, Nat.reduceLeDiff, Nat.reduceBEq, Nat.reduceBNe, Nat.succ_ne_self, reduceIte, if_true, if_false, ite_self, decide_true, decide_false, Bool.not_true, Bool.not_false, Bool.and_true, Bool.true_and, Bool.and_false, Bool.false_and, Bool.or_true, Bool.true_or, Bool.or_false, Bool.false_or, cond_true, cond_false, Int.reduceEq, Int.reduceLT, Int.reduceLE, Int.reduceNe, Int.reduceToNat, eC30]
    refine callD_ans ans17 en17 rfl rfl ?_
    simp -implicitDefEqProofs only [sims.1, fx.1, tick_on, calleeK, List.getElem?_toArray, extractV, oneV, faddrK, nonnil, b_shr, b_shl, eq_self, beq_self_eq_true, fieldK, Option.bind_some, Option.map_some, Option.bind_none, Option.map_none, List.map_cons, List.map_nil, List.getD_cons_zero, List.getD_cons_succ, List.getD_nil, List.length_nil, List.length_cons, List.length_set, List.nil_append, List.cons_append, List.append_nil, List.getElem?_cons_zero, List.getElem?_cons_succ, List.getElem?_nil, List.set_cons_zero, List.set_cons_succ, Nat.reduceAdd, Nat.zero_add, Nat.add_zero, Nat.mul_one, Nat.mul_zero, Nat.zero_mul, Nat.reduceMul, Nat.reduceSub, Nat.reduceEqDiff, Nat.reduceLT, Nat.reduceLeDiff, Nat.reduceBEq, Nat.reduceBNe, Nat.succ_ne_self, reduceIte, if_true, if_false, ite_self, decide_true, decide_false, Bool.not_true, Bool.not_false, Bool.and_true, Bool.true_and, Bool.and_false, Bool.false_and, Bool.or_true, Bool.true_or, Bool.or_false, Bool.false_or, cond_true, cond_false, Int.reduceEq, Int.reduceLT, Int.reduceLE, Int.reduceNe, Int.reduceToNat]
    exact ans_ret rfl
end Go.Proofs.Ytmbjjelbpnbmoaa
