/- Questions and answers are built. No condition. -/
import Derived.Test.YtpmbhjmlghoogaaPa
namespace Go.Proofs.Ytpmbhjmlghoogaa
open Go Ab
set_option linter.unusedSimpArgs false
set_option linter.unusedVariables false
set_option maxRecDepth 20000

def fR (d s op f g t : Nat) : List Nat := putB d 6 6 ++ putB s 6 6 ++ putB 2054 2 2 ++ putB 1 2 2 ++ putB 2048 2 2 ++ [6, 4] ++ putB op 2 2 ++ putB s 6 6 ++ putB f 4 4 ++ putB g 6 6 ++ putB t 4 4
theorem fR_eq (d s op f t : Nat) (h : op = 1 ∨ op = 2) : fR d s op f (bif decide (op = 1) then 0 else d) t = frmR (aH s d f t) [op] := by
  have e1 : putB 1 2 2 = [0, 1] := by decide
  have e2 : putB 2048 2 2 = [8, 0] := by decide
  have e3 : putB op 2 2 = [0, op] := by rcases h with rfl | rfl <;> decide
  have e4 : frmR (aH s d f t) [op] = putB d 6 6 ++ putB s 6 6 ++ [] ++ putB 2054 2 2 ++ arpR (aH s d f t) op := rfl
  rw [e4]
  unfold fR arpR
  rw [e1, e2, e3]
  simp only [aH, List.append_assoc, List.append_nil, List.cons_append, List.nil_append]
theorem aH_ok (s d f t : Nat) (hs : s < 281474976710656) (hd : d < 281474976710656) (hf : f < 4294967296) (ht : t < 4294967296) : okH (aH s d f t) = true := by
  unfold okH
  rw [Bool.and_eq_true]
  refine ⟨List.all_eq_true.2 fun i hi => ?_, ?_⟩
  · have hi := List.mem_range.1 hi
    match i, hi with
    | 0, _ => exact decide_eq_true hs
    | 1, _ => exact decide_eq_true hd
    | 2, _ => rfl
    | 3, _ => rfl
    | 4, _ => exact decide_eq_true hf
    | 5, _ => exact decide_eq_true ht
    | 6, _ => rfl
    | 7, _ => rfl
    | 8, _ => rfl
    | 9, _ => rfl
    | 10, _ => rfl
  · rfl
theorem aH_no (s d f t : Nat) (hs : ¬ s < 281474976710656) : okH (aH s d f t) = false := by
  unfold okH
  rw [Bool.and_eq_false_iff]
  left
  rw [← Bool.not_eq_true]
  intro h
  have := of_decide_eq_true (List.all_eq_true.1 h 0 (by simp))
  exact hs this
theorem arp_len (s d f t op : Nat) : (frmR (aH s d f t) [op]).length = 42 := by
  have e4 : frmR (aH s d f t) [op] = putB d 6 6 ++ putB s 6 6 ++ [] ++ putB 2054 2 2 ++ arpR (aH s d f t) op := rfl
  rw [e4]
  simp [putB_len, arpR_len]
theorem arp_bld (s d f t op : Nat) (ho : op = 1 ∨ op = 2) (hs : s < 281474976710656) (hd : d < 281474976710656) (hf : f < 4294967296) (ht : t < 4294967296) : bldF (aH s d f t) [op] = 0 := by
  have ak : asks [op] = true := by rcases ho with rfl | rfl <;> rfl
  have k : decide (aH s d f t 2 = 2054) = true := rfl
  have m : mostH (aH s d f t) = 1514 := rfl
  unfold bldF
  rw [aH_ok s d f t hs hd hf ht, k, ak, m, arp_len]
  rfl
theorem aH_u64 (s d f t : Nat) (hs : s < 18446744073709551616) (hd : d < 18446744073709551616) (hf : f < 18446744073709551616) (ht : t < 18446744073709551616) : U64h (aH s d f t) := by
  intro i hi
  match i, hi with
  | 0, _ => exact hs
  | 1, _ => exact hd
  | 2, _ => show 2054 < _; omega
  | 3, _ => show 0 < _; omega
  | 4, _ => exact hf
  | 5, _ => exact ht
  | 6, _ => show 0 < _; omega
  | 7, _ => show 0 < _; omega
  | 8, _ => show 0 < _; omega
  | 9, _ => show 0 < _; omega
  | 10, _ => show 0 < _; omega
theorem op_lt {op : Nat} (ho : op = 1 ∨ op = 2) : ∀ x ∈ [op], x < 256 := by
  intro x hx
  simp at hx
  omega
/-- What a question's and an answer's bytes are. -/
def askL (s f t : Nat) : List Nat := bif decide (s < 281474976710656) then frmR (aH s 281474976710655 f t) [1] else []
theorem build_new {h : Hd} {b : List Nat} (h0 : bldF h b = 0) (hh : U64h h) (hpb : ∀ x ∈ b, x < 256) (hpl : b.length < 140737488351233) : Snd Try.prog 35 [pkA h b] [] fun q => ∃ m1 k n, q = .ret (.tup [.sl 1 k 0 n, .int .i64 0]) m1 ∧ nfM m1 = true ∧ m1[k]? = some (rowB (frmR h b)) ∧ n = (frmR h b).length := by
  obtain ⟨ok, _⟩ := bld_parts h0
  have hE : bldE h b = 0 := by rw [bld_eq hpb]; exact h0
  refine (snd18 h b hh hpb hpl).mono ?_
  rintro q (⟨_, m1, k, n, rfl, h1, h2, h3⟩ | ⟨h1, _⟩)
  · rw [frm_eq ok hpb] at h2 h3
    exact ⟨m1, k, n, rfl, h1, h2, h3⟩
  · exact absurd hE h1
theorem eqSh (x : Nat) : decide (((x / 2 ^ 48 : Nat) : Int) = 0) = decide (x < 281474976710656) := by rw [Bool.eq_iff_iff]; simp; omega
theorem gtAll (x : Nat) : decide ((281474976710655 : Int) < (x : Int)) = !decide (x < 281474976710656) := by rw [Bool.eq_iff_iff]; simp; omega
theorem callD_39 {m : Mem} {K Kp : V → Mem → Prop} {a b c e g : Int} (op s d f t : Nat) (ha : a = (op : Int)) (hb : b = (s : Int)) (hc : c = (d : Int)) (he : e = (f : Int)) (hg : g = (t : Int)) (h : K (pkA (aH s d f t) [op]) m) : callD Try.prog 36 [.int .u8 a, .int .u64 b, .int .u64 c, .int .u64 e, .int .u64 g] m K Kp := by
  subst ha hb hc he hg
  exact callD_ans (ans36 op s d f t) en36 rfl (nf_pkA _ _) h
/-! ### Ask -/
theorem ans17 (s f t : Nat) (hs : s < 18446744073709551616) (hf : f < 4294967296) (ht : t < 4294967296) : Ans Try.prog 17 [.int .u64 (s : Int), .int .u32 (f : Int), .int .u32 (t : Int)] (byV (askL s f t)) := by
  have wf := wrapU f (by omega)
  have wt := wrapU t (by omega)
  unfold askL
  have hu := aH_u64 s 281474976710655 f t hs (by omega) (by omega) (by omega)
  cases e : decide (s < 281474976710656)
  · have hb : bldF (aH s 281474976710655 f t) [1] = 10 := by
      unfold bldF
      rw [aH_no s _ f t (of_decide_eq_false e)]
      rfl
    have : Ans Try.prog 17 [.int .u64 (s : Int), .int .u32 (f : Int), .int .u32 (t : Int)] .nils := by
      refine Snd_of_W fol rfl rfl (by kernel_rfl) (by kernel_rfl) ?_
      simp -implicitDefEqProofs only [sims.1, fx.1, keeps.1, tick_on, calleeK, extractV, oneV, faddrK, nonnil, b_shr, b_shl, fieldK, Nat.reduceAdd, Nat.reduceMul, Nat.reduceSub, Nat.reduceEqDiff, Nat.reduceLT, Nat.reduceLeDiff, Nat.reduceBEq, Nat.reduceBNe, reduceIte, Int.reduceEq, Int.reduceLT, Int.reduceLE, Int.reduceNe, Int.reduceToNat, wf, wt]
      refine callD_39 1 s 281474976710655 f t rfl rfl rfl rfl rfl ?_
      unfold pkA
      simp -implicitDefEqProofs only [sims.1, fx.1, keeps.1, tick_on, calleeK, extractV, oneV, faddrK, nonnil, b_shr, b_shl, fieldK, Nat.reduceAdd, Nat.reduceMul, Nat.reduceSub, Nat.reduceEqDiff, Nat.reduceLT, Nat.reduceLeDiff, Nat.reduceBEq, Nat.reduceBNe, reduceIte, Int.reduceEq, Int.reduceLT, Int.reduceLE, Int.reduceNe, Int.reduceToNat]
      refine callD_ans (ans35 (aH s 281474976710655 f t) [1] hu (op_lt (.inl rfl)) (by simp)) en35 (show nfs [pkA _ _] = true by simp only [nfs, nf_pkA, Bool.and_self]) (by simp only [nf, nfs, nf_by, Bool.and_self]) ?_
      rw [hb]
      have d10 : decide (((10 : Nat) : Int) = 0) = false := rfl
      simp -implicitDefEqProofs only [sims.1, fx.1, keeps.1, tick_on, calleeK, extractV, oneV, faddrK, nonnil, b_shr, b_shl, fieldK, Nat.reduceAdd, Nat.reduceMul, Nat.reduceSub, Nat.reduceEqDiff, Nat.reduceLT, Nat.reduceLeDiff, Nat.reduceBEq, Nat.reduceBNe, reduceIte, Int.reduceEq, Int.reduceLT, Int.reduceLE, Int.reduceNe, Int.reduceToNat, d10, pks.1]
      exact ans_ret rfl
    exact ans_nil 1 this
  · have h0 := arp_bld s 281474976710655 f t 1 (.inl rfl) (of_decide_eq_true e) (by omega) hf ht
    have hO : bldO (aH s 281474976710655 f t) [1] = frmR (aH s 281474976710655 f t) [1] := by unfold bldO; rw [h0]; rfl
    refine Snd_of_W fol rfl rfl (by kernel_rfl) (by kernel_rfl) ?_
    simp -implicitDefEqProofs only [sims.1, fx.1, keeps.1, tick_on, calleeK, extractV, oneV, faddrK, nonnil, b_shr, b_shl, fieldK, Nat.reduceAdd, Nat.reduceMul, Nat.reduceSub, Nat.reduceEqDiff, Nat.reduceLT, Nat.reduceLeDiff, Nat.reduceBEq, Nat.reduceBNe, reduceIte, Int.reduceEq, Int.reduceLT, Int.reduceLE, Int.reduceNe, Int.reduceToNat, wf, wt]
    refine callD_39 1 s 281474976710655 f t rfl rfl rfl rfl rfl ?_
    unfold pkA
    simp -implicitDefEqProofs only [sims.1, fx.1, keeps.1, tick_on, calleeK, extractV, oneV, faddrK, nonnil, b_shr, b_shl, fieldK, Nat.reduceAdd, Nat.reduceMul, Nat.reduceSub, Nat.reduceEqDiff, Nat.reduceLT, Nat.reduceLeDiff, Nat.reduceBEq, Nat.reduceBNe, reduceIte, Int.reduceEq, Int.reduceLT, Int.reduceLE, Int.reduceNe, Int.reduceToNat]
    refine callD_ans (ans35 (aH s 281474976710655 f t) [1] hu (op_lt (.inl rfl)) (by simp)) en35 (show nfs [pkA _ _] = true by simp only [nfs, nf_pkA, Bool.and_self]) (by simp only [nf, nfs, nf_by, Bool.and_self]) ?_
    rw [h0, hO]
    have d0 : decide (((0 : Nat) : Int) = 0) = true := rfl
    simp -implicitDefEqProofs only [sims.1, fx.1, keeps.1, tick_on, calleeK, extractV, oneV, faddrK, nonnil, b_shr, b_shl, fieldK, Nat.reduceAdd, Nat.reduceMul, Nat.reduceSub, Nat.reduceEqDiff, Nat.reduceLT, Nat.reduceLeDiff, Nat.reduceBEq, Nat.reduceBNe, reduceIte, Int.reduceEq, Int.reduceLT, Int.reduceLE, Int.reduceNe, Int.reduceToNat, d0]
    exact ans_ret rfl
/-! ### Answer -/
def isA (s : Nat) (h : Hd) (b : List Nat) : Bool := isQ h b && (decide (b.getD 0 0 = 1) && decide (s < 281474976710656))
def ansL (s : Nat) (h : Hd) (b : List Nat) : List Nat := bif isA s h b then frmR (aH s (h 0) (h 5) (h 4)) [2] else []
def ansE (s : Nat) (h : Hd) (b : List Nat) : Int := bif isA s h b then 0 else 30
theorem isQ_ok {h : Hd} {b : List Nat} (e : isQ h b = true) : okH h = true := by unfold isQ at e; rw [Bool.and_eq_true] at e; exact e.1
theorem ret4_err {m1 : Mem} {s : Nat} {h : Hd} {b : List Nat} (e : isA s h b = false) : ret4 m1 [byV (ansL s h b), .int .i64 (ansE s h b)] [.nils, .int .i64 30] := by
  refine ⟨.inl ?_, .inl ⟨?_, rfl⟩, trivial⟩
  · simp only [ansL, e, cond_false]
    exact ret1_nil
  · simp [ansE, e]
set_option maxHeartbeats 4000000 in
theorem ansB34 (s : Nat) (h : Hd) (b : List Nat) (hs : s < 18446744073709551616) (hh : U64h h) : AnsB Try.prog 34 [.int .u64 (s : Int), pkA h b] (.tup [byV (ansL s h b), .int .i64 (ansE s h b)]) := by
  refine ansB_of3 ?_
  refine Snd_of_W fol rfl rfl (by kernel_rfl) (by kernel_rfl) ?_
  unfold pkA
  simp -implicitDefEqProofs only [sims.1, fx.1, keeps.1, tick_on, calleeK, extractV, oneV, faddrK, nonnil, b_shr, b_shl, fieldK, Nat.reduceAdd, Nat.reduceMul, Nat.reduceSub, Nat.reduceEqDiff, Nat.reduceLT, Nat.reduceLeDiff, Nat.reduceBEq, Nat.reduceBNe, reduceIte, Int.reduceEq, Int.reduceLT, Int.reduceLE, Int.reduceNe, Int.reduceToNat, pks.1, pk_all]
  refine callD_ans (ans19 h b hh) en19 (show nfs [pkA h b] = true by simp only [nfs, nf_pkA, Bool.and_self]) (by unfold rA; cases isQ h b <;> rfl) ?_
  cases q : isQ h b
  · rw [rA_no q]
    simp -implicitDefEqProofs only [sims.1, fx.1, keeps.1, tick_on, calleeK, extractV, oneV, faddrK, nonnil, b_shr, b_shl, fieldK, Nat.reduceAdd, Nat.reduceMul, Nat.reduceSub, Nat.reduceEqDiff, Nat.reduceLT, Nat.reduceLeDiff, Nat.reduceBEq, Nat.reduceBNe, reduceIte, Int.reduceEq, Int.reduceLT, Int.reduceLE, Int.reduceNe, Int.reduceToNat, pks.1]
    exact ⟨_, _, rfl, ret4_err (by simp [isA, q])⟩
  · rw [rA_ok q]
    have f := ok_fit (isQ_ok q)
    cases a : decide (b.getD 0 0 = 1)
    · simp -implicitDefEqProofs only [sims.1, fx.1, keeps.1, tick_on, calleeK, extractV, oneV, faddrK, nonnil, b_shr, b_shl, fieldK, Nat.reduceAdd, Nat.reduceMul, Nat.reduceSub, Nat.reduceEqDiff, Nat.reduceLT, Nat.reduceLeDiff, Nat.reduceBEq, Nat.reduceBNe, reduceIte, Int.reduceEq, Int.reduceLT, Int.reduceLE, Int.reduceNe, Int.reduceToNat, pks.1]
      exact ⟨_, _, rfl, ret4_err (by simp only [isA, q, a, Bool.false_and, Bool.and_false])⟩
    · cases e : decide (s < 281474976710656)
      · simp -implicitDefEqProofs only [sims.1, fx.1, keeps.1, tick_on, calleeK, extractV, oneV, faddrK, nonnil, b_shr, b_shl, fieldK, Nat.reduceAdd, Nat.reduceMul, Nat.reduceSub, Nat.reduceEqDiff, Nat.reduceLT, Nat.reduceLeDiff, Nat.reduceBEq, Nat.reduceBNe, reduceIte, Int.reduceEq, Int.reduceLT, Int.reduceLE, Int.reduceNe, Int.reduceToNat, pks.1, gtAll, e]
        exact ⟨_, _, rfl, ret4_err (by simp only [isA, q, a, e, Bool.and_false])⟩
      · have h0 := arp_bld s (h 0) (h 5) (h 4) 2 (.inr rfl) (of_decide_eq_true e) (f 0 (by omega)) (f 5 (by omega)) (f 4 (by omega))
        have w5 := wrapU (h 5) (hh 5 (by omega))
        have w4 := wrapU (h 4) (hh 4 (by omega))
        simp -implicitDefEqProofs only [sims.1, fx.1, keeps.1, tick_on, calleeK, extractV, oneV, faddrK, nonnil, b_shr, b_shl, fieldK, Nat.reduceAdd, Nat.reduceMul, Nat.reduceSub, Nat.reduceEqDiff, Nat.reduceLT, Nat.reduceLeDiff, Nat.reduceBEq, Nat.reduceBNe, reduceIte, Int.reduceEq, Int.reduceLT, Int.reduceLE, Int.reduceNe, Int.reduceToNat, pks.1, gtAll, e, w5, w4]
        refine callD_39 2 s (h 0) (h 5) (h 4) rfl rfl rfl rfl rfl ?_
        unfold pkA
        simp -implicitDefEqProofs only [sims.1, fx.1, keeps.1, tick_on, calleeK, extractV, oneV, faddrK, nonnil, b_shr, b_shl, fieldK, Nat.reduceAdd, Nat.reduceMul, Nat.reduceSub, Nat.reduceEqDiff, Nat.reduceLT, Nat.reduceLeDiff, Nat.reduceBEq, Nat.reduceBNe, reduceIte, Int.reduceEq, Int.reduceLT, Int.reduceLE, Int.reduceNe, Int.reduceToNat]
        refine callD_newQ (build_new h0 (aH_u64 _ _ _ _ hs (hh 0 (by omega)) (hh 5 (by omega)) (hh 4 (by omega))) (op_lt (.inr rfl)) (by simp)) en35 (show nfs [pkA _ _] = true by simp only [nfs, nf_pkA, Bool.and_self]) ?_
        rintro r ⟨m1, k, n, rfl, hm1, hk1, hn⟩
        refine ⟨_, m1, rfl, hm1, rfl, rfl, ?_⟩
        have er : ren (back [] 1) (.tup [.sl 1 k 0 n, .int .i64 0]) = .tup [.sl 1 (1 + k) 0 n, .int .i64 0] := rfl
        simp -implicitDefEqProofs only [sims.1, fx.1, keeps.1, tick_on, calleeK, extractV, oneV, faddrK, nonnil, b_shr, b_shl, fieldK, Nat.reduceAdd, Nat.reduceMul, Nat.reduceSub, Nat.reduceEqDiff, Nat.reduceLT, Nat.reduceLeDiff, Nat.reduceBEq, Nat.reduceBNe, reduceIte, Int.reduceEq, Int.reduceLT, Int.reduceLE, Int.reduceNe, Int.reduceToNat, er]
        have ei : isA s h b = true := by simp only [isA, q, a, e, Bool.and_self]
        refine ⟨_, _, rfl, .inl ?_, .inl ⟨?_, rfl⟩, trivial⟩
        · simp only [ansL, ei, cond_true]
          exact ret1_row (by rw [Nat.add_comm]; exact hk1) (by simp [hn]) (by_bare _)
        · simp [ansE, ei]
theorem ans34 (s : Nat) (h : Hd) (b : List Nat) (hs : s < 18446744073709551616) (hh : U64h h) : Ans Try.prog 34 [.int .u64 (s : Int), pkA h b] (.tup [byV (ansL s h b), .int .i64 (ansE s h b)]) := (ansB34 s h b hs hh).ans (by simp only [nfs, nf_pkA, nf, Bool.and_self]) (by simp only [nf, nfs, nf_by, Bool.and_self])
/-! ### Same -/
end Go.Proofs.Ytpmbhjmlghoogaa
