/- The reference's sum of bytes. No condition. -/
import Derived.Test.YtmbjjelbpnbmoaaNc
namespace Go.Proofs.Ytmbjjelbpnbmoaa
open Go Ab
set_option linter.unusedSimpArgs false
set_option linter.unusedVariables false
set_option maxRecDepth 20000

theorem wrap_i64t (j : Nat) (h : j < 9223372036854775800) : IntKind.i64.wrap ((j : Int) + 2) = ((j + 2 : Nat) : Int) := by
  simp [IntKind.wrap, IntKind.bits, IntKind.signed]; omega
theorem psum_at {l : List Nat} {j : Nat} (h : j < l.length) : psum l (j + 1) = psum l j + l[j] * wgt j := by
  show psum l j + l.getD j 0 * wgt j = _
  simp [List.getD, h]

set_option maxHeartbeats 1000000 in
theorem ans16 (l : List Nat) (hb : ∀ b ∈ l, b < 256) (hl : l.length < 281474976710656) : Ans Try.prog 16 [byV l] (.int .u16 (sumR l : Int)) := by
  refine Snd_of_W fol rfl rfl (by kernel_rfl) (by kernel_rfl) ?_
  simp -implicitDefEqProofs only [sims.1, fx.1, tick_on, calleeK, List.getElem?_toArray, extractV, oneV, faddrK, nonnil, b_shr, b_shl, eq_self, beq_self_eq_true, fieldK, Option.bind_some, Option.map_some, Option.bind_none, Option.map_none, List.map_cons, List.map_nil, List.getD_cons_zero, List.getD_cons_succ, List.getD_nil, List.length_nil, List.length_cons, List.length_set, List.nil_append, List.cons_append, List.append_nil, List.getElem?_cons_zero, List.getElem?_cons_succ, List.getElem?_nil, List.set_cons_zero, List.set_cons_succ, Nat.reduceAdd, Nat.zero_add, Nat.add_zero, Nat.mul_one, Nat.mul_zero, Nat.zero_mul, Nat.reduceMul, Nat.reduceSub, Nat.reduceEqDiff, Nat.reduceLT, Nat.reduceLeDiff, Nat.reduceBEq, Nat.reduceBNe, Nat.succ_ne_self, reduceIte, if_true, if_false, ite_self, decide_true, decide_false, Bool.not_true, Bool.not_false, Bool.and_true, Bool.true_and, Bool.and_false, Bool.false_and, Bool.or_true, Bool.true_or, Bool.or_false, Bool.false_or, cond_true, cond_false, Int.reduceEq, Int.reduceLT, Int.reduceLE, Int.reduceNe, Int.reduceToNat]
  refine W_loop (fun j : Nat => (mkEnv [(0, byV l), (4, .int .i64 (j : Int)), (3, .int .u64 (psum l (min j l.length) : Int))], [])) (fun j => j ≤ l.length + 1 ∧ j % 2 = 0) (fun j => l.length + 2 - j) 0
    (canon_nil [byV l, .int .i64 0, .int .u64 0] (by kernel_rfl) (by simp only [nfs, nf_by]; rfl) (by simp only [Nat.zero_min]; kernel_rfl)) ⟨by omega, by omega⟩ ?_
  rintro j ⟨h1, hp⟩
  rcases Nat.lt_or_ge j l.length with hj | hj
  · have hle := psum_le hb j
    have c1 : decide (j < l.length) = true := by simpa using hj
    have w1 := wrap_i64s j (by omega)
    have w2 := wrap_i64t j (by omega)
    have io : ∀ {kk : IntKind}, iaddrS 1 (byV l) (.int kk (j : Int)) = some (.ip (byC l[j])) := fun {kk} => ia_by hj
    have hbj := hb _ (List.getElem_mem hj)
    have x2 := wrapB _ hbj
    have x3 := shl8 l[j] (by omega)
    have x4 := wrapU2 (psum l j) (l[j] * 256) (by omega)
    have hps : psum l j + l[j] * 256 = psum l (j + 1) := by rw [psum_at hj]; simp [wgt, hp]
    have hmin : min j l.length = j := by omega
    rw [hps] at x4
    rcases Nat.lt_or_ge (j + 1) l.length with hk | hk
    · have c2 : decide (j + 1 < l.length) = true := by simpa using hk
      have ik : ∀ {kk : IntKind}, iaddrS 1 (byV l) (.int kk ((j + 1 : Nat) : Int)) = some (.ip (byC l[j + 1])) := fun {kk} => ia_by hk
      have hbk := hb _ (List.getElem_mem hk)
      have y2 := wrapB _ hbk
      have hle2 := psum_le hb (j + 1)
      have y4 := wrapU2 (psum l (j + 1)) l[j + 1] (by omega)
      have hps2 : psum l (j + 1) + l[j + 1] = psum l (j + 2) := by rw [psum_at hk, show wgt (j + 1) = 1 from by unfold wgt; rw [if_neg (by omega)], Nat.mul_one]
      rw [hps2] at y4
      simp -implicitDefEqProofs only [sims.1, fx.1, tick_on, calleeK, List.getElem?_toArray, extractV, oneV, faddrK, nonnil, b_shr, b_shl, eq_self, beq_self_eq_true, fieldK, Option.bind_some, Option.map_some, Option.bind_none, Option.map_none, List.map_cons, List.map_nil, List.getD_cons_zero, List.getD_cons_succ, List.getD_nil, List.length_nil, List.length_cons, List.length_set, List.nil_append, List.cons_append, List.append_nil, List.getElem?_cons_zero, List.getElem?_cons_succ, List.getElem?_nil, List.set_cons_zero, List.set_cons_succ, Nat.reduceAdd, Nat.zero_add, Nat.add_zero, Nat.mul_one, Nat.mul_zero, Nat.zero_mul, Nat.reduceMul, Nat.reduceSub, Nat.reduceEqDiff, Nat.reduceLT, Nat.reduceLeDiff, Nat.reduceBEq, Nat.reduceBNe, Nat.succ_ne_self, reduceIte, if_true, if_false, ite_self, decide_true, decide_false, Bool.not_true, Bool.not_false, Bool.and_true, Bool.true_and, Bool.and_false, Bool.false_and, Bool.or_true, Bool.true_or, Bool.or_false, Bool.false_or, cond_true, cond_false, Int.reduceEq, Int.reduceLT, Int.reduceLE, Int.reduceNe, Int.reduceToNat, len_by, ltNat, c1, io, by0, x2, x3, hmin, x4, w1, c2, ik, y2, y4, w2]
      exact ⟨j + 2, canon_nil [byV l, .int .i64 ((j + 2 : Nat) : Int), .int .u64 (psum l (min (j + 2) l.length) : Int)] (by rw [show min (j + 2) l.length = j + 2 by omega]; kernel_rfl) (by simp only [nfs, nf_by]; rfl) (by kernel_rfl), ⟨by omega, by omega⟩, by omega⟩
    · have c2 : decide (j + 1 < l.length) = false := by simp; omega
      simp -implicitDefEqProofs only [sims.1, fx.1, tick_on, calleeK, List.getElem?_toArray, extractV, oneV, faddrK, nonnil, b_shr, b_shl, eq_self, beq_self_eq_true, fieldK, Option.bind_some, Option.map_some, Option.bind_none, Option.map_none, List.map_cons, List.map_nil, List.getD_cons_zero, List.getD_cons_succ, List.getD_nil, List.length_nil, List.length_cons, List.length_set, List.nil_append, List.cons_append, List.append_nil, List.getElem?_cons_zero, List.getElem?_cons_succ, List.getElem?_nil, List.set_cons_zero, List.set_cons_succ, Nat.reduceAdd, Nat.zero_add, Nat.add_zero, Nat.mul_one, Nat.mul_zero, Nat.zero_mul, Nat.reduceMul, Nat.reduceSub, Nat.reduceEqDiff, Nat.reduceLT, Nat.reduceLeDiff, Nat.reduceBEq, Nat.reduceBNe, Nat.succ_ne_self, reduceIte, if_true, if_false, ite_self, decide_true, decide_false, Bool.not_true, Bool.not_false, Bool.and_true, Bool.true_and, Bool.and_false, Bool.false_and, Bool.or_true, Bool.true_or, Bool.or_false, Bool.false_or, cond_true, cond_false, Int.reduceEq, Int.reduceLT, Int.reduceLE, Int.reduceNe, Int.reduceToNat, len_by, ltNat, c1, io, by0, x2, x3, hmin, x4, w1, c2, w2]
      exact ⟨j + 2, canon_nil [byV l, .int .i64 ((j + 2 : Nat) : Int), .int .u64 (psum l (min (j + 2) l.length) : Int)] (by rw [show min (j + 2) l.length = j + 1 by omega]; kernel_rfl) (by simp only [nfs, nf_by]; rfl) (by kernel_rfl), ⟨by omega, by omega⟩, by omega⟩
  have c1 : decide (j < l.length) = false := by simp; omega
  have hmin : min j l.length = l.length := by omega
  have hle := psum_le hb l.length
  simp -implicitDefEqProofs only [sims.1, fx.1, tick_on, calleeK, List.getElem?_toArray, extractV, oneV, faddrK, nonnil, b_shr, b_shl, eq_self, beq_self_eq_true, fieldK, Option.bind_some, Option.map_some, Option.bind_none, Option.map_none, List.map_cons, List.map_nil, List.getD_cons_zero, List.getD_cons_succ, List.getD_nil, List.length_nil, List.length_cons, List.length_set, List.nil_append, List.cons_append, List.append_nil, List.getElem?_cons_zero, List.getElem?_cons_succ, List.getElem?_nil, List.set_cons_zero, List.set_cons_succ, Nat.reduceAdd, Nat.zero_add, Nat.add_zero, Nat.mul_one, Nat.mul_zero, Nat.zero_mul, Nat.reduceMul, Nat.reduceSub, Nat.reduceEqDiff, Nat.reduceLT, Nat.reduceLeDiff, Nat.reduceBEq, Nat.reduceBNe, Nat.succ_ne_self, reduceIte, if_true, if_false, ite_self, decide_true, decide_false, Bool.not_true, Bool.not_false, Bool.and_true, Bool.true_and, Bool.and_false, Bool.false_and, Bool.or_true, Bool.true_or, Bool.or_false, Bool.false_or, cond_true, cond_false, Int.reduceEq, Int.reduceLT, Int.reduceLE, Int.reduceNe, Int.reduceToNat, len_by, ltNat, c1, hmin]
  refine W_loop (fun x : Nat => (mkEnv [(3, .int .u64 (x : Int))], [])) (fun x => x < 18446744073709551616 ∧ foldS x = foldS (psum l l.length)) (fun x => x) (psum l l.length)
    (canon_nil [.int .u64 (psum l l.length : Int)] (by kernel_rfl) rfl (by kernel_rfl)) ⟨by omega, rfl⟩ ?_
  rintro x ⟨g1, g2⟩
  have s1 := shr16 x
  by_cases hx : x < 65536
  · have d1 : decide ((65535 : Int) < (x : Int)) = false := by simp; omega
    have e1 := wrapS x hx
    have e2 := compl16 x hx
    simp -implicitDefEqProofs only [sims.1, fx.1, tick_on, calleeK, List.getElem?_toArray, extractV, oneV, faddrK, nonnil, b_shr, b_shl, eq_self, beq_self_eq_true, fieldK, Option.bind_some, Option.map_some, Option.bind_none, Option.map_none, List.map_cons, List.map_nil, List.getD_cons_zero, List.getD_cons_succ, List.getD_nil, List.length_nil, List.length_cons, List.length_set, List.nil_append, List.cons_append, List.append_nil, List.getElem?_cons_zero, List.getElem?_cons_succ, List.getElem?_nil, List.set_cons_zero, List.set_cons_succ, Nat.reduceAdd, Nat.zero_add, Nat.add_zero, Nat.mul_one, Nat.mul_zero, Nat.zero_mul, Nat.reduceMul, Nat.reduceSub, Nat.reduceEqDiff, Nat.reduceLT, Nat.reduceLeDiff, Nat.reduceBEq, Nat.reduceBNe, Nat.succ_ne_self, reduceIte, if_true, if_false, ite_self, decide_true, decide_false, Bool.not_true, Bool.not_false, Bool.and_true, Bool.true_and, Bool.and_false, Bool.false_and, Bool.or_true, Bool.true_or, Bool.or_false, Bool.false_or, cond_true, cond_false, Int.reduceEq, Int.reduceLT, Int.reduceLE, Int.reduceNe, Int.reduceToNat, d1, e1, uxor, e2]
    rw [show sumR l = 65535 - x from by unfold sumR; rw [← g2, foldS_small hx]]
    exact ans_ret rfl
  · have d1 : decide ((65535 : Int) < (x : Int)) = true := by simp; omega
    have a1 := and16 x g1
    have x4 := wrapU2 (x / 65536) (x % 65536) (by omega)
    simp -implicitDefEqProofs only [sims.1, fx.1, tick_on, calleeK, List.getElem?_toArray, extractV, oneV, faddrK, nonnil, b_shr, b_shl, eq_self, beq_self_eq_true, fieldK, Option.bind_some, Option.map_some, Option.bind_none, Option.map_none, List.map_cons, List.map_nil, List.getD_cons_zero, List.getD_cons_succ, List.getD_nil, List.length_nil, List.length_cons, List.length_set, List.nil_append, List.cons_append, List.append_nil, List.getElem?_cons_zero, List.getElem?_cons_succ, List.getElem?_nil, List.set_cons_zero, List.set_cons_succ, Nat.reduceAdd, Nat.zero_add, Nat.add_zero, Nat.mul_one, Nat.mul_zero, Nat.zero_mul, Nat.reduceMul, Nat.reduceSub, Nat.reduceEqDiff, Nat.reduceLT, Nat.reduceLeDiff, Nat.reduceBEq, Nat.reduceBNe, Nat.succ_ne_self, reduceIte, if_true, if_false, ite_self, decide_true, decide_false, Bool.not_true, Bool.not_false, Bool.and_true, Bool.true_and, Bool.and_false, Bool.false_and, Bool.or_true, Bool.true_or, Bool.or_false, Bool.false_or, cond_true, cond_false, Int.reduceEq, Int.reduceLT, Int.reduceLE, Int.reduceNe, Int.reduceToNat, s1, d1, a1, x4]
    exact ⟨x / 65536 + x % 65536, canon_nil [.int .u64 ((x / 65536 + x % 65536 : Nat) : Int)] (by kernel_rfl) rfl (by kernel_rfl), ⟨by omega, by rw [foldS_step hx]; exact g2⟩, by omega⟩
end Go.Proofs.Ytmbjjelbpnbmoaa
