/- The frame of a probe. No condition. -/
import Derived.Test.YtpmbhjmlghoogaaUc
namespace Go.Proofs.Ytpmbhjmlghoogaa
open Go Ab
set_option linter.unusedSimpArgs false
set_option linter.unusedVariables false
set_option maxRecDepth 20000

def prbB (n s p t : Nat) : List Nat := (putB n 8 8 ++ putB (s * 65536 + p) 4 4) ++ putB t 4 4
def prbH : Hd := fun i => if i = 1 then 1652522221582 else if i = 2 then 34997 else 0
def prbF (n s p t : Nat) : List Nat := frmC prbH (prbB n s p t)
theorem prbB_len (n s p t : Nat) : (prbB n s p t).length = 16 := by simp [prbB, putB_len]
theorem prbB_lt (n s p t : Nat) : ∀ x ∈ prbB n s p t, x < 256 := by
  intro x hx
  simp only [prbB, List.mem_append] at hx
  rcases hx with (h | h) | h <;> exact putB_lt _ _ _ _ h
theorem prbF_eq (n s p t : Nat) : prbF n s p t = (putB 1652522221582 6 6 ++ putB 0 6 6 ++ putB 34997 2 2) ++ prbB n s p t := by
  have h0 : prbH 0 = 0 := rfl
  have h1 : prbH 1 = 1652522221582 := rfl
  have h2 : prbH 2 = 34997 := rfl
  have h3 : prbH 3 = 0 := rfl
  simp [prbF, frmC, h0, h1, h2, h3]
theorem prbH_u : U64h prbH := by
  intro i hi
  unfold prbH
  split
  · decide
  · split <;> decide
theorem prb_bld (n s p t : Nat) : bldE prbH (prbB n s p t) = 0 := by
  have ok : okH prbH = true := by decide
  have h2 : prbH 2 = 34997 := rfl
  have h3 : prbH 3 = 0 := rfl
  have hl : (frmC prbH (prbB n s p t)).length = 30 := by
    have := congrArg List.length (prbF_eq n s p t)
    simp only [prbF] at this
    rw [this]
    simp [putB_len, prbB_len]
  simp [bldE, ok, h2, mostH, h3, hl, prbB_len]
theorem bare_row (l : List Nat) : (l.map byC).all bareL = true := by
  simp only [List.all_eq_true, List.mem_map]
  rintro x ⟨b, _, rfl⟩
  rfl
theorem ansB_prb (n s p t : Nat) : AnsB Try.prog 35 [pkA prbH (prbB n s p t)] (.tup [byV (prbF n s p t), .int .i64 0]) := by
  refine ansB_of ((snd18 prbH (prbB n s p t) prbH_u (prbB_lt _ _ _ _) (by rw [prbB_len]; decide)).mono ?_)
  rintro q (⟨h0, m1, k, q, rfl, _, hk, hn⟩ | ⟨h0, m1, rfl, _⟩)
  · exact ⟨m1, _, rfl, _, rfl, ret1_row hk (by simp [hn, prbF]) (bare_row _), ⟨rfl, rfl⟩, trivial⟩
  · exact absurd (prb_bld n s p t) h0
theorem spw (s : Nat) (h : s < 65536) : IntKind.u64.wrap (s : Int) = (s : Int) := by rw [IntKind.wrap_u64]; omega
theorem shl16 (s : Nat) (h : s < 65536) : IntKind.u64.wrap ((s : Int) * 2 ^ (min 16 IntKind.u64.bits)) = ((s * 65536 : Nat) : Int) := by
  simp [IntKind.wrap, IntKind.bits, IntKind.signed]; omega
theorem or16 (s p : Nat) (hs : s < 65536) (hp : p < 65536) : bits .or .u64 ((s * 65536 : Nat) : Int) (p : Int) = ((s * 65536 + p : Nat) : Int) := by
  rw [bits_or_u64_nat _ _ (by omega) (by omega)]
  congr 1
  have := Nat.shiftLeft_add_eq_or_of_lt (i := 16) (b := p) (by simpa using hp) s
  rw [Nat.shiftLeft_eq] at this
  exact this.symm
theorem tkw (t : Nat) (h : t < 9223372036854775808) : IntKind.u64.wrap (t : Int) = (t : Int) := by rw [IntKind.wrap_u64]; omega

theorem prb_lend {M : Mem} {n s p t : Nat} (h : M[7]? = some (rowB (prbB n s p t))) : [V.agg [.int .u64 0, .int .u64 1652522221582, .int .u64 34997, .int .u64 0, .int .u64 0, .int .u64 0, .int .u64 0, .int .u64 0, .int .u64 0, .int .u64 0, .int .u64 0, .sl 1 7 0 16]].map (lendV M) = [pkA prbH (prbB n s p t)] := by
  have hl : lend1 M (.sl 1 7 0 16) = byV ((prbB n s p t).drop 0) := lend_at h (by rw [prbB_len])
  simp only [List.map_cons, List.map_nil, lendV, hl, List.drop_zero]
  rfl
set_option maxHeartbeats 2000000 in
theorem snd26 {n s p t : Nat} {a now : Int} {g S H : B} (hs : s < 65536) (hp : p < 65536) (ht : t < 9223372036854775808) (hg : nfB g = true) (hS : nfB S = true) (hH : nfB H = true) :
    Snd Try.prog 26 [.ptr 0 0, spA s p, .int .i64 (t : Int)] (lay n a now g S H) fun r => r = .ret (byV (prbF n s p t)) (lay n a now g S H) := by
  refine Snd_dropN (lay_closed hg hS hH) (nf_by _) ?_
  refine Snd_of_W fol rfl rfl (by kernel_rfl) (by kernel_rfl) ?_
  unfold lay
  have c0 : (spC s p)[0]? = some (.int .u16 (s : Int)) := rfl
  have c1 : (spC s p)[1]? = some (.int .u16 (p : Int)) := rfl
  have w1 := spw s hs
  have w2 := spw p hp
  have w3 := shl16 s hs
  have w4 := or16 s p hs hp
  have w5 := tkw t ht
  simp -implicitDefEqProofs only [sims.1, fx.1, tick_on, calleeK, List.getElem?_toArray, extractV, oneV, faddrK, nonnil, b_shr, b_shl, eq_self, beq_self_eq_true, fieldK, Option.bind_some, Option.map_some, Option.bind_none, Option.map_none, List.map_cons, List.map_nil, List.getD_cons_zero, List.getD_cons_succ, List.getD_nil, List.length_nil, List.length_cons, List.length_set, List.nil_append, List.cons_append, List.append_nil, List.getElem?_cons_zero, List.getElem?_cons_succ, List.getElem?_nil, List.set_cons_zero, List.set_cons_succ, Nat.reduceAdd, Nat.zero_add, Nat.add_zero, Nat.mul_one, Nat.mul_zero, Nat.zero_mul, Nat.reduceMul, Nat.reduceSub, Nat.reduceEqDiff, Nat.reduceLT, Nat.reduceLeDiff, Nat.reduceBEq, Nat.reduceBNe, Nat.succ_ne_self, reduceIte, if_true, if_false, ite_self, decide_true, decide_false, Bool.not_true, Bool.not_false, Bool.and_true, Bool.true_and, Bool.and_false, Bool.false_and, Bool.or_true, Bool.true_or, Bool.or_false, Bool.false_or, cond_true, cond_false, Int.reduceEq, Int.reduceLT, Int.reduceLE, Int.reduceNe, Int.reduceToNat, spA]
  refine callD_putn (x := n) 7 (snd45n n 8 (by decide) (by decide)) en45 rfl (by decide) ?_
  simp -implicitDefEqProofs only [sims.1, fx.1, tick_on, calleeK, List.getElem?_toArray, extractV, oneV, faddrK, nonnil, b_shr, b_shl, eq_self, beq_self_eq_true, fieldK, Option.bind_some, Option.map_some, Option.bind_none, Option.map_none, List.map_cons, List.map_nil, List.getD_cons_zero, List.getD_cons_succ, List.getD_nil, List.length_nil, List.length_cons, List.length_set, List.nil_append, List.cons_append, List.append_nil, List.getElem?_cons_zero, List.getElem?_cons_succ, List.getElem?_nil, List.set_cons_zero, List.set_cons_succ, Nat.reduceAdd, Nat.zero_add, Nat.add_zero, Nat.mul_one, Nat.mul_zero, Nat.zero_mul, Nat.reduceMul, Nat.reduceSub, Nat.reduceEqDiff, Nat.reduceLT, Nat.reduceLeDiff, Nat.reduceBEq, Nat.reduceBNe, Nat.succ_ne_self, reduceIte, if_true, if_false, ite_self, decide_true, decide_false, Bool.not_true, Bool.not_false, Bool.and_true, Bool.true_and, Bool.and_false, Bool.false_and, Bool.or_true, Bool.true_or, Bool.or_false, Bool.false_or, cond_true, cond_false, Int.reduceEq, Int.reduceLT, Int.reduceLE, Int.reduceNe, Int.reduceToNat, c0, c1, w1, w2, w3, w4]
  refine callD_tput 3 (putB n 8 8) rfl (putB_len _ _ _) rfl (by decide) (by decide) ?_
  simp -implicitDefEqProofs only [sims.1, fx.1, tick_on, calleeK, List.getElem?_toArray, extractV, oneV, faddrK, nonnil, b_shr, b_shl, eq_self, beq_self_eq_true, fieldK, Option.bind_some, Option.map_some, Option.bind_none, Option.map_none, List.map_cons, List.map_nil, List.getD_cons_zero, List.getD_cons_succ, List.getD_nil, List.length_nil, List.length_cons, List.length_set, List.nil_append, List.cons_append, List.append_nil, List.getElem?_cons_zero, List.getElem?_cons_succ, List.getElem?_nil, List.set_cons_zero, List.set_cons_succ, Nat.reduceAdd, Nat.zero_add, Nat.add_zero, Nat.mul_one, Nat.mul_zero, Nat.zero_mul, Nat.reduceMul, Nat.reduceSub, Nat.reduceEqDiff, Nat.reduceLT, Nat.reduceLeDiff, Nat.reduceBEq, Nat.reduceBNe, Nat.succ_ne_self, reduceIte, if_true, if_false, ite_self, decide_true, decide_false, Bool.not_true, Bool.not_false, Bool.and_true, Bool.true_and, Bool.and_false, Bool.false_and, Bool.or_true, Bool.true_or, Bool.or_false, Bool.false_or, cond_true, cond_false, Int.reduceEq, Int.reduceLT, Int.reduceLE, Int.reduceNe, Int.reduceToNat, w5]
  refine callD_tput 3 (putB n 8 8 ++ putB (s * 65536 + p) 4 4) rfl (by simp [putB_len]) rfl (by decide) (by decide) ?_
  simp -implicitDefEqProofs only [sims.1, fx.1, tick_on, calleeK, List.getElem?_toArray, extractV, oneV, faddrK, nonnil, b_shr, b_shl, eq_self, beq_self_eq_true, fieldK, Option.bind_some, Option.map_some, Option.bind_none, Option.map_none, List.map_cons, List.map_nil, List.getD_cons_zero, List.getD_cons_succ, List.getD_nil, List.length_nil, List.length_cons, List.length_set, List.nil_append, List.cons_append, List.append_nil, List.getElem?_cons_zero, List.getElem?_cons_succ, List.getElem?_nil, List.set_cons_zero, List.set_cons_succ, Nat.reduceAdd, Nat.zero_add, Nat.add_zero, Nat.mul_one, Nat.mul_zero, Nat.zero_mul, Nat.reduceMul, Nat.reduceSub, Nat.reduceEqDiff, Nat.reduceLT, Nat.reduceLeDiff, Nat.reduceBEq, Nat.reduceBNe, Nat.succ_ne_self, reduceIte, if_true, if_false, ite_self, decide_true, decide_false, Bool.not_true, Bool.not_false, Bool.and_true, Bool.true_and, Bool.and_false, Bool.false_and, Bool.or_true, Bool.true_or, Bool.or_false, Bool.false_or, cond_true, cond_false, Int.reduceEq, Int.reduceLT, Int.reduceLE, Int.reduceNe, Int.reduceToNat]
  have b60 : buildV Try.prog 60 [(1, V.sl 1 7 0 16)] = some (.agg [.int .u64 0, .int .u64 0, .int .u64 0, .int .u64 0, .int .u64 0, .int .u64 0, .int .u64 0, .int .u64 0, .int .u64 0, .int .u64 0, .int .u64 0, .sl 1 7 0 16]) := by kernel_rfl
  simp -implicitDefEqProofs only [sims.1, fx.1, tick_on, calleeK, List.getElem?_toArray, extractV, oneV, faddrK, nonnil, b_shr, b_shl, eq_self, beq_self_eq_true, fieldK, Option.bind_some, Option.map_some, Option.bind_none, Option.map_none, List.map_cons, List.map_nil, List.getD_cons_zero, List.getD_cons_succ, List.getD_nil, List.length_nil, List.length_cons, List.length_set, List.nil_append, List.cons_append, List.append_nil, List.getElem?_cons_zero, List.getElem?_cons_succ, List.getElem?_nil, List.set_cons_zero, List.set_cons_succ, Nat.reduceAdd, Nat.zero_add, Nat.add_zero, Nat.mul_one, Nat.mul_zero, Nat.zero_mul, Nat.reduceMul, Nat.reduceSub, Nat.reduceEqDiff, Nat.reduceLT, Nat.reduceLeDiff, Nat.reduceBEq, Nat.reduceBNe, Nat.succ_ne_self, reduceIte, if_true, if_false, ite_self, decide_true, decide_false, Bool.not_true, Bool.not_false, Bool.and_true, Bool.true_and, Bool.and_false, Bool.false_and, Bool.or_true, Bool.true_or, Bool.or_false, Bool.false_or, cond_true, cond_false, Int.reduceEq, Int.reduceLT, Int.reduceLE, Int.reduceNe, Int.reduceToNat, b60]
  refine callD_all (Snd_lendB (vs' := [pkA prbH (prbB n s p t)]) ?_ (by simp only [nfs, nf_pkA, Bool.and_self]) (ansB_prb n s p t) (by simp only [nf, nfs, nf_by, Bool.and_self])) en35 ?_
  · exact prb_lend rfl
  simp -implicitDefEqProofs only [sims.1, fx.1, tick_on, calleeK, List.getElem?_toArray, extractV, oneV, faddrK, nonnil, b_shr, b_shl, eq_self, beq_self_eq_true, fieldK, Option.bind_some, Option.map_some, Option.bind_none, Option.map_none, List.map_cons, List.map_nil, List.getD_cons_zero, List.getD_cons_succ, List.getD_nil, List.length_nil, List.length_cons, List.length_set, List.nil_append, List.cons_append, List.append_nil, List.getElem?_cons_zero, List.getElem?_cons_succ, List.getElem?_nil, List.set_cons_zero, List.set_cons_succ, Nat.reduceAdd, Nat.zero_add, Nat.add_zero, Nat.mul_one, Nat.mul_zero, Nat.zero_mul, Nat.reduceMul, Nat.reduceSub, Nat.reduceEqDiff, Nat.reduceLT, Nat.reduceLeDiff, Nat.reduceBEq, Nat.reduceBNe, Nat.succ_ne_self, reduceIte, if_true, if_false, ite_self, decide_true, decide_false, Bool.not_true, Bool.not_false, Bool.and_true, Bool.true_and, Bool.and_false, Bool.false_and, Bool.or_true, Bool.true_or, Bool.or_false, Bool.false_or, cond_true, cond_false, Int.reduceEq, Int.reduceLT, Int.reduceLE, Int.reduceNe, Int.reduceToNat]
  exact ⟨_, rfl⟩
end Go.Proofs.Ytpmbhjmlghoogaa
