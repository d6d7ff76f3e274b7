/- The bytes of a question or answer who has an address. No condition. -/
import Derived.Test.YtpmbhjmlghoogaaNl
namespace Go.Proofs.Ytpmbhjmlghoogaa
open Go Ab
set_option linter.unusedSimpArgs false
set_option linter.unusedVariables false
set_option maxRecDepth 20000

def keeps := PLift.up (And.intro (And.intro (And.intro (And.intro (And.intro @List.getElem?_toArray.{0} @eq_self.{1}) (And.intro @beq_self_eq_true.{0} (And.intro @Option.bind_some.{0, 0} @Option.map_some.{0, 0}))) (And.intro (And.intro @Option.bind_none.{0, 0} (And.intro @Option.map_none.{0, 0} @List.map_cons.{0, 0})) (And.intro @List.map_nil.{0, 0} (And.intro @List.getD_cons_zero.{0} @List.getD_cons_succ.{0})))) (And.intro (And.intro (And.intro @List.getD_nil.{0} (And.intro @List.length_nil.{0} @List.length_cons.{0})) (And.intro @List.length_set.{0} (And.intro @List.nil_append.{0} @List.cons_append.{0}))) (And.intro (And.intro @List.append_nil.{0} (And.intro @List.getElem?_cons_zero.{0} @List.getElem?_cons_succ.{0})) (And.intro @List.getElem?_nil.{0} (And.intro @List.set_cons_zero.{0} @List.set_cons_succ.{0}))))) (And.intro (And.intro (And.intro (And.intro @Nat.zero_add @Nat.add_zero) (And.intro @Nat.mul_one (And.intro @Nat.mul_zero @Nat.zero_mul))) (And.intro (And.intro @Nat.succ_ne_self (And.intro @if_true.{1} @if_false.{1})) (And.intro @ite_self.{1} (And.intro @decide_true @decide_false)))) (And.intro (And.intro (And.intro @Bool.not_true (And.intro @Bool.not_false @Bool.and_true)) (And.intro @Bool.true_and (And.intro @Bool.and_false @Bool.false_and))) (And.intro (And.intro @Bool.or_true (And.intro @Bool.true_or @Bool.or_false)) (And.intro @Bool.false_or (And.intro @cond_true.{1} @cond_false.{1}))))))
theorem evO_nil (env : Env) : evO env (.const (.slice none 0 0)) = .nils := rfl
theorem pt_hd (h : Hd) : partK true 11 (hdC h) 0 = some (.agg (hdC h)) := rfl
theorem ia_by0 {b0 : Nat} {r : List Nat} {k : IntKind} : iaddrS 1 (byV (b0 :: r)) (.int k 0) = some (.ip (byC b0)) := iaddrS_isl0
theorem or64 (a x k : Nat) (ha : a % 2 ^ k = 0) (hx : x < 2 ^ k) (h1 : a < 18446744073709551616) (h2 : x < 18446744073709551616) : bits .or .u64 (a : Int) (x : Int) = ((a + x : Nat) : Int) := by
  rw [bits_or_u64_nat _ _ h1 h2]
  congr 1
  have h3 := Nat.shiftLeft_add_eq_or_of_lt (i := k) (b := x) hx (a / 2 ^ k)
  rw [Nat.shiftLeft_eq] at h3
  have h4 : a / 2 ^ k * 2 ^ k = a := by
    have := Nat.div_add_mod a (2 ^ k)
    rw [ha, Nat.mul_comm] at this
    omega
  rw [h4] at h3
  exact h3.symm
theorem nfB27 (h : Hd) (b : List Nat) : nfB (.var 60 (pkC h b)) = true := nfs_pk h b
theorem nfB25 (h : Hd) : nfB (.var 45 (hdC h)) = true := nfs_hd h
theorem nfB_dead : nfB .dead = true := rfl
theorem nfM_nil : nfM [] = true := rfl
theorem nfM_cn (b : B) (r : Mem) : nfM (b :: r) = (nfB b && nfM r) := rfl
theorem hd_len (h : Hd) : (hdC h).length = 11 := rfl
theorem sp_hd (f : Nat → Int) (h : Hd) : splice (cl .u64 11 f) 0 (hdC h) = hdC h := rfl
theorem hd_get (h : Hd) (i : Nat) (hi : i < 11) : (hdC h)[i]? = some (.int .u64 (h i : Int)) := by unfold hdC; exact cl_get hi
theorem hd0 (h : Hd) : (hdC h)[0]? = some (.int .u64 (h 0 : Int)) := rfl
theorem hd1 (h : Hd) : (hdC h)[1]? = some (.int .u64 (h 1 : Int)) := rfl
theorem hd2 (h : Hd) : (hdC h)[2]? = some (.int .u64 (h 2 : Int)) := rfl
theorem hd3 (h : Hd) : (hdC h)[3]? = some (.int .u64 (h 3 : Int)) := rfl
theorem hd4 (h : Hd) : (hdC h)[4]? = some (.int .u64 (h 4 : Int)) := rfl
theorem hd5 (h : Hd) : (hdC h)[5]? = some (.int .u64 (h 5 : Int)) := rfl
theorem hd6 (h : Hd) : (hdC h)[6]? = some (.int .u64 (h 6 : Int)) := rfl
theorem hd7 (h : Hd) : (hdC h)[7]? = some (.int .u64 (h 7 : Int)) := rfl
theorem hd8 (h : Hd) : (hdC h)[8]? = some (.int .u64 (h 8 : Int)) := rfl
theorem eqB1 (b : Nat) : decide ((b : Int) = 1) = decide (b = 1) := by rw [Bool.eq_iff_iff]; simp; omega
theorem eqB2 (b : Nat) : decide ((b : Int) = 2) = decide (b = 2) := by rw [Bool.eq_iff_iff]; simp; omega
def pks := PLift.up (And.intro (And.intro (And.intro (And.intro @evO_nil (And.intro @pt_hd @iaL0)) (And.intro @iaL1 (And.intro @iaL2 @iaL3))) (And.intro (And.intro @iaL4 (And.intro @iaL5 @iaL6)) (And.intro @iaL7 (And.intro @iaL8 @pk_hd)))) (And.intro (And.intro (And.intro @pk_11 (And.intro @hd_len @sp_hd)) (And.intro @hd0 (And.intro @hd1 @hd2))) (And.intro (And.intro @hd3 (And.intro @hd4 @hd5)) (And.intro (And.intro @hd6 @hd7) (And.intro @hd8 @storeK_agg)))))
def arpB (h : Hd) (b0 : Nat) : List Nat := putB (290271170658304 + b0) 8 8 ++ (putB (h 0) 6 6 ++ (putB (h 4) 4 4 ++ (putB (bif decide (b0 = 1) then 0 else h 1) 6 6 ++ putB (h 5) 4 4)))
theorem arpB_len (h : Hd) (b0 : Nat) : (arpB h b0).length = 28 := by simp [arpB, putB_len]
set_option maxHeartbeats 2000000 in
theorem snd37 (l : List Nat) (h : Hd) (b0 : Nat) (hb : b0 < 256) (hl : l.length < 2000) : Snd Try.prog 51 [.sl 1 0 0 l.length, pkA h [b0]] [rowB l] fun r => r = .ret (.sl 1 7 0 (l.length + 28)) [.dead, .var 60 (pkC h [b0]), .var 45 (hdC h), .dead, .dead, .dead, .dead, rowB (l ++ arpB h b0)] := by
  refine Snd_of_W fol rfl rfl (by kernel_rfl) (by kernel_rfl) ?_
  have o1 : bits .or .u64 290271170658304 (b0 : Int) = ((290271170658304 + b0 : Nat) : Int) := or64 290271170658304 b0 8 (by decide) (by omega) (by omega) (by omega)
  unfold pkA
  have c1 := wrapB b0 hb
  simp -implicitDefEqProofs only [sims.1, fx.1, keeps.1, tick_on, calleeK, extractV, oneV, faddrK, nonnil, b_shr, b_shl, fieldK, Nat.reduceAdd, Nat.reduceMul, Nat.reduceSub, Nat.reduceEqDiff, Nat.reduceLT, Nat.reduceLeDiff, Nat.reduceBEq, Nat.reduceBNe, reduceIte, Int.reduceEq, Int.reduceLT, Int.reduceLE, Int.reduceNe, Int.reduceToNat, pks.1, ia_by0, by0, c1, o1]
  refine callD_put36 7 l (by simp only [nfM_cn, nfM_nil, nfB27, nfB25, nfB_row, nfB_dead, Bool.and_self]) rfl (by simp [putB_len]) rfl (by omega) (by omega) ?_
  simp -implicitDefEqProofs only [sims.1, fx.1, keeps.1, tick_on, calleeK, extractV, oneV, faddrK, nonnil, b_shr, b_shl, fieldK, Nat.reduceAdd, Nat.reduceMul, Nat.reduceSub, Nat.reduceEqDiff, Nat.reduceLT, Nat.reduceLeDiff, Nat.reduceBEq, Nat.reduceBNe, reduceIte, Int.reduceEq, Int.reduceLT, Int.reduceLE, Int.reduceNe, Int.reduceToNat, pks.1]
  refine w_noisy ?_
  simp -implicitDefEqProofs only [sims.1, fx.1, keeps.1, tick_on, calleeK, extractV, oneV, faddrK, nonnil, b_shr, b_shl, fieldK, Nat.reduceAdd, Nat.reduceMul, Nat.reduceSub, Nat.reduceEqDiff, Nat.reduceLT, Nat.reduceLeDiff, Nat.reduceBEq, Nat.reduceBNe, reduceIte, Int.reduceEq, Int.reduceLT, Int.reduceLE, Int.reduceNe, Int.reduceToNat, pks.1]
  refine orderP_of (by kernel_rfl) ?_
  simp -implicitDefEqProofs only [sims.1, fx.1, keeps.1, tick_on, calleeK, extractV, oneV, faddrK, nonnil, b_shr, b_shl, fieldK, Nat.reduceAdd, Nat.reduceMul, Nat.reduceSub, Nat.reduceEqDiff, Nat.reduceLT, Nat.reduceLeDiff, Nat.reduceBEq, Nat.reduceBNe, reduceIte, Int.reduceEq, Int.reduceLT, Int.reduceLE, Int.reduceNe, Int.reduceToNat, pks.1]
  refine callE_put36 5 (l ++ putB (290271170658304 + b0) 8 8) (by simp only [nfM_cn, nfM_nil, nfB27, nfB25, nfB_row, nfB_dead, Bool.and_self]) rfl (by simp [putB_len]) rfl (by omega) (by omega) ⟨by kernel_rfl, ?_⟩
  simp -implicitDefEqProofs only [sims.1, fx.1, keeps.1, tick_on, calleeK, extractV, oneV, faddrK, nonnil, b_shr, b_shl, fieldK, Nat.reduceAdd, Nat.reduceMul, Nat.reduceSub, Nat.reduceEqDiff, Nat.reduceLT, Nat.reduceLeDiff, Nat.reduceBEq, Nat.reduceBNe, reduceIte, Int.reduceEq, Int.reduceLT, Int.reduceLE, Int.reduceNe, Int.reduceToNat, pks.1]
  refine orderP_of (by kernel_rfl) ?_
  simp -implicitDefEqProofs only [sims.1, fx.1, keeps.1, tick_on, calleeK, extractV, oneV, faddrK, nonnil, b_shr, b_shl, fieldK, Nat.reduceAdd, Nat.reduceMul, Nat.reduceSub, Nat.reduceEqDiff, Nat.reduceLT, Nat.reduceLeDiff, Nat.reduceBEq, Nat.reduceBNe, reduceIte, Int.reduceEq, Int.reduceLT, Int.reduceLE, Int.reduceNe, Int.reduceToNat, pks.1]
  refine callE_put36 3 ((l ++ putB (290271170658304 + b0) 8 8) ++ putB (h 0) 6 6) (by simp only [nfM_cn, nfM_nil, nfB27, nfB25, nfB_row, nfB_dead, Bool.and_self]) rfl (by simp [putB_len]) rfl (by omega) (by omega) ⟨by kernel_rfl, ?_⟩
  cases e : decide (b0 = 1)
  · simp -implicitDefEqProofs only [sims.1, fx.1, keeps.1, tick_on, calleeK, extractV, oneV, faddrK, nonnil, b_shr, b_shl, fieldK, Nat.reduceAdd, Nat.reduceMul, Nat.reduceSub, Nat.reduceEqDiff, Nat.reduceLT, Nat.reduceLeDiff, Nat.reduceBEq, Nat.reduceBNe, reduceIte, Int.reduceEq, Int.reduceLT, Int.reduceLE, Int.reduceNe, Int.reduceToNat, pks.1, ia_by0, by0, eqB1, e]
    refine callD_put36 5 (((l ++ putB (290271170658304 + b0) 8 8) ++ putB (h 0) 6 6) ++ putB (h 4) 4 4) (by simp only [nfM_cn, nfM_nil, nfB27, nfB25, nfB_row, nfB_dead, Bool.and_self]) rfl (by simp [putB_len]) rfl (by omega) (by omega) ?_
    simp -implicitDefEqProofs only [sims.1, fx.1, keeps.1, tick_on, calleeK, extractV, oneV, faddrK, nonnil, b_shr, b_shl, fieldK, Nat.reduceAdd, Nat.reduceMul, Nat.reduceSub, Nat.reduceEqDiff, Nat.reduceLT, Nat.reduceLeDiff, Nat.reduceBEq, Nat.reduceBNe, reduceIte, Int.reduceEq, Int.reduceLT, Int.reduceLE, Int.reduceNe, Int.reduceToNat, pks.1]
    refine callD_put36 3 ((((l ++ putB (290271170658304 + b0) 8 8) ++ putB (h 0) 6 6) ++ putB (h 4) 4 4) ++ putB (h 1) 6 6) (by simp only [nfM_cn, nfM_nil, nfB27, nfB25, nfB_row, nfB_dead, Bool.and_self]) rfl (by simp [putB_len]) rfl (by omega) (by omega) ?_
    simp -implicitDefEqProofs only [sims.1, fx.1, keeps.1, tick_on, calleeK, extractV, oneV, faddrK, nonnil, b_shr, b_shl, fieldK, Nat.reduceAdd, Nat.reduceMul, Nat.reduceSub, Nat.reduceEqDiff, Nat.reduceLT, Nat.reduceLeDiff, Nat.reduceBEq, Nat.reduceBNe, reduceIte, Int.reduceEq, Int.reduceLT, Int.reduceLE, Int.reduceNe, Int.reduceToNat]
    simp only [arpB, e, cond_true, cond_false, List.append_assoc]
  · simp -implicitDefEqProofs only [sims.1, fx.1, keeps.1, tick_on, calleeK, extractV, oneV, faddrK, nonnil, b_shr, b_shl, fieldK, Nat.reduceAdd, Nat.reduceMul, Nat.reduceSub, Nat.reduceEqDiff, Nat.reduceLT, Nat.reduceLeDiff, Nat.reduceBEq, Nat.reduceBNe, reduceIte, Int.reduceEq, Int.reduceLT, Int.reduceLE, Int.reduceNe, Int.reduceToNat, pks.1, ia_by0, by0, eqB1, e]
    refine callD_put36 (x := 0) 5 (((l ++ putB (290271170658304 + b0) 8 8) ++ putB (h 0) 6 6) ++ putB (h 4) 4 4) (by simp only [nfM_cn, nfM_nil, nfB27, nfB25, nfB_row, nfB_dead, Bool.and_self]) rfl (by simp [putB_len]) rfl (by omega) (by omega) ?_
    simp -implicitDefEqProofs only [sims.1, fx.1, keeps.1, tick_on, calleeK, extractV, oneV, faddrK, nonnil, b_shr, b_shl, fieldK, Nat.reduceAdd, Nat.reduceMul, Nat.reduceSub, Nat.reduceEqDiff, Nat.reduceLT, Nat.reduceLeDiff, Nat.reduceBEq, Nat.reduceBNe, reduceIte, Int.reduceEq, Int.reduceLT, Int.reduceLE, Int.reduceNe, Int.reduceToNat, pks.1]
    refine callD_put36 3 ((((l ++ putB (290271170658304 + b0) 8 8) ++ putB (h 0) 6 6) ++ putB (h 4) 4 4) ++ putB (0) 6 6) (by simp only [nfM_cn, nfM_nil, nfB27, nfB25, nfB_row, nfB_dead, Bool.and_self]) rfl (by simp [putB_len]) rfl (by omega) (by omega) ?_
    simp -implicitDefEqProofs only [sims.1, fx.1, keeps.1, tick_on, calleeK, extractV, oneV, faddrK, nonnil, b_shr, b_shl, fieldK, Nat.reduceAdd, Nat.reduceMul, Nat.reduceSub, Nat.reduceEqDiff, Nat.reduceLT, Nat.reduceLeDiff, Nat.reduceBEq, Nat.reduceBNe, reduceIte, Int.reduceEq, Int.reduceLT, Int.reduceLE, Int.reduceNe, Int.reduceToNat]
    simp only [arpB, e, cond_true, cond_false, List.append_assoc]
end Go.Proofs.Ytpmbhjmlghoogaa
