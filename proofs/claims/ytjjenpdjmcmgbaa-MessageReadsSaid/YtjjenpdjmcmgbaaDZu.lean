/- The reference's check: nothing stands in it but what counts. No condition. -/
import Derived.Test.YtjjenpdjmcmgbaaDZt
namespace Go.Proofs.Ytjjenpdjmcmgbaa
open Go Ab
set_option linter.unusedSimpArgs false
set_option linter.unusedVariables false
set_option maxRecDepth 20000
theorem bRc_len (x : Ms) : (bRc x).length = 25 := by
  unfold bRc
  split <;> rfl
theorem bare_0 (x : Ms) : (bareC x)[2]? = some (.int .i8 (bDd x)) := mk_get2
theorem bare_g (x : Ms) (i : Nat) : (bareC x)[28 + i]? = ([.int .u16 (bPort x : Int), .bool (bUp x), .int .u16 (bSw x : Int), bP x, bE x, bF x, bH x, .int .u16 (bCode x : Int)] : List V)[i]? := mk_get (bRc_len x) i
theorem bare_len (x : Ms) : (bareC x).length = 36 := by
  have := bRc_len x
  simp [bareC, mkC, this]
def bPn (x : Ms) : Nat := if x.ty = 4 then x.ports.length else 0
def bEn (x : Ms) : Nat := if x.ty = 4 then x.edge.length else 0
def bFn (x : Ms) : Nat := if x.ty = 6 ∨ x.ty = 7 then x.frame.length else 0
def bHn (x : Ms) : Nat := if x.ty = 11 then x.helds.length else 0
theorem nfs_bare (x : Ms) : nfs (bareC x) = true := by
  have hR : nfs (bRc x) = true := by
    unfold bRc
    split
    · exact nfs_ru x.r
    · rfl
  have hP : nf (bP x) = true := by
    unfold bP
    split
    · exact nfs_po x.ports
    · rfl
  have hE : nf (bE x) = true := by
    unfold bE
    split
    · exact nfs_po x.edge
    · rfl
  have hF : nf (bF x) = true := by
    unfold bF
    split
    · exact nf_by _
    · rfl
  have hH : nf (bH x) = true := by
    unfold bH
    split
    · exact nfs_hes x.helds
    · rfl
  show nfs (bRc x ++ _) = true
  refine nfs_app hR ?_
  simp only [nfs, nf, hP, hE, hF, hH, Bool.and_self]
theorem nf_bare (x : Ms) (b : Bool) : nf (.tup [.agg (bareC x), .bool b]) = true := by simp only [nf, nfs, nfs_bare, Bool.and_self]
theorem eqII (a b : Nat) : decide ((a : Int) = (b : Int)) = decide (a = b) := by rw [Bool.eq_iff_iff]; simp; omega
theorem dec0 (a : Nat) : decide (0 = a) = decide (a = 0) := by rw [Bool.eq_iff_iff]; simp; omega
theorem fD (x : Ms) : decide (bDd x = x.dd) = (decide (x.dd = 0) || inT x.ty [5]) := by
  unfold bDd
  by_cases h : x.ty = 5
  · simp [inT, h]
  · have : decide ((0 : Int) = x.dd) = decide (x.dd = 0) := by rw [Bool.eq_iff_iff]; simp; omega
    simp [inT, h, this]
theorem fPo (x : Ms) : decide (bPort x = x.port) = (decide (x.port = 0) || inT x.ty [6, 7, 11, 12]) := by
  unfold bPort
  by_cases h : x.ty = 6 ∨ x.ty = 7 ∨ x.ty = 11 ∨ x.ty = 12
  · simp [inT, h]
  · simp [inT, h, dec0]
theorem fUp (x : Ms) : (bUp x == x.up) = (!x.up || inT x.ty [12]) := by
  unfold bUp
  by_cases h : x.ty = 12
  · simp [inT, h]
  · cases x.up <;> simp [inT, h]
theorem fSw (x : Ms) : decide (bSw x = x.sw) = (decide (x.sw = 0) || inT x.ty [4]) := by
  unfold bSw
  by_cases h : x.ty = 4
  · simp [inT, h]
  · simp [inT, h, dec0]
theorem fCo (x : Ms) : decide (bCode x = x.code) = (decide (x.code = 0) || inT x.ty [13]) := by
  unfold bCode
  by_cases h : x.ty = 13
  · simp [inT, h]
  · simp [inT, h, dec0]
theorem fPp (x : Ms) : decide (bPn x = x.ports.length) = (decide (x.ports.length = 0) || inT x.ty [4]) := by
  unfold bPn
  by_cases h : x.ty = 4
  · rw [if_pos h]; simp [inT, h]
  · rw [if_neg h, dec0]; simp [inT, h]
theorem fEe (x : Ms) : decide (bEn x = x.edge.length) = (decide (x.edge.length = 0) || inT x.ty [4]) := by
  unfold bEn
  by_cases h : x.ty = 4
  · rw [if_pos h]; simp [inT, h]
  · rw [if_neg h, dec0]; simp [inT, h]
theorem fFf (x : Ms) : decide (bFn x = x.frame.length) = (decide (x.frame.length = 0) || inT x.ty [6, 7]) := by
  unfold bFn
  by_cases h : x.ty = 6 ∨ x.ty = 7
  · rw [if_pos h]; simp [inT, h]
  · rw [if_neg h, dec0]; simp [inT, h]
theorem fHh (x : Ms) : decide (bHn x = x.helds.length) = (decide (x.helds.length = 0) || inT x.ty [11]) := by
  unfold bHn
  by_cases h : x.ty = 11
  · rw [if_pos h]; simp [inT, h]
  · rw [if_neg h, dec0]; simp [inT, h]
def onlyN (x : Ms) : Bool := decide (bDd x = x.dd) && (decide (bPort x = x.port) && ((bUp x == x.up) && (decide (bSw x = x.sw) && (decide (bCode x = x.code) &&
  (decide (bPn x = x.ports.length) && (decide (bEn x = x.edge.length) && (decide (bFn x = x.frame.length) && (decide (bHn x = x.helds.length) && (decide (x.ty = 5) || zeroR x.r)))))))))
theorem bx (d z t A B s p e u F H C : Bool) : ((d || t) && (A && (B && ((s || u) && (C && ((p || u) && ((e || u) && (F && (H && (t || z)))))))))) = ((d && z || t) && (A && (B && ((s && (p && e) || u) && (F && (H && C)))))) := by
  cases t <;> cases u <;> cases d <;> cases z <;> cases s <;> cases p <;> cases e <;> simp only [Bool.and_true, Bool.true_and, Bool.and_false, Bool.false_and, Bool.or_true, Bool.or_false] <;>
    cases A <;> cases B <;> cases F <;> cases H <;> cases C <;> rfl
theorem only_eq (x : Ms) : onlyN x = onlyM x := by
  have h5 : decide (x.ty = 5) = inT x.ty [5] := by simp [inT]
  simp only [onlyN, fD, fPo, fUp, fSw, fCo, fPp, fEe, fFf, fHh, h5, onlyM, zs, List.all_cons, List.all_nil, Bool.and_true]
  exact bx _ _ _ _ _ _ _ _ _ _ _ _
set_option maxHeartbeats 16000000 in
theorem ans39 (x : Ms) (hx : wfM x) : Ans Try.prog 39 [.agg (msC x)] (.bool (isTy x.ty && onlyM x)) := by
  refine Snd_of_W fol rfl rfl (by kernel_rfl) (by kernel_rfl) ?_
  have q0 : (msC x)[0]? = some (.int .i8 x.ty) := rfl
  have q2 : (msC x)[2]? = some (.int .i8 x.dd) := rfl
  have q3 : partK true 25 (msC x) 3 = some (.agg (ruC x.r)) := rfl
  have q28 : (msC x)[28]? = some (.int .u16 (x.port : Int)) := rfl
  have q29 : (msC x)[29]? = some (.bool x.up) := rfl
  have q30 : (msC x)[30]? = some (.int .u16 (x.sw : Int)) := rfl
  have q31 : (msC x)[31]? = some (poV x.ports) := rfl
  have q32 : (msC x)[32]? = some (poV x.edge) := rfl
  have q33 : (msC x)[33]? = some (byV x.frame) := rfl
  have q34 : (msC x)[34]? = some (hesV x.helds) := rfl
  have q35 : (msC x)[35]? = some (.int .u16 (x.code : Int)) := rfl
  have qa : partK true 36 (msC x) 0 = some (.agg (msC x)) := rfl
  have b2 := bare_0 x
  have b28 : (bareC x)[28]? = _ := bare_g x 0
  have b29 : (bareC x)[29]? = _ := bare_g x 1
  have b30 : (bareC x)[30]? = _ := bare_g x 2
  have b31 : (bareC x)[31]? = _ := bare_g x 3
  have b32 : (bareC x)[32]? = _ := bare_g x 4
  have b33 : (bareC x)[33]? = _ := bare_g x 5
  have b34 : (bareC x)[34]? = _ := bare_g x 6
  have b35 : (bareC x)[35]? = _ := bare_g x 7
  simp only [List.getElem?_cons_zero, List.getElem?_cons_succ] at b28 b29 b30 b31 b32 b33 b34 b35
  have lb := bare_len x
  have sp : ∀ l : List V, l.length = 36 → splice l 0 (bareC x) = bareC x := fun l h => splice_all (by rw [lb, h])
  have lnP : ∀ M, lenV Try.prog M 33 (poV x.ports) = some (.int .i64 (x.ports.length : Int)) := fun M => by unfold poV; rw [lni33, List.length_map]
  have lnE : ∀ M, lenV Try.prog M 33 (poV x.edge) = some (.int .i64 (x.edge.length : Int)) := fun M => by unfold poV; rw [lni33, List.length_map]
  have lnF : ∀ M, lenV Try.prog M 34 (byV x.frame) = some (.int .i64 (x.frame.length : Int)) := fun M => by unfold byV; rw [lni34, List.length_map]
  have lnH : ∀ M, lenV Try.prog M 35 (hesV x.helds) = some (.int .i64 (x.helds.length : Int)) := fun M => by unfold hesV; rw [lni35, List.length_map]
  have mP : ∀ M, lenV Try.prog M 33 (bP x) = some (.int .i64 (bPn x : Int)) := fun M => by
    unfold bP bPn
    split
    · exact lnP M
    · exact lnn33 M
  have mE : ∀ M, lenV Try.prog M 33 (bE x) = some (.int .i64 (bEn x : Int)) := fun M => by
    unfold bE bEn
    split
    · exact lnE M
    · exact lnn33 M
  have mF : ∀ M, lenV Try.prog M 34 (bF x) = some (.int .i64 (bFn x : Int)) := fun M => by
    unfold bF bFn
    split
    · exact lnF M
    · exact lnn34 M
  have mH : ∀ M, lenV Try.prog M 35 (bH x) = some (.int .i64 (bHn x : Int)) := fun M => by
    unfold bH bHn
    split
    · exact lnH M
    · exact lnn35 M
  simp -implicitDefEqProofs only [sims.1, fx.1, keeps.1, tick_on, calleeK, Nat.reduceEqDiff, qa]
  refine callD_ans (ans66 x) en66 (nfs_cons (nfs_ms x) rfl) (nf_bare _ _) ?_
  simp -implicitDefEqProofs only [sims.1, fx.1, keeps.1, tick_on, extractV, Nat.reduceAdd, Nat.reduceEqDiff, Nat.reduceLeDiff, sp, storeK_agg, lb]
  rw [← only_eq]
  cases hT : isTy x.ty
  · simp -implicitDefEqProofs only [sims.1, fx.1, keeps.1, tick_on, Nat.reduceEqDiff]
    exact ans_ret (by simp only [])
  cases t0 : decide (bDd x = x.dd)
  · simp -implicitDefEqProofs only [sims.1, fx.1, keeps.1, tick_on, faddrK, Nat.reduceEqDiff, b2, q2, t0]
    exact ans_ret (by simp only [onlyN, t0, Bool.false_and])
  cases t1 : decide (bPort x = x.port)
  · simp -implicitDefEqProofs only [sims.1, fx.1, keeps.1, tick_on, faddrK, Nat.reduceEqDiff, b2, b28, q2, q28, eqII, t0, t1]
    exact ans_ret (by simp only [onlyN, t0, t1, Bool.false_and, Bool.and_false])
  cases t2 : (bUp x == x.up)
  · simp -implicitDefEqProofs only [sims.1, fx.1, keeps.1, tick_on, faddrK, Nat.reduceEqDiff, b2, b28, b29, q2, q28, q29, eqII, t0, t1, t2]
    exact ans_ret (by simp only [onlyN, t0, t1, t2, Bool.false_and, Bool.and_false])
  cases t3 : decide (bSw x = x.sw)
  · simp -implicitDefEqProofs only [sims.1, fx.1, keeps.1, tick_on, faddrK, Nat.reduceEqDiff, b2, b28, b29, b30, q2, q28, q29, q30, eqII, t0, t1, t2, t3]
    exact ans_ret (by simp only [onlyN, t0, t1, t2, t3, Bool.false_and, Bool.and_false])
  cases t4 : decide (bCode x = x.code)
  · simp -implicitDefEqProofs only [sims.1, fx.1, keeps.1, tick_on, faddrK, Nat.reduceEqDiff, b2, b28, b29, b30, b35, q2, q28, q29, q30, q35, eqII, t0, t1, t2, t3, t4]
    exact ans_ret (by simp only [onlyN, t0, t1, t2, t3, t4, Bool.false_and, Bool.and_false])
  cases t5 : decide (bPn x = x.ports.length)
  · simp -implicitDefEqProofs only [sims.1, fx.1, keeps.1, tick_on, faddrK, Nat.reduceEqDiff, b2, b28, b29, b30, b31, b35, q2, q28, q29, q30, q31, q35, eqII, lnP, mP, t0, t1, t2, t3, t4, t5]
    exact ans_ret (by simp only [onlyN, t0, t1, t2, t3, t4, t5, Bool.false_and, Bool.and_false])
  cases t6 : decide (bEn x = x.edge.length)
  · simp -implicitDefEqProofs only [sims.1, fx.1, keeps.1, tick_on, faddrK, Nat.reduceEqDiff, b2, b28, b29, b30, b31, b32, b35, q2, q28, q29, q30, q31, q32, q35, eqII, lnP, lnE, mP, mE, t0, t1, t2, t3, t4, t5, t6]
    exact ans_ret (by simp only [onlyN, t0, t1, t2, t3, t4, t5, t6, Bool.false_and, Bool.and_false])
  cases t7 : decide (bFn x = x.frame.length)
  · simp -implicitDefEqProofs only [sims.1, fx.1, keeps.1, tick_on, faddrK, Nat.reduceEqDiff, b2, b28, b29, b30, b31, b32, b33, b35, q2, q28, q29, q30, q31, q32, q33, q35, eqII, lnP, lnE, lnF, mP, mE, mF, t0, t1, t2, t3, t4, t5, t6, t7]
    exact ans_ret (by simp only [onlyN, t0, t1, t2, t3, t4, t5, t6, t7, Bool.false_and, Bool.and_false])
  cases t8 : decide (bHn x = x.helds.length)
  · simp -implicitDefEqProofs only [sims.1, fx.1, keeps.1, tick_on, faddrK, Nat.reduceEqDiff, b2, b28, b29, b30, b31, b32, b33, b34, b35, q2, q28, q29, q30, q31, q32, q33, q34, q35, eqII, lnP, lnE, lnF, lnH, mP, mE, mF, mH, t0, t1, t2, t3, t4, t5, t6, t7, t8]
    exact ans_ret (by simp only [onlyN, t0, t1, t2, t3, t4, t5, t6, t7, t8, Bool.false_and, Bool.and_false])
  cases t9 : decide (x.ty = 5)
  · simp -implicitDefEqProofs only [sims.1, fx.1, keeps.1, tick_on, calleeK, faddrK, Nat.reduceEqDiff, b2, b28, b29, b30, b31, b32, b33, b34, b35, q0, q2, q3, q28, q29, q30, q31, q32, q33, q34, q35, eqII, lnP, lnE, lnF, lnH, mP, mE, mF, mH, t0, t1, t2, t3, t4, t5, t6, t7, t8, t9]
    refine callD_ans (ans67 x.r hx.r) en67 (nfs_cons (nfs_ru x.r) rfl) rfl ?_
    simp -implicitDefEqProofs only [sims.1, fx.1, keeps.1, tick_on, Nat.reduceEqDiff]
    exact ans_ret (by simp only [onlyN, t0, t1, t2, t3, t4, t5, t6, t7, t8, t9, Bool.false_or, Bool.true_and])
  · simp -implicitDefEqProofs only [sims.1, fx.1, keeps.1, tick_on, faddrK, Nat.reduceEqDiff, b2, b28, b29, b30, b31, b32, b33, b34, b35, q0, q2, q28, q29, q30, q31, q32, q33, q34, q35, eqII, lnP, lnE, lnF, lnH, mP, mE, mF, mH, t0, t1, t2, t3, t4, t5, t6, t7, t8, t9]
    exact ans_ret (by simp only [onlyN, t0, t1, t2, t3, t4, t5, t6, t7, t8, t9, Bool.true_or, Bool.true_and])
end Go.Proofs.Ytjjenpdjmcmgbaa
