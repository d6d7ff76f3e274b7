/- Rules: their places, and whether two are alike. No condition. -/
import Derived.Test.YtggdnepfahknbaaYa
namespace Go.Proofs.Ytggdnepfahknbaa
open Go Ab
set_option linter.unusedSimpArgs false
set_option linter.unusedVariables false
set_option maxRecDepth 20000

def U64 (n : Nat) (a : Nat → Nat) : Prop := ∀ i, i < n → a i < 18446744073709551616
structure Ru where
  rank : Int
  w : Nat → Nat
  l : List (List Act)
  ck : Nat
def mC (w : Nat → Nat) : List V := cl .u64 22 fun i => (w i : Int)
def ruC (r : Ru) : List V := .int .i64 r.rank :: (mC r.w ++ [cpsV r.l, .int .u64 (r.ck : Int)])
def ruV (r : Ru) : V := .agg (ruC r)
def wfR (r : Ru) : Prop := (Lit.int .i64 r.rank).wf = true ∧ U64 22 r.w ∧ wfL r.l
theorem inK_nat {n : Nat} {a : Nat → Nat} (h : U64 n a) : inK .u64 n fun i => (a i : Int) := fun i hi => by
  have := h i hi
  simp [Lit.wf, IntKind.min, IntKind.max, IntKind.bits, IntKind.signed]
  omega
def eqM (a b : Nat → Nat) : Bool := eqN 22 (fun i => (a i : Int)) (fun i => (b i : Int))
theorem eqM_iff {a b : Nat → Nat} : eqM a b = true ↔ ∀ i, i < 22 → a i = b i := by
  unfold eqM
  rw [eqN_iff]
  exact ⟨fun h i hi => by have := h i hi; omega, fun h i hi => by have := h i hi; omega⟩
theorem eqM_refl (a : Nat → Nat) : eqM a a = true := eqM_iff.2 fun _ _ => rfl
theorem eqM_symm {a b : Nat → Nat} (h : eqM a b = true) : eqM b a = true := eqM_iff.2 fun i hi => (eqM_iff.1 h i hi).symm
theorem eqM_trans {a b c : Nat → Nat} (h : eqM a b = true) (h2 : eqM b c = true) : eqM a c = true := eqM_iff.2 fun i hi => (eqM_iff.1 h i hi).trans (eqM_iff.1 h2 i hi)
theorem eqM_cl {a b : Nat → Nat} (h : eqM a b = true) : mC a = mC b := by
  unfold mC
  exact cl_congr fun i hi => by rw [eqM_iff.1 h i hi]
theorem eq33 (a b : Nat → Nat) (ha : U64 22 a) (hb : U64 22 b) : eqV Try.prog 33 (.agg (mC a)) (.agg (mC b)) = some (eqM a b) := ea33 _ _ (inK_nat ha) (inK_nat hb)
/-- Are two rules of one place? -/
def pl (a b : Ru) : Bool := decide (a.rank = b.rank) && eqM a.w b.w
def alk (a b : Ru) : Bool := pl a b && (decide (a.ck = b.ck) && decide (a.l = b.l))
theorem nfs_ru (r : Ru) : nfs (ruC r) = true := by
  have h1 : ∀ l, nf (cpsV l) = true := nf_cps
  show (true && nfs (mC r.w ++ [cpsV r.l, .int .u64 (r.ck : Int)])) = true
  have h2 : nfs (mC r.w) = true := nfs_cl
  have h3 : ∀ a b : List V, nfs a = true → nfs b = true → nfs (a ++ b) = true := fun a b ha hb => by
    induction a with
    | nil => exact hb
    | cons x l ih =>
      simp only [nfs, Bool.and_eq_true] at ha
      simp only [List.cons_append, nfs, ha.1, ih ha.2, Bool.and_self]
  rw [h3 _ _ h2 (by simp only [nfs, h1, nf, Bool.and_self])]
  rfl
theorem nf_ru (r : Ru) : nf (ruV r) = true := nfs_ru r
theorem nfs_ru2 (a b : Ru) : nfs [ruV a, ruV b] = true := nfs_cons (nf_ru a) (nfs_cons (nf_ru b) rfl)
theorem p0 (r : Ru) : (ruC r)[0]? = some (.int .i64 r.rank) := rfl
theorem pM (r : Ru) : partK true 22 (ruC r) 1 = some (.agg (mC r.w)) := rfl
theorem p23 (r : Ru) : (ruC r)[23]? = some (cpsV r.l) := rfl
theorem p24 (r : Ru) : (ruC r)[24]? = some (.int .u64 (r.ck : Int)) := rfl
theorem pR (r : Ru) : partK true 25 (ruC r) 0 = some (ruV r) := rfl
theorem lenR (r : Ru) : (ruC r).length = 25 := rfl
theorem d0R (r : Ru) : (List.drop 0 (ruC r))[0]? = some (.int .i64 r.rank) := rfl
theorem d23R (r : Ru) : (List.drop 23 (ruC r))[0]? = some (cpsV r.l) := rfl
theorem d24R (r : Ru) : (List.drop 24 (ruC r))[0]? = some (.int .u64 (r.ck : Int)) := rfl
theorem d1R (r : Ru) : partK true 22 (List.drop 1 (ruC r)) 0 = some (.agg (mC r.w)) := rfl
theorem ck_dec (a b : Nat) : decide ((a : Int) = (b : Int)) = decide (a = b) := by rw [Bool.eq_iff_iff]; simp; omega

theorem ans20 (a b : Ru) (ha : wfR a) (hb : wfR b) : Ans Try.prog 20 [ruV a, ruV b] (.bool (pl a b)) := by
  refine Snd_of_W fol rfl rfl (by kernel_rfl) (by kernel_rfl) ?_
  have q := eq33 a.w b.w ha.2.1 hb.2.1
  cases e : decide (a.rank = b.rank)
  · simp -implicitDefEqProofs only [sims.1, fx.1, keeps.1, tick_on, calleeK, extractV, oneV, faddrK, nonnil, b_shr, b_shl, fieldK, Nat.reduceAdd, Nat.reduceMul, Nat.reduceSub, Nat.reduceEqDiff, Nat.reduceLT, Nat.reduceLeDiff, Nat.reduceBEq, Nat.reduceBNe, reduceIte, Int.reduceEq, Int.reduceLT, Int.reduceLE, Int.reduceNe, Int.reduceToNat, ruV, p0, e]
    exact ans_ret (by simp [pl, e])
  · simp -implicitDefEqProofs only [sims.1, fx.1, keeps.1, tick_on, calleeK, extractV, oneV, faddrK, nonnil, b_shr, b_shl, fieldK, Nat.reduceAdd, Nat.reduceMul, Nat.reduceSub, Nat.reduceEqDiff, Nat.reduceLT, Nat.reduceLeDiff, Nat.reduceBEq, Nat.reduceBNe, reduceIte, Int.reduceEq, Int.reduceLT, Int.reduceLE, Int.reduceNe, Int.reduceToNat, ruV, p0, e, pM, q]
    exact ans_ret (by simp [pl, e])
def plC (r : Ru) : List V := .int .i64 r.rank :: mC r.w
theorem b54 (r : Ru) : buildV Try.prog 54 [(0, .int .i64 r.rank), (1, .agg (mC r.w))] = some (.agg (plC r)) := by kernel_rfl
theorem ans24 (r : Ru) : Ans Try.prog 24 [ruV r] (.agg (plC r)) := by
  refine Snd_of_W fol rfl rfl (by kernel_rfl) (by kernel_rfl) ?_
  have hst : ∀ z : List V, z.length = 23 → storeK 23 [.var 36 (ruC r), .var 54 z] (.ptr 1 0) (.agg (plC r)) = some [.var 36 (ruC r), .var 54 (plC r)] := fun z hz => by
    have h1 : (cellsOfV (V.agg (plC r))).length = 23 ∧ cellsB (V.agg (plC r)) = true := ⟨rfl, rfl⟩
    have h6 : 0 + (cellsOfV (V.agg (plC r))).length ≤ z.length := by rw [hz]; exact Nat.le_refl 23
    unfold storeK
    rw [if_pos h1]
    simp only [List.getElem?_cons_succ, List.getElem?_cons_zero]
    rw [if_pos h6]
    have : splice z 0 (cellsOfV (V.agg (plC r))) = plC r := splice_all (by rw [hz]; rfl)
    rw [this]
    rfl
  have pP : partK true 23 (plC r) 0 = some (.agg (plC r)) := rfl
  simp -implicitDefEqProofs only [sims.1, fx.1, keeps.1, tick_on, calleeK, extractV, oneV, faddrK, nonnil, b_shr, b_shl, fieldK, Nat.reduceAdd, Nat.reduceMul, Nat.reduceSub, Nat.reduceEqDiff, Nat.reduceLT, Nat.reduceLeDiff, Nat.reduceBEq, Nat.reduceBNe, reduceIte, Int.reduceEq, Int.reduceLT, Int.reduceLE, Int.reduceNe, Int.reduceToNat, ruV, p0, pM, b54, hst, pP]
  exact ans_ret rfl
theorem ans21 (a b : Ru) (ha : wfR a) (hb : wfR b) : Ans Try.prog 21 [ruV a, ruV b] (.bool (alk a b)) := by
  refine Snd_of_W fol rfl rfl (by kernel_rfl) (by kernel_rfl) ?_
  simp -implicitDefEqProofs only [sims.1, fx.1, keeps.1, tick_on, calleeK, extractV, oneV, faddrK, nonnil, b_shr, b_shl, fieldK, Nat.reduceAdd, Nat.reduceMul, Nat.reduceSub, Nat.reduceEqDiff, Nat.reduceLT, Nat.reduceLeDiff, Nat.reduceBEq, Nat.reduceBNe, reduceIte, Int.reduceEq, Int.reduceLT, Int.reduceLE, Int.reduceNe, Int.reduceToNat, ruV, pR]
  refine callD_ans (ans20 a b ha hb) en20 (nfs_ru2 a b) rfl ?_
  cases e : pl a b
  · simp -implicitDefEqProofs only [sims.1, fx.1, keeps.1, tick_on, calleeK, extractV, oneV, faddrK, nonnil, b_shr, b_shl, fieldK, Nat.reduceAdd, Nat.reduceMul, Nat.reduceSub, Nat.reduceEqDiff, Nat.reduceLT, Nat.reduceLeDiff, Nat.reduceBEq, Nat.reduceBNe, reduceIte, Int.reduceEq, Int.reduceLT, Int.reduceLE, Int.reduceNe, Int.reduceToNat, e]
    exact ans_ret (by simp [alk, e])
  · cases e2 : decide (a.ck = b.ck)
    · simp -implicitDefEqProofs only [sims.1, fx.1, keeps.1, tick_on, calleeK, extractV, oneV, faddrK, nonnil, b_shr, b_shl, fieldK, Nat.reduceAdd, Nat.reduceMul, Nat.reduceSub, Nat.reduceEqDiff, Nat.reduceLT, Nat.reduceLeDiff, Nat.reduceBEq, Nat.reduceBNe, reduceIte, Int.reduceEq, Int.reduceLT, Int.reduceLE, Int.reduceNe, Int.reduceToNat, e, p24, ck_dec, e2]
      exact ans_ret (by simp [alk, e, e2])
    · simp -implicitDefEqProofs only [sims.1, fx.1, keeps.1, tick_on, calleeK, extractV, oneV, faddrK, nonnil, b_shr, b_shl, fieldK, Nat.reduceAdd, Nat.reduceMul, Nat.reduceSub, Nat.reduceEqDiff, Nat.reduceLT, Nat.reduceLeDiff, Nat.reduceBEq, Nat.reduceBNe, reduceIte, Int.reduceEq, Int.reduceLT, Int.reduceLE, Int.reduceNe, Int.reduceToNat, e, p24, ck_dec, e2, p23]
      refine callD_ans (ans33 a.l b.l ha.2.2 hb.2.2) en33 (nfs_cps2 _ _) rfl ?_
      simp -implicitDefEqProofs only [sims.1, fx.1, keeps.1, tick_on, calleeK, extractV, oneV, faddrK, nonnil, b_shr, b_shl, fieldK, Nat.reduceAdd, Nat.reduceMul, Nat.reduceSub, Nat.reduceEqDiff, Nat.reduceLT, Nat.reduceLeDiff, Nat.reduceBEq, Nat.reduceBNe, reduceIte, Int.reduceEq, Int.reduceLT, Int.reduceLE, Int.reduceNe, Int.reduceToNat]
      exact ans_ret (by simp [alk, e, e2])
theorem ans11 (a b : Ru) (ha : wfR a) (hb : wfR b) : Ans Try.prog 11 [ruV a, ruV b] (.bool (alk a b)) := by
  refine Snd_of_W fol rfl rfl (by kernel_rfl) (by kernel_rfl) ?_
  have q := eq33 a.w b.w ha.2.1 hb.2.1
  cases e : decide (a.rank = b.rank)
  · simp -implicitDefEqProofs only [sims.1, fx.1, keeps.1, tick_on, calleeK, extractV, oneV, faddrK, nonnil, b_shr, b_shl, fieldK, Nat.reduceAdd, Nat.reduceMul, Nat.reduceSub, Nat.reduceEqDiff, Nat.reduceLT, Nat.reduceLeDiff, Nat.reduceBEq, Nat.reduceBNe, reduceIte, Int.reduceEq, Int.reduceLT, Int.reduceLE, Int.reduceNe, Int.reduceToNat, ruV, p0, e]
    exact ans_ret (by simp [alk, pl, e])
  · cases e1 : eqM a.w b.w
    · simp -implicitDefEqProofs only [sims.1, fx.1, keeps.1, tick_on, calleeK, extractV, oneV, faddrK, nonnil, b_shr, b_shl, fieldK, Nat.reduceAdd, Nat.reduceMul, Nat.reduceSub, Nat.reduceEqDiff, Nat.reduceLT, Nat.reduceLeDiff, Nat.reduceBEq, Nat.reduceBNe, reduceIte, Int.reduceEq, Int.reduceLT, Int.reduceLE, Int.reduceNe, Int.reduceToNat, ruV, p0, e, pM, q, e1]
      exact ans_ret (by simp [alk, pl, e, e1])
    · cases e2 : decide (a.ck = b.ck)
      · simp -implicitDefEqProofs only [sims.1, fx.1, keeps.1, tick_on, calleeK, extractV, oneV, faddrK, nonnil, b_shr, b_shl, fieldK, Nat.reduceAdd, Nat.reduceMul, Nat.reduceSub, Nat.reduceEqDiff, Nat.reduceLT, Nat.reduceLeDiff, Nat.reduceBEq, Nat.reduceBNe, reduceIte, Int.reduceEq, Int.reduceLT, Int.reduceLE, Int.reduceNe, Int.reduceToNat, ruV, p0, e, pM, q, e1, p24, ck_dec, e2]
        exact ans_ret (by simp [alk, pl, e, e1, e2])
      · simp -implicitDefEqProofs only [sims.1, fx.1, keeps.1, tick_on, calleeK, extractV, oneV, faddrK, nonnil, b_shr, b_shl, fieldK, Nat.reduceAdd, Nat.reduceMul, Nat.reduceSub, Nat.reduceEqDiff, Nat.reduceLT, Nat.reduceLeDiff, Nat.reduceBEq, Nat.reduceBNe, reduceIte, Int.reduceEq, Int.reduceLT, Int.reduceLE, Int.reduceNe, Int.reduceToNat, ruV, p0, e, pM, q, e1, p24, ck_dec, e2, p23]
        refine callD_ans (ans15 a.l b.l ha.2.2 hb.2.2) en15 (nfs_cps2 _ _) rfl ?_
        simp -implicitDefEqProofs only [sims.1, fx.1, keeps.1, tick_on, calleeK, extractV, oneV, faddrK, nonnil, b_shr, b_shl, fieldK, Nat.reduceAdd, Nat.reduceMul, Nat.reduceSub, Nat.reduceEqDiff, Nat.reduceLT, Nat.reduceLeDiff, Nat.reduceBEq, Nat.reduceBNe, reduceIte, Int.reduceEq, Int.reduceLT, Int.reduceLE, Int.reduceNe, Int.reduceToNat]
        exact ans_ret (by simp [alk, pl, e, e1, e2])
theorem ans23 (a b : Ru) (ha : wfR a) (hb : wfR b) : Ans Try.prog 23 [ruV a, ruV b] (.bool (alk a b)) := by
  refine Snd_of_W fol rfl rfl (by kernel_rfl) (by kernel_rfl) ?_
  have q := eq33 a.w b.w ha.2.1 hb.2.1
  cases e : decide (a.rank = b.rank)
  · simp -implicitDefEqProofs only [sims.1, fx.1, keeps.1, tick_on, calleeK, extractV, oneV, faddrK, nonnil, b_shr, b_shl, fieldK, Nat.reduceAdd, Nat.reduceMul, Nat.reduceSub, Nat.reduceEqDiff, Nat.reduceLT, Nat.reduceLeDiff, Nat.reduceBEq, Nat.reduceBNe, reduceIte, Int.reduceEq, Int.reduceLT, Int.reduceLE, Int.reduceNe, Int.reduceToNat, ruV, p0, e]
    exact ans_ret (by simp [alk, pl, e])
  · cases e1 : eqM a.w b.w
    · simp -implicitDefEqProofs only [sims.1, fx.1, keeps.1, tick_on, calleeK, extractV, oneV, faddrK, nonnil, b_shr, b_shl, fieldK, Nat.reduceAdd, Nat.reduceMul, Nat.reduceSub, Nat.reduceEqDiff, Nat.reduceLT, Nat.reduceLeDiff, Nat.reduceBEq, Nat.reduceBNe, reduceIte, Int.reduceEq, Int.reduceLT, Int.reduceLE, Int.reduceNe, Int.reduceToNat, ruV, p0, e, pM, q, e1]
      exact ans_ret (by simp [alk, pl, e, e1])
    · cases e2 : decide (a.ck = b.ck)
      · simp -implicitDefEqProofs only [sims.1, fx.1, keeps.1, tick_on, calleeK, extractV, oneV, faddrK, nonnil, b_shr, b_shl, fieldK, Nat.reduceAdd, Nat.reduceMul, Nat.reduceSub, Nat.reduceEqDiff, Nat.reduceLT, Nat.reduceLeDiff, Nat.reduceBEq, Nat.reduceBNe, reduceIte, Int.reduceEq, Int.reduceLT, Int.reduceLE, Int.reduceNe, Int.reduceToNat, ruV, p0, e, pM, q, e1, p24, ck_dec, e2]
        exact ans_ret (by simp [alk, pl, e, e1, e2])
      · simp -implicitDefEqProofs only [sims.1, fx.1, keeps.1, tick_on, calleeK, extractV, oneV, faddrK, nonnil, b_shr, b_shl, fieldK, Nat.reduceAdd, Nat.reduceMul, Nat.reduceSub, Nat.reduceEqDiff, Nat.reduceLT, Nat.reduceLeDiff, Nat.reduceBEq, Nat.reduceBNe, reduceIte, Int.reduceEq, Int.reduceLT, Int.reduceLE, Int.reduceNe, Int.reduceToNat, ruV, p0, e, pM, q, e1, p24, ck_dec, e2, p23]
        refine callD_ans (ans34 a.l b.l ha.2.2 hb.2.2) en34 (nfs_cps2 _ _) rfl ?_
        simp -implicitDefEqProofs only [sims.1, fx.1, keeps.1, tick_on, calleeK, extractV, oneV, faddrK, nonnil, b_shr, b_shl, fieldK, Nat.reduceAdd, Nat.reduceMul, Nat.reduceSub, Nat.reduceEqDiff, Nat.reduceLT, Nat.reduceLeDiff, Nat.reduceBEq, Nat.reduceBNe, reduceIte, Int.reduceEq, Int.reduceLT, Int.reduceLE, Int.reduceNe, Int.reduceToNat]
        exact ans_ret (by simp [alk, pl, e, e1, e2])

/-! ### Messages -/
structure Me where
  d : Int
  r : Ru
def meC (x : Me) : List V := .int .i8 5 :: .int .u32 0 :: .int .i8 x.d :: (ruC x.r ++ [.int .u16 0, .bool false, .int .u16 0, .nils, .nils, .nils, .nils, .int .u16 0])
def meV (x : Me) : V := .agg (meC x)
def wfM (x : Me) : Prop := wfR x.r
def lkM (a b : Me) : Bool := decide (a.d = b.d) && alk a.r b.r
theorem nfs_me (x : Me) : nfs (meC x) = true := by
  have h3 : ∀ a b : List V, nfs a = true → nfs b = true → nfs (a ++ b) = true := fun a b ha hb => by
    induction a with
    | nil => exact hb
    | cons x l ih =>
      simp only [nfs, Bool.and_eq_true] at ha
      simp only [List.cons_append, nfs, ha.1, ih ha.2, Bool.and_self]
  have := h3 _ [.int .u16 0, .bool false, .int .u16 0, .nils, .nils, .nils, .nils, .int .u16 0] (nfs_ru x.r) rfl
  simp only [meC, nfs, nf, this, Bool.and_self]
theorem nf_me (x : Me) : nf (meV x) = true := nfs_me x
theorem nfs_me2 (a b : Me) : nfs [meV a, meV b] = true := nfs_cons (nf_me a) (nfs_cons (nf_me b) rfl)
theorem ans22n : Ans Try.prog 22 [.nils, .nils] (.bool true) := ans_run fol 100 (by kernel_rfl)
theorem streq : binV Try.prog .neq 9 (.str ByteArray.empty) (.str ByteArray.empty) = some (.bool false) := by simp [binV]
set_option maxHeartbeats 4000000 in
theorem ans13 (a b : Me) (ha : wfM a) (hb : wfM b) : Ans Try.prog 13 [meV a, meV b] (.bool (lkM a b)) := by
  refine Snd_of_W fol rfl rfl (by kernel_rfl) (by kernel_rfl) ?_
  have m0 : ∀ x : Me, (meC x)[0]? = some (.int .i8 5) ∧ (meC x)[1]? = some (.int .u32 0) ∧ (meC x)[2]? = some (.int .i8 x.d) ∧ (meC x)[28]? = some (.int .u16 0) ∧ (meC x)[29]? = some (.bool false) ∧ (meC x)[30]? = some (.int .u16 0) ∧ (meC x)[35]? = some (.int .u16 0) := fun _ => ⟨rfl, rfl, rfl, rfl, rfl, rfl, rfl⟩
  have m1 : ∀ x : Me, (meC x)[31]? = some .nils ∧ (meC x)[32]? = some .nils ∧ (meC x)[33]? = some .nils ∧ (meC x)[34]? = some .nils := fun _ => ⟨rfl, rfl, rfl, rfl⟩
  have mR : ∀ x : Me, partK true 25 (meC x) 3 = some (ruV x.r) := fun _ => rfl
  have d5 : decide ((5 : Int) = 5) = true := rfl
  have d0 : decide ((0 : Int) = 0) = true := rfl
  have bff : (false == false) = true := rfl
  have cvn : convV Try.prog 42 9 .nils = some (.str ByteArray.empty) := by kernel_rfl
  have cvm : ∀ m, convM Try.prog m 42 9 .nils = some (.str ByteArray.empty) := fun m => cvn
  have l43 : ∀ m, lenV Try.prog m 43 .nils = some (.int .i64 0) := fun _ => rfl
  have l00 : decide ((0 : Int) < 0) = false := rfl
  cases e : decide (a.d = b.d)
  · simp -implicitDefEqProofs only [sims.1, fx.1, keeps.1, tick_on, calleeK, extractV, oneV, faddrK, nonnil, b_shr, b_shl, fieldK, Nat.reduceAdd, Nat.reduceMul, Nat.reduceSub, Nat.reduceEqDiff, Nat.reduceLT, Nat.reduceLeDiff, Nat.reduceBEq, Nat.reduceBNe, reduceIte, Int.reduceEq, Int.reduceLT, Int.reduceLE, Int.reduceNe, Int.reduceToNat, meV, (m0 _).1, (m0 _).2.1, (m0 _).2.2.1, d5, d0, e]
    exact ans_ret (by simp [lkM, e])
  · simp -implicitDefEqProofs only [sims.1, fx.1, keeps.1, tick_on, calleeK, extractV, oneV, faddrK, nonnil, b_shr, b_shl, fieldK, Nat.reduceAdd, Nat.reduceMul, Nat.reduceSub, Nat.reduceEqDiff, Nat.reduceLT, Nat.reduceLeDiff, Nat.reduceBEq, Nat.reduceBNe, reduceIte, Int.reduceEq, Int.reduceLT, Int.reduceLE, Int.reduceNe, Int.reduceToNat, meV, (m0 _).1, (m0 _).2.1, (m0 _).2.2.1, (m0 _).2.2.2.1, (m0 _).2.2.2.2.1, (m0 _).2.2.2.2.2.1, (m0 _).2.2.2.2.2.2, d5, d0, e, bff, (m1 _).1, (m1 _).2.1, (m1 _).2.2.1, (m1 _).2.2.2, cvm, cvn, streq]
    refine callD_ans ans22n en22 rfl rfl ?_
    simp -implicitDefEqProofs only [sims.1, fx.1, keeps.1, tick_on, calleeK, extractV, oneV, faddrK, nonnil, b_shr, b_shl, fieldK, Nat.reduceAdd, Nat.reduceMul, Nat.reduceSub, Nat.reduceEqDiff, Nat.reduceLT, Nat.reduceLeDiff, Nat.reduceBEq, Nat.reduceBNe, reduceIte, Int.reduceEq, Int.reduceLT, Int.reduceLE, Int.reduceNe, Int.reduceToNat, (m1 _).1, (m1 _).2.1]
    refine callD_ans ans22n en22 rfl rfl ?_
    simp -implicitDefEqProofs only [sims.1, fx.1, keeps.1, tick_on, calleeK, extractV, oneV, faddrK, nonnil, b_shr, b_shl, fieldK, Nat.reduceAdd, Nat.reduceMul, Nat.reduceSub, Nat.reduceEqDiff, Nat.reduceLT, Nat.reduceLeDiff, Nat.reduceBEq, Nat.reduceBNe, reduceIte, Int.reduceEq, Int.reduceLT, Int.reduceLE, Int.reduceNe, Int.reduceToNat, mR]
    refine callD_ans (ans23 a.r b.r ha hb) en23 (nfs_ru2 _ _) rfl ?_
    cases e2 : alk a.r b.r
    · simp -implicitDefEqProofs only [sims.1, fx.1, keeps.1, tick_on, calleeK, extractV, oneV, faddrK, nonnil, b_shr, b_shl, fieldK, Nat.reduceAdd, Nat.reduceMul, Nat.reduceSub, Nat.reduceEqDiff, Nat.reduceLT, Nat.reduceLeDiff, Nat.reduceBEq, Nat.reduceBNe, reduceIte, Int.reduceEq, Int.reduceLT, Int.reduceLE, Int.reduceNe, Int.reduceToNat, e2]
      exact ans_ret (by simp [lkM, e, e2])
    · simp -implicitDefEqProofs only [sims.1, fx.1, keeps.1, tick_on, calleeK, extractV, oneV, faddrK, nonnil, b_shr, b_shl, fieldK, Nat.reduceAdd, Nat.reduceMul, Nat.reduceSub, Nat.reduceEqDiff, Nat.reduceLT, Nat.reduceLeDiff, Nat.reduceBEq, Nat.reduceBNe, reduceIte, Int.reduceEq, Int.reduceLT, Int.reduceLE, Int.reduceNe, Int.reduceToNat, e2, (m1 _).2.2.2, l43, d0]
      refine W_loopM (fun _ : Unit => [(2, .ptr 0 0), (3, .ptr 1 0), (5, .int .i64 0)]) (fun _ mm => mm = [.var 45 (meC a), .var 45 (meC b)]) (fun _ => 0) () (by kernel_rfl) rfl ?_
      rintro _ mm rfl
      simp -implicitDefEqProofs only [sims.1, fx.1, keeps.1, tick_on, calleeK, extractV, oneV, faddrK, nonnil, b_shr, b_shl, fieldK, Nat.reduceAdd, Nat.reduceMul, Nat.reduceSub, Nat.reduceEqDiff, Nat.reduceLT, Nat.reduceLeDiff, Nat.reduceBEq, Nat.reduceBNe, reduceIte, Int.reduceEq, Int.reduceLT, Int.reduceLE, Int.reduceNe, Int.reduceToNat, (m1 _).2.2.2, l43, l00]
      exact ans_ret (by simp [lkM, e, e2])
end Go.Proofs.Ytggdnepfahknbaa
