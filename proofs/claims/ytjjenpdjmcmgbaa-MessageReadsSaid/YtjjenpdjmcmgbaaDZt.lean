/- The reference's parts of the check: what counts of a message, and whether it is great. No condition. -/
import Derived.Test.YtjjenpdjmcmgbaaDZs
namespace Go.Proofs.Ytjjenpdjmcmgbaa
open Go Ab
set_option linter.unusedSimpArgs false
set_option linter.unusedVariables false
set_option maxRecDepth 20000
def sumL (l : List (List Act)) : Nat := (l.map (·.length)).sum
def greatR (r : Ru) : Bool := decide (8192 < r.l.length + sumL r.l)
theorem sumL_take {l : List (List Act)} {j : Nat} (h : j < l.length) : sumL (l.take (j + 1)) = sumL (l.take j) + l[j].length := by
  unfold sumL
  rw [List.take_add_one, List.getElem?_eq_getElem h, List.map_append, List.sum_append]
  simp
theorem sumL_le (l : List (List Act)) (j : Nat) : sumL (l.take j) ≤ sumL l := by
  have : sumL l = sumL (l.take j) + sumL (l.drop j) := by
    unfold sumL
    rw [← List.sum_append, ← List.map_append, List.take_append_drop]
  omega
theorem le8 (n : Nat) : decide ((n : Int) ≤ 8192) = decide (n ≤ 8192) := by rw [Bool.eq_iff_iff]; simp; omega
theorem addNN (a b : Nat) (h : a + b < 4611686018427387904) : IntKind.i64.wrap ((a : Int) + (b : Int)) = ((a + b : Nat) : Int) := by rw [IntKind.wrap_i64]; omega
set_option maxHeartbeats 2000000 in
theorem ans19 (r : Ru) (hr : wfR r) : Ans Try.prog 19 [.agg (ruC r)] (.bool (greatR r)) := by
  refine Snd_of_W fol rfl rfl (by kernel_rfl) (by kernel_rfl) ?_
  have r2 : (ruC r)[23]? = some (cpsV r.l) := rfl
  have hll : r.l.length < 281474976710656 := hr.2.2.1.1
  have lnl : ∀ M, lenV Try.prog M 29 (cpsV r.l) = some (.int .i64 (r.l.length : Int)) := fun M => by unfold cpsV; rw [lni29, List.length_map]
  simp -implicitDefEqProofs only [sims.1, fx.1, keeps.1, tick_on, faddrK, Nat.reduceEqDiff, r2, lnl]
  refine W_loopM (fun j : Nat => [(1, V.ptr 0 0), (4, V.int .i64 (j : Int)), (3, V.int .i64 ((r.l.length + sumL (r.l.take j) : Nat) : Int))]) (fun j M => M[0]? = some (.var 31 (ruC r)) ∧ j ≤ r.l.length ∧ r.l.length + sumL (r.l.take j) < 1125899906842624) (fun j => r.l.length + 1 - j) 0 (by simp only [List.take_zero, sumL, List.map_nil, List.sum_nil, Nat.add_zero]; kernel_rfl) ⟨rfl, by omega, by simp [sumL]; omega⟩ ?_
  rintro j M ⟨h0, h1, h2⟩
  have hle := sumL_le r.l j
  rcases Nat.lt_or_ge j r.l.length with hj | hj
  · have c1 : decide (j < r.l.length) = true := by simpa using hj
    have a1 := add1N j (by omega)
    have hcl : r.l[j].length < 281474976710656 := (hr.2.2.1.2 _ (List.getElem_mem hj)).1
    have lnc : ∀ M, lenV Try.prog M 99 (cpV r.l[j]) = some (.int .i64 (r.l[j].length : Int)) := fun M => by unfold cpV; rw [lni99, List.length_map]
    have ia : ∀ {kk : IntKind}, iaddrS 1 (cpsV r.l) (.int kk (j : Int)) = some (.ip [cpV r.l[j]]) := fun {kk} => iaddrS_isl (by simp [hj])
    cases e : decide (r.l.length + sumL (r.l.take j) ≤ 8192)
    · have c2 := le8 (r.l.length + sumL (r.l.take j))
      have c3 := ltN8 (r.l.length + sumL (r.l.take j))
      rw [e] at c2
      have h8 : 8192 < r.l.length + sumL (r.l.take j) := by have := of_decide_eq_false e; omega
      have e2 : decide (8192 < r.l.length + sumL (r.l.take j)) = true := by simpa using h8
      rw [e2] at c3
      simp -implicitDefEqProofs only [sims.1, fx.1, keeps.1, tick_on, faddrK, Nat.reduceEqDiff, h0, ltNat, c1, r2, lnl, c2, c3]
      refine ans_ret ?_
      have : greatR r = true := by unfold greatR; simp only [decide_eq_true_eq]; omega
      rw [this]
    · have c2 := le8 (r.l.length + sumL (r.l.take j))
      rw [e] at c2
      have h8 : r.l.length + sumL (r.l.take j) ≤ 8192 := of_decide_eq_true e
      have a2 := addNN (r.l.length + sumL (r.l.take j)) r.l[j].length (by omega)
      simp -implicitDefEqProofs only [sims.1, fx.1, keeps.1, tick_on, faddrK, Nat.reduceEqDiff, h0, ltNat, c1, r2, lnl, c2, ia, lnc, a1, a2]
      refine ⟨j + 1, ?_, ⟨by first | exact h0 | trivial, by omega, by rw [sumL_take hj]; omega⟩, by omega⟩
      rw [sumL_take hj, ← Nat.add_assoc]
      kernel_rfl
  · obtain rfl : j = r.l.length := by omega
    have c1 : decide (r.l.length < r.l.length) = false := by simp
    rw [List.take_length]
    have c3 := ltN8 (r.l.length + sumL r.l)
    simp -implicitDefEqProofs only [sims.1, fx.1, keeps.1, tick_on, faddrK, Nat.reduceEqDiff, h0, ltNat, c1, r2, lnl, c3]
    exact ans_ret rfl
theorem eq28y {a : Nat → Nat} (ha : U64 22 a) : eqV Try.prog 28 (.agg (mC a)) (.agg (cl .u64 22 fun _ => 0)) = some (eqM a fun _ => 0) := eq28z ha
set_option maxHeartbeats 2000000 in
theorem ans67 (r : Ru) (hr : wfR r) : Ans Try.prog 67 [.agg (ruC r)] (.bool (zeroR r)) := by
  refine Snd_of_W fol rfl rfl (by kernel_rfl) (by kernel_rfl) ?_
  have r0 : (ruC r)[0]? = some (.int .i64 r.rank) := rfl
  have r1 : partK true 22 (ruC r) 1 = some (.agg (mC r.w)) := rfl
  have r2 : (ruC r)[23]? = some (cpsV r.l) := rfl
  have r3 : (ruC r)[24]? = some (.int .u64 (r.ck : Int)) := rfl
  have lnl : ∀ M, lenV Try.prog M 29 (cpsV r.l) = some (.int .i64 (r.l.length : Int)) := fun M => by unfold cpsV; rw [lni29, List.length_map]
  have c2 := eqC0 r.ck
  have c3 := eqC0 r.l.length
  cases t1 : decide (r.rank = 0)
  · simp -implicitDefEqProofs only [sims.1, fx.1, keeps.1, tick_on, faddrK, Nat.reduceEqDiff, r0, t1]
    exact ans_ret (by simp only [zeroR, t1, Bool.false_and])
  cases t2 : decide (r.ck = 0)
  · rw [t2] at c2
    simp -implicitDefEqProofs only [sims.1, fx.1, keeps.1, tick_on, faddrK, Nat.reduceEqDiff, r0, r3, t1, c2]
    exact ans_ret (by simp only [zeroR, t1, t2, Bool.false_and, Bool.true_and])
  rw [t2] at c2
  cases t3 : decide (r.l.length = 0)
  · rw [t3] at c3
    simp -implicitDefEqProofs only [sims.1, fx.1, keeps.1, tick_on, faddrK, Nat.reduceEqDiff, r0, r2, r3, t1, c2, lnl, c3]
    exact ans_ret (by simp only [zeroR, t1, t2, t3, Bool.false_and, Bool.true_and])
  rw [t3] at c3
  simp -implicitDefEqProofs only [sims.1, fx.1, keeps.1, tick_on, faddrK, Nat.reduceEqDiff, r0, r1, r2, r3, t1, c2, lnl, c3, eq28y hr.2.1]
  exact ans_ret (by simp only [zeroR, t1, t2, t3, Bool.true_and])
def zR : List V := .int .i64 0 :: (mC (fun _ => 0) ++ [.nils, .int .u64 0])
def mkC (a : Int) (b : Nat) (d : Int) (rc : List V) (port : Nat) (up : Bool) (sw : Nat) (ports edge frame helds : V) (code : Nat) : List V :=
  .int .i8 a :: .int .u32 (b : Int) :: .int .i8 d :: (rc ++ [.int .u16 (port : Int), .bool up, .int .u16 (sw : Int), ports, edge, frame, helds, .int .u16 (code : Int)])
theorem bu37b (a : Int) (b : Nat) : buildV Try.prog 37 [(0, .int .i8 a), (1, .int .u32 (b : Int))] = some (.agg (mkC a b 0 zR 0 false 0 .nils .nils .nils .nils 0)) := by kernel_rfl
section
variable {a d : Int} {b port sw code : Nat} {up : Bool} {p e f h : V}
theorem mk_len : (mkC a b d zR port up sw p e f h code).length = 36 := rfl
theorem mk_len5 (r : Ru) : (mkC a b d (ruC r) port up sw p e f h code).length = 36 := rfl
theorem mk_set2r (r : Ru) (v : Int) : (mkC a b d (ruC r) port up sw p e f h code).set 2 (.int .i8 v) = mkC a b v (ruC r) port up sw p e f h code := rfl
theorem mk_set2 (v : Int) : (mkC a b d zR port up sw p e f h code).set 2 (.int .i8 v) = mkC a b v zR port up sw p e f h code := rfl
theorem mk_set28 (v : Nat) : (mkC a b d zR port up sw p e f h code).set 28 (.int .u16 (v : Int)) = mkC a b d zR v up sw p e f h code := rfl
theorem mk_set29 (v : Bool) : (mkC a b d zR port up sw p e f h code).set 29 (.bool v) = mkC a b d zR port v sw p e f h code := rfl
theorem mk_set30 (v : Nat) : (mkC a b d zR port up sw p e f h code).set 30 (.int .u16 (v : Int)) = mkC a b d zR port up v p e f h code := rfl
theorem mk_set31 (v : V) : (mkC a b d zR port up sw p e f h code).set 31 v = mkC a b d zR port up sw v e f h code := rfl
theorem mk_set32 (v : V) : (mkC a b d zR port up sw p e f h code).set 32 v = mkC a b d zR port up sw p v f h code := rfl
theorem mk_set33 (v : V) : (mkC a b d zR port up sw p e f h code).set 33 v = mkC a b d zR port up sw p e v h code := rfl
theorem mk_set34 (v : V) : (mkC a b d zR port up sw p e f h code).set 34 v = mkC a b d zR port up sw p e f v code := rfl
theorem mk_set35 (v : Nat) : (mkC a b d zR port up sw p e f h code).set 35 (.int .u16 (v : Int)) = mkC a b d zR port up sw p e f h v := rfl
theorem mk_rule (r : Ru) : splice (mkC a b d zR port up sw p e f h code) 3 (ruC r) = mkC a b d (ruC r) port up sw p e f h code := rfl
theorem mk_all {rc : List V} (hr : rc.length = 25) : partK true 36 (mkC a b d rc port up sw p e f h code) 0 = some (.agg (mkC a b d rc port up sw p e f h code)) := partK_row (by simp [mkC, hr])
theorem mk_get {rc : List V} (hr : rc.length = 25) (i : Nat) : (mkC a b d rc port up sw p e f h code)[28 + i]? = ([.int .u16 (port : Int), .bool up, .int .u16 (sw : Int), p, e, f, h, .int .u16 (code : Int)] : List V)[i]? := by
  unfold mkC
  rw [show 28 + i = (i + 25) + 1 + 1 + 1 by omega, List.getElem?_cons_succ, List.getElem?_cons_succ, List.getElem?_cons_succ, List.getElem?_append_right (by omega)]
  congr 1
  omega
theorem mk_get2 {rc : List V} : (mkC a b d rc port up sw p e f h code)[2]? = some (.int .i8 d) := rfl
end
/-- What counts of a message. -/
def bDd (x : Ms) : Int := if x.ty = 5 then x.dd else 0
def bRc (x : Ms) : List V := if x.ty = 5 then ruC x.r else zR
def bPort (x : Ms) : Nat := if x.ty = 6 ∨ x.ty = 7 ∨ x.ty = 11 ∨ x.ty = 12 then x.port else 0
def bUp (x : Ms) : Bool := if x.ty = 12 then x.up else false
def bSw (x : Ms) : Nat := if x.ty = 4 then x.sw else 0
def bP (x : Ms) : V := if x.ty = 4 then poV x.ports else .nils
def bE (x : Ms) : V := if x.ty = 4 then poV x.edge else .nils
def bF (x : Ms) : V := if x.ty = 6 ∨ x.ty = 7 then byV x.frame else .nils
def bH (x : Ms) : V := if x.ty = 11 then hesV x.helds else .nils
def bCode (x : Ms) : Nat := if x.ty = 13 then x.code else 0
def bareC (x : Ms) : List V := mkC x.ty x.id (bDd x) (bRc x) (bPort x) (bUp x) (bSw x) (bP x) (bE x) (bF x) (bH x) (bCode x)
set_option maxHeartbeats 16000000 in
theorem ans66 (x : Ms) : Ans Try.prog 66 [.agg (msC x)] (.tup [.agg (bareC x), .bool (isTy x.ty)]) := by
  refine Snd_of_W fol rfl rfl (by kernel_rfl) (by kernel_rfl) ?_
  have q1 : (msC x)[1]? = some (.int .u32 (x.id : Int)) := rfl
  have q2 : (msC x)[2]? = some (.int .i8 x.dd) := rfl
  have q3 : partK true 25 (msC x) 3 = some (.agg (ruC x.r)) := rfl
  have q28 : (msC x)[28]? = some (.int .u16 (x.port : Int)) := rfl
  have q29 : (msC x)[29]? = some (.bool x.up) := rfl
  have q30 : (msC x)[30]? = some (.int .u16 (x.sw : Int)) := rfl
  have q31 : (msC x)[31]? = some (poV x.ports) := rfl
  have q32 : (msC x)[32]? = some (poV x.edge) := rfl
  have q33 : (msC x)[33]? = some (byV x.frame) := rfl
  have q34 : (msC x)[34]? = some (hesV x.helds) := rfl
  have q35 : (msC x)[35]? = some (.int .u16 (x.code : Int)) := rfl
  have lr : (ruC x.r).length = 25 := rfl
  have lz : zR.length = 25 := rfl
  have sP : ∀ (M : Mem) (n o : Nat) (l : List Nat), storeK 1 M (.ptr n o) (poV l) = (M[n]?).bind fun b => match b with | .var ty c => if o < c.length then some (M.set n (.var ty (c.set o (poV l)))) else none | _ => none := fun _ _ _ _ => storeK_one rfl
  have sB : ∀ (M : Mem) (n o : Nat) (l : List Nat), storeK 1 M (.ptr n o) (byV l) = (M[n]?).bind fun b => match b with | .var ty c => if o < c.length then some (M.set n (.var ty (c.set o (byV l)))) else none | _ => none := fun _ _ _ _ => storeK_one rfl
  have sH : ∀ (M : Mem) (n o : Nat) (l : List He), storeK 1 M (.ptr n o) (hesV l) = (M[n]?).bind fun b => match b with | .var ty c => if o < c.length then some (M.set n (.var ty (c.set o (hesV l)))) else none | _ => none := fun _ _ _ _ => storeK_one rfl
  have sb : ∀ (M : Mem) (n o : Nat) (v : Bool), storeK 1 M (.ptr n o) (.bool v) = (M[n]?).bind fun b => match b with | .var ty c => if o < c.length then some (M.set n (.var ty (c.set o (.bool v)))) else none | _ => none := fun _ _ _ _ => storeK_one rfl
  have sp2 : ∀ (l c : List V), l.length = 36 → c.length = 36 → splice l 0 c = c := fun l c h1 h2 => splice_all (by rw [h1, h2])
  by_cases h0 : x.ty = 0
  · have q0 : (msC x)[0]? = some (.int .i8 0) := by rw [← h0]; rfl
    have hT : isTy x.ty = true := by rw [h0]; rfl
    have hB : bareC x = mkC 0 x.id 0 zR 0 false 0 .nils .nils .nils .nils 0 := by simp [bareC, bDd, bRc, bPort, bUp, bSw, bP, bE, bF, bH, bCode, h0]
    rw [hT, hB]
    simp -implicitDefEqProofs only [sims.1, fx.1, keeps.1, tick_on, faddrK, Nat.reduceAdd, Nat.reduceEqDiff, Nat.reduceLeDiff, q1, bu37b, storeK_agg, splice_all, mk_len, mk_all, lz, q0]
    exact ans_ret rfl
  by_cases h1 : x.ty = 1
  · have q0 : (msC x)[0]? = some (.int .i8 1) := by rw [← h1]; rfl
    have hT : isTy x.ty = true := by rw [h1]; rfl
    have hB : bareC x = mkC 1 x.id 0 zR 0 false 0 .nils .nils .nils .nils 0 := by simp [bareC, bDd, bRc, bPort, bUp, bSw, bP, bE, bF, bH, bCode, h1]
    rw [hT, hB]
    simp -implicitDefEqProofs only [sims.1, fx.1, keeps.1, tick_on, faddrK, Nat.reduceAdd, Nat.reduceEqDiff, Nat.reduceLeDiff, Int.reduceEq, q1, bu37b, storeK_agg, splice_all, mk_len, mk_all, lz, q0]
    exact ans_ret rfl
  by_cases h2 : x.ty = 2
  · have q0 : (msC x)[0]? = some (.int .i8 2) := by rw [← h2]; rfl
    have hT : isTy x.ty = true := by rw [h2]; rfl
    have hB : bareC x = mkC 2 x.id 0 zR 0 false 0 .nils .nils .nils .nils 0 := by simp [bareC, bDd, bRc, bPort, bUp, bSw, bP, bE, bF, bH, bCode, h2]
    rw [hT, hB]
    simp -implicitDefEqProofs only [sims.1, fx.1, keeps.1, tick_on, faddrK, Nat.reduceAdd, Nat.reduceEqDiff, Nat.reduceLeDiff, Int.reduceEq, q1, bu37b, storeK_agg, splice_all, mk_len, mk_all, lz, q0]
    exact ans_ret rfl
  by_cases h3 : x.ty = 3
  · have q0 : (msC x)[0]? = some (.int .i8 3) := by rw [← h3]; rfl
    have hT : isTy x.ty = true := by rw [h3]; rfl
    have hB : bareC x = mkC 3 x.id 0 zR 0 false 0 .nils .nils .nils .nils 0 := by simp [bareC, bDd, bRc, bPort, bUp, bSw, bP, bE, bF, bH, bCode, h3]
    rw [hT, hB]
    simp -implicitDefEqProofs only [sims.1, fx.1, keeps.1, tick_on, faddrK, Nat.reduceAdd, Nat.reduceEqDiff, Nat.reduceLeDiff, Int.reduceEq, q1, bu37b, storeK_agg, splice_all, mk_len, mk_all, lz, q0]
    exact ans_ret rfl
  by_cases h8 : x.ty = 8
  · have q0 : (msC x)[0]? = some (.int .i8 8) := by rw [← h8]; rfl
    have hT : isTy x.ty = true := by rw [h8]; rfl
    have hB : bareC x = mkC 8 x.id 0 zR 0 false 0 .nils .nils .nils .nils 0 := by simp [bareC, bDd, bRc, bPort, bUp, bSw, bP, bE, bF, bH, bCode, h8]
    rw [hT, hB]
    simp -implicitDefEqProofs only [sims.1, fx.1, keeps.1, tick_on, faddrK, Nat.reduceAdd, Nat.reduceEqDiff, Nat.reduceLeDiff, Int.reduceEq, q1, bu37b, storeK_agg, splice_all, mk_len, mk_all, lz, q0]
    exact ans_ret rfl
  by_cases h9 : x.ty = 9
  · have q0 : (msC x)[0]? = some (.int .i8 9) := by rw [← h9]; rfl
    have hT : isTy x.ty = true := by rw [h9]; rfl
    have hB : bareC x = mkC 9 x.id 0 zR 0 false 0 .nils .nils .nils .nils 0 := by simp [bareC, bDd, bRc, bPort, bUp, bSw, bP, bE, bF, bH, bCode, h9]
    rw [hT, hB]
    simp -implicitDefEqProofs only [sims.1, fx.1, keeps.1, tick_on, faddrK, Nat.reduceAdd, Nat.reduceEqDiff, Nat.reduceLeDiff, Int.reduceEq, q1, bu37b, storeK_agg, splice_all, mk_len, mk_all, lz, q0]
    exact ans_ret rfl
  by_cases h10 : x.ty = 10
  · have q0 : (msC x)[0]? = some (.int .i8 10) := by rw [← h10]; rfl
    have hT : isTy x.ty = true := by rw [h10]; rfl
    have hB : bareC x = mkC 10 x.id 0 zR 0 false 0 .nils .nils .nils .nils 0 := by simp [bareC, bDd, bRc, bPort, bUp, bSw, bP, bE, bF, bH, bCode, h10]
    rw [hT, hB]
    simp -implicitDefEqProofs only [sims.1, fx.1, keeps.1, tick_on, faddrK, Nat.reduceAdd, Nat.reduceEqDiff, Nat.reduceLeDiff, Int.reduceEq, q1, bu37b, storeK_agg, splice_all, mk_len, mk_all, lz, q0]
    exact ans_ret rfl
  by_cases h4 : x.ty = 4
  · have q0 : (msC x)[0]? = some (.int .i8 4) := by rw [← h4]; rfl
    have hT : isTy x.ty = true := by rw [h4]; rfl
    have hB : bareC x = mkC 4 x.id 0 zR 0 false x.sw (poV x.ports) (poV x.edge) .nils .nils 0 := by simp [bareC, bDd, bRc, bPort, bUp, bSw, bP, bE, bF, bH, bCode, h4]
    rw [hT, hB]
    simp -implicitDefEqProofs only [sims.1, fx.1, keeps.1, tick_on, faddrK, Nat.reduceAdd, Nat.reduceEqDiff, Nat.reduceLT, Nat.reduceLeDiff, Int.reduceEq, q1, q30, q31, q32, sP, bu37b, storeK_agg, splice_all, mk_len, mk_set30, mk_set31, mk_set32, mk_all, lz, q0]
    exact ans_ret rfl
  by_cases h5 : x.ty = 5
  · have q0 : (msC x)[0]? = some (.int .i8 5) := by rw [← h5]; rfl
    have hT : isTy x.ty = true := by rw [h5]; rfl
    have hB : bareC x = mkC 5 x.id x.dd (ruC x.r) 0 false 0 .nils .nils .nils .nils 0 := by simp [bareC, bDd, bRc, bPort, bUp, bSw, bP, bE, bF, bH, bCode, h5]
    rw [hT, hB]
    simp -implicitDefEqProofs only [sims.1, fx.1, keeps.1, tick_on, faddrK, Nat.reduceAdd, Nat.reduceEqDiff, Nat.reduceLT, Nat.reduceLeDiff, Int.reduceEq, q1, q2, q3, bu37b, storeK_agg, splice_all, mk_len, mk_len5, mk_set2, mk_rule, mk_all, lr, q0]
    exact ans_ret rfl
  by_cases h6 : x.ty = 6
  · have q0 : (msC x)[0]? = some (.int .i8 6) := by rw [← h6]; rfl
    have hT : isTy x.ty = true := by rw [h6]; rfl
    have hB : bareC x = mkC 6 x.id 0 zR x.port false 0 .nils .nils (byV x.frame) .nils 0 := by simp [bareC, bDd, bRc, bPort, bUp, bSw, bP, bE, bF, bH, bCode, h6]
    rw [hT, hB]
    simp -implicitDefEqProofs only [sims.1, fx.1, keeps.1, tick_on, faddrK, Nat.reduceAdd, Nat.reduceEqDiff, Nat.reduceLT, Nat.reduceLeDiff, Int.reduceEq, q1, q28, q33, sB, bu37b, storeK_agg, splice_all, mk_len, mk_set28, mk_set33, mk_all, lz, q0]
    exact ans_ret rfl
  by_cases h7 : x.ty = 7
  · have q0 : (msC x)[0]? = some (.int .i8 7) := by rw [← h7]; rfl
    have hT : isTy x.ty = true := by rw [h7]; rfl
    have hB : bareC x = mkC 7 x.id 0 zR x.port false 0 .nils .nils (byV x.frame) .nils 0 := by simp [bareC, bDd, bRc, bPort, bUp, bSw, bP, bE, bF, bH, bCode, h7]
    rw [hT, hB]
    simp -implicitDefEqProofs only [sims.1, fx.1, keeps.1, tick_on, faddrK, Nat.reduceAdd, Nat.reduceEqDiff, Nat.reduceLT, Nat.reduceLeDiff, Int.reduceEq, q1, q28, q33, sB, bu37b, storeK_agg, splice_all, mk_len, mk_set28, mk_set33, mk_all, lz, q0]
    exact ans_ret rfl
  by_cases h11 : x.ty = 11
  · have q0 : (msC x)[0]? = some (.int .i8 11) := by rw [← h11]; rfl
    have hT : isTy x.ty = true := by rw [h11]; rfl
    have hB : bareC x = mkC 11 x.id 0 zR x.port false 0 .nils .nils .nils (hesV x.helds) 0 := by simp [bareC, bDd, bRc, bPort, bUp, bSw, bP, bE, bF, bH, bCode, h11]
    rw [hT, hB]
    simp -implicitDefEqProofs only [sims.1, fx.1, keeps.1, tick_on, faddrK, Nat.reduceAdd, Nat.reduceEqDiff, Nat.reduceLT, Nat.reduceLeDiff, Int.reduceEq, q1, q28, q34, sH, bu37b, storeK_agg, splice_all, mk_len, mk_set28, mk_set34, mk_all, lz, q0]
    exact ans_ret rfl
  by_cases h12 : x.ty = 12
  · have q0 : (msC x)[0]? = some (.int .i8 12) := by rw [← h12]; rfl
    have hT : isTy x.ty = true := by rw [h12]; rfl
    have hB : bareC x = mkC 12 x.id 0 zR x.port x.up 0 .nils .nils .nils .nils 0 := by simp [bareC, bDd, bRc, bPort, bUp, bSw, bP, bE, bF, bH, bCode, h12]
    rw [hT, hB]
    simp -implicitDefEqProofs only [sims.1, fx.1, keeps.1, tick_on, faddrK, Nat.reduceAdd, Nat.reduceEqDiff, Nat.reduceLT, Nat.reduceLeDiff, Int.reduceEq, q1, q28, q29, sb, bu37b, storeK_agg, splice_all, mk_len, mk_set28, mk_set29, mk_all, lz, q0]
    exact ans_ret rfl
  by_cases h13 : x.ty = 13
  · have q0 : (msC x)[0]? = some (.int .i8 13) := by rw [← h13]; rfl
    have hT : isTy x.ty = true := by rw [h13]; rfl
    have hB : bareC x = mkC 13 x.id 0 zR 0 false 0 .nils .nils .nils .nils x.code := by simp [bareC, bDd, bRc, bPort, bUp, bSw, bP, bE, bF, bH, bCode, h13]
    rw [hT, hB]
    simp -implicitDefEqProofs only [sims.1, fx.1, keeps.1, tick_on, faddrK, Nat.reduceAdd, Nat.reduceEqDiff, Nat.reduceLT, Nat.reduceLeDiff, Int.reduceEq, q1, q35, bu37b, storeK_agg, splice_all, mk_len, mk_set35, mk_all, lz, q0]
    exact ans_ret rfl
  have f0 : decide (x.ty = 0) = false := by simpa using h0
  have f1 : decide (x.ty = 1) = false := by simpa using h1
  have f2 : decide (x.ty = 2) = false := by simpa using h2
  have f3 : decide (x.ty = 3) = false := by simpa using h3
  have f8 : decide (x.ty = 8) = false := by simpa using h8
  have f9 : decide (x.ty = 9) = false := by simpa using h9
  have f10 : decide (x.ty = 10) = false := by simpa using h10
  have f4 : decide (x.ty = 4) = false := by simpa using h4
  have f5 : decide (x.ty = 5) = false := by simpa using h5
  have f6 : decide (x.ty = 6) = false := by simpa using h6
  have f7 : decide (x.ty = 7) = false := by simpa using h7
  have f11 : decide (x.ty = 11) = false := by simpa using h11
  have f12 : decide (x.ty = 12) = false := by simpa using h12
  have f13 : decide (x.ty = 13) = false := by simpa using h13
  have q0 : (msC x)[0]? = some (.int .i8 x.ty) := rfl
  have hT : isTy x.ty = false := by
    unfold isTy
    rw [Bool.and_eq_false_iff]
    simp only [decide_eq_false_iff_not]
    omega
  have hB : bareC x = mkC x.ty x.id 0 zR 0 false 0 .nils .nils .nils .nils 0 := by simp [bareC, bDd, bRc, bPort, bUp, bSw, bP, bE, bF, bH, bCode, h4, h5, h6, h7, h11, h12, h13]
  rw [hT, hB]
  simp -implicitDefEqProofs only [sims.1, fx.1, keeps.1, tick_on, faddrK, Nat.reduceAdd, Nat.reduceEqDiff, Nat.reduceLeDiff, q1, bu37b, storeK_agg, splice_all, mk_len, mk_all, lz, q0, f0, f1, f2, f3, f8, f9, f10, f4, f5, f6, f7, f11, f12, f13]
  exact ans_ret rfl
end Go.Proofs.Ytjjenpdjmcmgbaa
