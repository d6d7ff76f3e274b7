/- Questions and answers who has an address: packets, and how they are read. No condition. -/
import Derived.Test.YtpmbhjmlghoogaaNy
import Derived.Test.YtpmbhjmlghoogaaNu
namespace Go.Proofs.Ytpmbhjmlghoogaa
open Go Ab
set_option linter.unusedSimpArgs false
set_option linter.unusedVariables false
set_option maxRecDepth 20000

theorem pk0 (h : Hd) (b : List Nat) : (pkC h b)[0]? = some (.int .u64 (h 0 : Int)) := rfl
theorem pk2 (h : Hd) (b : List Nat) : (pkC h b)[2]? = some (.int .u64 (h 2 : Int)) := rfl
theorem pk4 (h : Hd) (b : List Nat) : (pkC h b)[4]? = some (.int .u64 (h 4 : Int)) := rfl
theorem pk5 (h : Hd) (b : List Nat) : (pkC h b)[5]? = some (.int .u64 (h 5 : Int)) := rfl
theorem ansB_of1 {P : Program} {f : FuncId} {vs : List V} {v : V} (h : Snd P f vs [] fun r => ∃ m1 v0, r = .ret v0 m1 ∧ ret3 m1 v v0) : AnsB P f vs v := by
  intro I w xs hi hl hrt
  refine (h _ I w xs (repI hi) hl hrt).mono ?_
  rintro e w' ⟨r, ⟨m1, v0, rfl, hret⟩, x, ρ', I', rfl, k1, k2, k3⟩
  have noOwn : ∀ b, ¬ Own (fun _ => (0, 0)) ([] : Mem) b := by rintro b ⟨n, hn, _⟩; simp [live] at hn
  have old : ∀ b : Nat, b < w.heap.size → w'.heap[b]? = w.heap[b]? := fun b hb => k2.frame b hb (noOwn b)
  have hJ : ∀ n, live m1 n → (fun b => w.heap.size ≤ b ∧ b < w'.heap.size) (ρ' n).1 := by
    intro n hn
    refine ⟨?_, k1.live_lt hn⟩
    rcases k2.own _ ⟨n, hn, rfl⟩ with h | h
    · exact h
    · exact absurd h (noOwn _)
  have k1 : Rep ρ' I' m1 w' := k1
  have k3 : RV m1.length ρ' I' w' v0 x := k3
  exact ⟨x, rfl, ret3_RV (J := fun b => w.heap.size ≤ b ∧ b < w'.heap.size) k1 hJ hret k3, ⟨k2.wle.os, k2.wle.tape, k2.wle.output, k2.wle.size, old, k2.wle.cells⟩⟩
def aH (s d f t : Nat) : Hd
  | 0 => s | 1 => d | 2 => 2054 | 4 => f | 5 => t | _ => 0
theorem bu25a (s d f t : Nat) : buildV Try.prog 45 [(0, .int .u64 (s : Int)), (1, .int .u64 (d : Int)), (2, .int .u64 2054), (4, .int .u64 (f : Int)), (5, .int .u64 (t : Int))] = some (.agg (hdC (aH s d f t))) := by kernel_rfl
theorem bu27a (h : Hd) (n q : Nat) : buildV Try.prog 60 [(0, .agg (hdC h)), (1, .sl 1 n 0 q)] = some (.agg (pcC h (.sl 1 n 0 q))) := by kernel_rfl
set_option maxHeartbeats 4000000 in
theorem ansB36 (op s d f t : Nat) : AnsB Try.prog 36 [.int .u8 (op : Int), .int .u64 (s : Int), .int .u64 (d : Int), .int .u64 (f : Int), .int .u64 (t : Int)] (pkA (aH s d f t) [op]) := by
  refine ansB_of1 ?_
  refine Snd_of_W fol rfl rfl (by kernel_rfl) (by kernel_rfl) ?_
  simp -implicitDefEqProofs only [sims.1, fx.1, keeps.1, tick_on, calleeK, extractV, oneV, faddrK, nonnil, b_shr, b_shl, fieldK, Nat.reduceAdd, Nat.reduceMul, Nat.reduceSub, Nat.reduceEqDiff, Nat.reduceLT, Nat.reduceLeDiff, Nat.reduceBEq, Nat.reduceBNe, reduceIte, Int.reduceEq, Int.reduceLT, Int.reduceLE, Int.reduceNe, Int.reduceToNat, pks.1, sets.1, bu25a, bs22, bu27a, sp_pc]
  exact ⟨_, _, rfl, .inr ⟨_, _, rfl, rfl, ret2_pc (ret1_row (es := [byC op]) rfl rfl (by_bare [op]))⟩⟩
theorem ans36 (op s d f t : Nat) : Ans Try.prog 36 [.int .u8 (op : Int), .int .u64 (s : Int), .int .u64 (d : Int), .int .u64 (f : Int), .int .u64 (t : Int)] (pkA (aH s d f t) [op]) := (ansB36 op s d f t).ans rfl (nf_pkA _ _)

/-! ### Read -/
def isQ (h : Hd) (b : List Nat) : Bool := okH h && (decide (h 2 = 2054) && asks b)
def rA (h : Hd) (b : List Nat) : V := bif isQ h b then .tup [.bool (decide (b.getD 0 0 = 1)), .int .u64 (h 0 : Int), .int .u32 (h 4 : Int), .int .u32 (h 5 : Int), .bool true] else .tup [.bool false, .int .u64 0, .int .u32 0, .int .u32 0, .bool false]
theorem rA_no {h : Hd} {b : List Nat} (e : isQ h b = false) : rA h b = .tup [.bool false, .int .u64 0, .int .u32 0, .int .u32 0, .bool false] := by simp [rA, e]
theorem rA_ok {h : Hd} {b : List Nat} (e : isQ h b = true) : rA h b = .tup [.bool (decide (b.getD 0 0 = 1)), .int .u64 (h 0 : Int), .int .u32 (h 4 : Int), .int .u32 (h 5 : Int), .bool true] := by simp [rA, e]
theorem ltB1 (b : Nat) : decide ((b : Int) < 1) = decide (b < 1) := by rw [Bool.eq_iff_iff]; simp; omega
theorem gtB2 (b : Nat) : decide ((2 : Int) < (b : Int)) = decide (2 < b) := by rw [Bool.eq_iff_iff]; simp; omega
theorem w32 (x : Nat) (h : x < 4294967296) : IntKind.u32.wrap (x : Int) = (x : Int) := by simp [IntKind.wrap, IntKind.bits, IntKind.signed]; omega
theorem len_one {b : List Nat} (h : decide (b.length = 1) = true) : ∃ x, b = [x] := by
  have := of_decide_eq_true h
  match b, this with
  | [x], _ => exact ⟨x, rfl⟩
set_option maxHeartbeats 8000000 in
theorem ans19 (h : Hd) (b : List Nat) (hh : U64h h) : Ans Try.prog 19 [pkA h b] (rA h b) := by
  refine Snd_of_W fol rfl rfl (by kernel_rfl) (by kernel_rfl) ?_
  unfold pkA
  have lA : ∀ m, lenV Try.prog m 31 (byV b) = some (.int .i64 (b.length : Int)) := fun m => len_by _ _
  simp -implicitDefEqProofs only [sims.1, fx.1, keeps.1, tick_on, calleeK, extractV, oneV, faddrK, nonnil, b_shr, b_shl, fieldK, Nat.reduceAdd, Nat.reduceMul, Nat.reduceSub, Nat.reduceEqDiff, Nat.reduceLT, Nat.reduceLeDiff, Nat.reduceBEq, Nat.reduceBNe, reduceIte, Int.reduceEq, Int.reduceLT, Int.reduceLE, Int.reduceNe, Int.reduceToNat, pks.1]
  refine callD_ans (ans41 h hh) en41 (show nfs [hdA h] = true by simp only [nfs, nf_hdA, Bool.and_self]) rfl ?_
  cases ok : okH h
  · rw [rA_no (by simp [isQ, ok])]
    simp only [chkH, ok, cond_false]
    simp -implicitDefEqProofs only [sims.1, fx.1, keeps.1, tick_on, calleeK, extractV, oneV, faddrK, nonnil, b_shr, b_shl, fieldK, Nat.reduceAdd, Nat.reduceMul, Nat.reduceSub, Nat.reduceEqDiff, Nat.reduceLT, Nat.reduceLeDiff, Nat.reduceBEq, Nat.reduceBNe, reduceIte, Int.reduceEq, Int.reduceLT, Int.reduceLE, Int.reduceNe, Int.reduceToNat, pks.1]
    exact ans_ret rfl
  have f := ok_fit ok
  have f4 := w32 (h 4) (f 4 (by omega))
  have f5 := w32 (h 5) (f 5 (by omega))
  simp only [chkH, ok, cond_true]
  cases k1 : decide (h 2 = 2054)
  · rw [rA_no (by simp [isQ, ok, k1])]
    simp -implicitDefEqProofs only [sims.1, fx.1, keeps.1, tick_on, calleeK, extractV, oneV, faddrK, nonnil, b_shr, b_shl, fieldK, Nat.reduceAdd, Nat.reduceMul, Nat.reduceSub, Nat.reduceEqDiff, Nat.reduceLT, Nat.reduceLeDiff, Nat.reduceBEq, Nat.reduceBNe, reduceIte, Int.reduceEq, Int.reduceLT, Int.reduceLE, Int.reduceNe, Int.reduceToNat, pks.1, pk2, eqC4, k1]
    exact ans_ret rfl
  cases l1 : decide (b.length = 1)
  · rw [rA_no (by simp [isQ, ok, k1, asks, l1])]
    simp -implicitDefEqProofs only [sims.1, fx.1, keeps.1, tick_on, calleeK, extractV, oneV, faddrK, nonnil, b_shr, b_shl, fieldK, Nat.reduceAdd, Nat.reduceMul, Nat.reduceSub, Nat.reduceEqDiff, Nat.reduceLT, Nat.reduceLeDiff, Nat.reduceBEq, Nat.reduceBNe, reduceIte, Int.reduceEq, Int.reduceLT, Int.reduceLE, Int.reduceNe, Int.reduceToNat, pks.1, pk2, eqC4, k1, lA, lenEq1, l1]
    exact ans_ret rfl
  obtain ⟨x, rfl⟩ := len_one l1
  have lA' : ∀ m, lenV Try.prog m 31 (byV [x]) = some (.int .i64 1) := fun m => len_by _ _
  have d1 : decide ((1 : Int) = 1) = true := rfl
  cases x1 : decide (x < 1)
  · cases x2 : decide (2 < x)
    · have hx : x = 1 ∨ x = 2 := by have := of_decide_eq_false x1; have := of_decide_eq_false x2; omega
      rw [rA_ok (by simp [isQ, ok, k1, asks, hx])]
      simp -implicitDefEqProofs only [sims.1, fx.1, keeps.1, tick_on, calleeK, extractV, oneV, faddrK, nonnil, b_shr, b_shl, fieldK, Nat.reduceAdd, Nat.reduceMul, Nat.reduceSub, Nat.reduceEqDiff, Nat.reduceLT, Nat.reduceLeDiff, Nat.reduceBEq, Nat.reduceBNe, reduceIte, Int.reduceEq, Int.reduceLT, Int.reduceLE, Int.reduceNe, Int.reduceToNat, pks.1, pk2, eqC4, k1, lA', d1, ia_by0, by0, ltB1, gtB2, x1, x2]
      refine w_quiet ?_
      simp -implicitDefEqProofs only [sims.1, fx.1, keeps.1, tick_on, calleeK, extractV, oneV, faddrK, nonnil, b_shr, b_shl, fieldK, Nat.reduceAdd, Nat.reduceMul, Nat.reduceSub, Nat.reduceEqDiff, Nat.reduceLT, Nat.reduceLeDiff, Nat.reduceBEq, Nat.reduceBNe, reduceIte, Int.reduceEq, Int.reduceLT, Int.reduceLE, Int.reduceNe, Int.reduceToNat, pks.1, pk0, pk4, pk5, ia_by0, by0, eqB1, f4, f5]
      exact ans_ret rfl
    · rw [rA_no (by have := of_decide_eq_true x2; simp [isQ, ok, k1, asks]; omega)]
      simp -implicitDefEqProofs only [sims.1, fx.1, keeps.1, tick_on, calleeK, extractV, oneV, faddrK, nonnil, b_shr, b_shl, fieldK, Nat.reduceAdd, Nat.reduceMul, Nat.reduceSub, Nat.reduceEqDiff, Nat.reduceLT, Nat.reduceLeDiff, Nat.reduceBEq, Nat.reduceBNe, reduceIte, Int.reduceEq, Int.reduceLT, Int.reduceLE, Int.reduceNe, Int.reduceToNat, pks.1, pk2, eqC4, k1, lA', d1, ia_by0, by0, ltB1, gtB2, x1, x2]
      exact ans_ret rfl
  · rw [rA_no (by have := of_decide_eq_true x1; simp [isQ, ok, k1, asks]; omega)]
    simp -implicitDefEqProofs only [sims.1, fx.1, keeps.1, tick_on, calleeK, extractV, oneV, faddrK, nonnil, b_shr, b_shl, fieldK, Nat.reduceAdd, Nat.reduceMul, Nat.reduceSub, Nat.reduceEqDiff, Nat.reduceLT, Nat.reduceLeDiff, Nat.reduceBEq, Nat.reduceBNe, reduceIte, Int.reduceEq, Int.reduceLT, Int.reduceLE, Int.reduceNe, Int.reduceToNat, pks.1, pk2, eqC4, k1, lA', d1, ia_by0, by0, ltB1, gtB2, x1]
    exact ans_ret rfl
end Go.Proofs.Ytpmbhjmlghoogaa
