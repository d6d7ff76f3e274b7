/- The reference's heads. No condition. -/
import Derived.Test.YtmbjjelbpnbmoaaNo
namespace Go.Proofs.Ytmbjjelbpnbmoaa
open Go Ab
set_option linter.unusedSimpArgs false
set_option linter.unusedVariables false
set_option maxRecDepth 20000

theorem by_bare : ∀ l : List Nat, (l.map byC).all bareL = true
  | [] => rfl
  | a :: r => by
    rw [List.map_cons, List.all_cons, by_bare r]
    rfl
theorem retB {m1 : Mem} {k q : Nat} {out : List Nat} (h : m1[k]? = some (rowB out)) (hq : q = out.length) : retOk bareL m1 (byV out) (.sl 1 k 0 q) := ret1_row h (by simp [hq]) (by_bare out)
theorem retN {m1 : Mem} : retOk bareL m1 (byV []) .nils := ret1_nil
theorem bsl2 (m : Mem) (a b : Nat) : bsliceV Try.prog 22 2 [(0, .int .u8 (a : Int)), (1, .int .u8 (b : Int))] m = some (.sl 1 m.length 0 2, m ++ [rowB [a, b]]) := by
  have h2 : Nat.ble 2 16777216 = true := by decide
  simp [bsliceV, un22, ze5, frzP, frzV, frz, h2, fillE, cellsOfV, cellsB, oneV, rowB, byC]
theorem bsl8 (m : Mem) (a b c d e f g i : Nat) : bsliceV Try.prog 22 8 [(0, .int .u8 (a : Int)), (1, .int .u8 (b : Int)), (2, .int .u8 (c : Int)), (3, .int .u8 (d : Int)), (4, .int .u8 (e : Int)), (5, .int .u8 (f : Int)), (6, .int .u8 (g : Int)), (7, .int .u8 (i : Int))] m = some (.sl 1 m.length 0 8, m ++ [rowB [a, b, c, d, e, f, g, i]]) := by
  have h2 : Nat.ble 8 16777216 = true := by decide
  simp [bsliceV, un22, ze5, frzP, frzV, frz, h2, fillE, cellsOfV, cellsB, oneV, rowB, byC]
def portsR (h : Hd) (n : Nat) : List Nat :=
  bif decide (h 6 = 6) then putB (h 7) 2 2 ++ putB (h 8) 2 2 ++ putB 0 8 8 ++ [80, 16] ++ putB 0 6 6
  else bif decide (h 6 = 17) then putB (h 7) 2 2 ++ putB (h 8) 2 2 ++ putB (8 + n) 2 2 ++ putB 0 2 2 else []
def hdR (h : Hd) (n : Nat) : List Nat := [69, 0] ++ putB (20 + n) 2 2 ++ [0, 0, 0, 0, 64, h 6 % 256, 0, 0] ++ putB (h 4) 4 4 ++ putB (h 5) 4 4
def headR (h : Hd) (n : Nat) : List Nat := setS (hdR h n) (sumR (hdR h n))
theorem hdR_len (h : Hd) (n : Nat) : (hdR h n).length = 20 := by simp [hdR, putB_len]
theorem hdR_lt (h : Hd) (n : Nat) : ∀ b ∈ hdR h n, b < 256 := by
  intro b hb
  simp only [hdR, List.mem_append, List.mem_cons, List.not_mem_nil, or_false] at hb
  rcases hb with (((hb | hb) | hb) | hb) | hb
  · omega
  · exact putB_lt _ _ _ b hb
  · omega
  · exact putB_lt _ _ _ b hb
  · exact putB_lt _ _ _ b hb
theorem set10 (x : List Nat) (s : Nat) : (x.set 10 (s / 256)).set 11 (s % 256) = setS x s := rfl
set_option maxHeartbeats 4000000 in
theorem ansB33_17 (h : Hd) (n : Nat) (hn : n < 1000000) (e2 : decide (h 6 = 17) = true) : AnsB Try.prog 33 [hdA h, .int .i64 (n : Int)] (byV (portsR h n)) := by
  refine ansB_of ?_
  refine Snd_of_W fol rfl rfl (by kernel_rfl) (by kernel_rfl) ?_
  unfold hdA
  have p1 : decide (h 6 = 6) = false := by have := of_decide_eq_true e2; simp; omega
  have p2 := e2
  have w8 : IntKind.i64.wrap (8 + (n : Int)) = ((8 + n : Nat) : Int) := by rw [IntKind.wrap_i64]; omega
  have w8u := wrapU (8 + n) (by omega)
  simp -implicitDefEqProofs only [sims.1, fx.1, keeps.1, tick_on, calleeK, extractV, oneV, faddrK, nonnil, b_shr, b_shl, fieldK, Nat.reduceAdd, Nat.reduceMul, Nat.reduceSub, Nat.reduceEqDiff, Nat.reduceLT, Nat.reduceLeDiff, Nat.reduceBEq, Nat.reduceBNe, reduceIte, Int.reduceEq, Int.reduceLT, Int.reduceLE, Int.reduceNe, Int.reduceToNat, pks.1, p1, p2, eqC5, eqC6, w8, w8u]
  refine callD_putn (x := h 7) 1 (snd42n _ 2 (by omega) (by omega)) en42 rfl (by omega) ?_
  simp -implicitDefEqProofs only [sims.1, fx.1, keeps.1, tick_on, calleeK, extractV, oneV, faddrK, nonnil, b_shr, b_shl, fieldK, Nat.reduceAdd, Nat.reduceMul, Nat.reduceSub, Nat.reduceEqDiff, Nat.reduceLT, Nat.reduceLeDiff, Nat.reduceBEq, Nat.reduceBNe, reduceIte, Int.reduceEq, Int.reduceLT, Int.reduceLE, Int.reduceNe, Int.reduceToNat, pks.1, p1, p2, eqC5, eqC6, w8, w8u]
  refine callD_put42 (x := h 8) 1 (putB (h 7) 2 2) (by simp only [nfM_cn, nfM_nil, nfB27, nfB25, nfB_row, nfB_dead, Bool.and_self]) rfl (by simp [putB_len]) rfl (by omega) (by omega) ?_
  simp -implicitDefEqProofs only [sims.1, fx.1, keeps.1, tick_on, calleeK, extractV, oneV, faddrK, nonnil, b_shr, b_shl, fieldK, Nat.reduceAdd, Nat.reduceMul, Nat.reduceSub, Nat.reduceEqDiff, Nat.reduceLT, Nat.reduceLeDiff, Nat.reduceBEq, Nat.reduceBNe, reduceIte, Int.reduceEq, Int.reduceLT, Int.reduceLE, Int.reduceNe, Int.reduceToNat, pks.1, p1, p2, eqC5, eqC6, w8, w8u]
  refine callD_put42 (x := 8 + n) 1 ((putB (h 7) 2 2) ++ putB (h 8) 2 2) (by simp only [nfM_cn, nfM_nil, nfB27, nfB25, nfB_row, nfB_dead, Bool.and_self]) rfl (by simp [putB_len]) rfl (by omega) (by omega) ?_
  simp -implicitDefEqProofs only [sims.1, fx.1, keeps.1, tick_on, calleeK, extractV, oneV, faddrK, nonnil, b_shr, b_shl, fieldK, Nat.reduceAdd, Nat.reduceMul, Nat.reduceSub, Nat.reduceEqDiff, Nat.reduceLT, Nat.reduceLeDiff, Nat.reduceBEq, Nat.reduceBNe, reduceIte, Int.reduceEq, Int.reduceLT, Int.reduceLE, Int.reduceNe, Int.reduceToNat, pks.1, p1, p2, eqC5, eqC6, w8, w8u]
  refine callD_put42 (x := 0) 1 (((putB (h 7) 2 2) ++ putB (h 8) 2 2) ++ putB (8 + n) 2 2) (by simp only [nfM_cn, nfM_nil, nfB27, nfB25, nfB_row, nfB_dead, Bool.and_self]) rfl (by simp [putB_len]) rfl (by omega) (by omega) ?_
  simp -implicitDefEqProofs only [sims.1, fx.1, keeps.1, tick_on, calleeK, extractV, oneV, faddrK, nonnil, b_shr, b_shl, fieldK, Nat.reduceAdd, Nat.reduceMul, Nat.reduceSub, Nat.reduceEqDiff, Nat.reduceLT, Nat.reduceLeDiff, Nat.reduceBEq, Nat.reduceBNe, reduceIte, Int.reduceEq, Int.reduceLT, Int.reduceLE, Int.reduceNe, Int.reduceToNat, pks.1, p1, p2, eqC5, eqC6, w8, w8u]
  have e : portsR h n = ((((putB (h 7) 2 2) ++ putB (h 8) 2 2) ++ putB (8 + n) 2 2) ++ putB 0 2 2) := by simp only [portsR, p1, p2, cond_true, cond_false]
  rw [e]
  exact ⟨_, _, rfl, retB rfl (by simp [putB_len])⟩
set_option maxHeartbeats 4000000 in
theorem ansB33_6 (h : Hd) (n : Nat) (hn : n < 1000000) (e1 : decide (h 6 = 6) = true) : AnsB Try.prog 33 [hdA h, .int .i64 (n : Int)] (byV (portsR h n)) := by
  refine ansB_of ?_
  refine Snd_of_W fol rfl rfl (by kernel_rfl) (by kernel_rfl) ?_
  unfold hdA
  have p1 := e1
  have p2 : decide (h 6 = 17) = false := by have := of_decide_eq_true e1; simp; omega
  have w8 : IntKind.i64.wrap (8 + (n : Int)) = ((8 + n : Nat) : Int) := by rw [IntKind.wrap_i64]; omega
  have w8u := wrapU (8 + n) (by omega)
  simp -implicitDefEqProofs only [sims.1, fx.1, keeps.1, tick_on, calleeK, extractV, oneV, faddrK, nonnil, b_shr, b_shl, fieldK, Nat.reduceAdd, Nat.reduceMul, Nat.reduceSub, Nat.reduceEqDiff, Nat.reduceLT, Nat.reduceLeDiff, Nat.reduceBEq, Nat.reduceBNe, reduceIte, Int.reduceEq, Int.reduceLT, Int.reduceLE, Int.reduceNe, Int.reduceToNat, pks.1, p1, p2, eqC5, eqC6, w8, w8u]
  refine callD_putn (x := h 7) 1 (snd42n _ 2 (by omega) (by omega)) en42 rfl (by omega) ?_
  simp -implicitDefEqProofs only [sims.1, fx.1, keeps.1, tick_on, calleeK, extractV, oneV, faddrK, nonnil, b_shr, b_shl, fieldK, Nat.reduceAdd, Nat.reduceMul, Nat.reduceSub, Nat.reduceEqDiff, Nat.reduceLT, Nat.reduceLeDiff, Nat.reduceBEq, Nat.reduceBNe, reduceIte, Int.reduceEq, Int.reduceLT, Int.reduceLE, Int.reduceNe, Int.reduceToNat, pks.1, p1, p2, eqC5, eqC6, w8, w8u]
  refine callD_put42 (x := h 8) 1 (putB (h 7) 2 2) (by simp only [nfM_cn, nfM_nil, nfB27, nfB25, nfB_row, nfB_dead, Bool.and_self]) rfl (by simp [putB_len]) rfl (by omega) (by omega) ?_
  simp -implicitDefEqProofs only [sims.1, fx.1, keeps.1, tick_on, calleeK, extractV, oneV, faddrK, nonnil, b_shr, b_shl, fieldK, Nat.reduceAdd, Nat.reduceMul, Nat.reduceSub, Nat.reduceEqDiff, Nat.reduceLT, Nat.reduceLeDiff, Nat.reduceBEq, Nat.reduceBNe, reduceIte, Int.reduceEq, Int.reduceLT, Int.reduceLE, Int.reduceNe, Int.reduceToNat, pks.1, p1, p2, eqC5, eqC6, w8, w8u]
  refine callD_put42 (x := 0) 7 ((putB (h 7) 2 2) ++ putB (h 8) 2 2) (by simp only [nfM_cn, nfM_nil, nfB27, nfB25, nfB_row, nfB_dead, Bool.and_self]) rfl (by simp [putB_len]) rfl (by omega) (by omega) ?_
  simp -implicitDefEqProofs only [sims.1, fx.1, keeps.1, tick_on, calleeK, extractV, oneV, faddrK, nonnil, b_shr, b_shl, fieldK, Nat.reduceAdd, Nat.reduceMul, Nat.reduceSub, Nat.reduceEqDiff, Nat.reduceLT, Nat.reduceLeDiff, Nat.reduceBEq, Nat.reduceBNe, reduceIte, Int.reduceEq, Int.reduceLT, Int.reduceLE, Int.reduceNe, Int.reduceToNat, pks.1, p1, p2, eqC5, eqC6, w8, w8u]
  refine bindO_some' (bsl2 _ 80 16) ?_
  simp -implicitDefEqProofs only [sims.1, fx.1, keeps.1, tick_on, calleeK, extractV, oneV, faddrK, nonnil, b_shr, b_shl, fieldK, Nat.reduceAdd, Nat.reduceMul, Nat.reduceSub, Nat.reduceEqDiff, Nat.reduceLT, Nat.reduceLeDiff, Nat.reduceBEq, Nat.reduceBNe, reduceIte, Int.reduceEq, Int.reduceLT, Int.reduceLE, Int.reduceNe, Int.reduceToNat, pks.1, p1, p2, eqC5, eqC6, w8, w8u]
  refine bindO_some' (apB (((putB (h 7) 2 2) ++ putB (h 8) 2 2) ++ putB 0 8 8) [80, 16] (ct_row rfl rfl) rfl (by simp [putB_len]) (by omega) (by simp)) ?_
  simp -implicitDefEqProofs only [sims.1, fx.1, keeps.1, tick_on, calleeK, extractV, oneV, faddrK, nonnil, b_shr, b_shl, fieldK, Nat.reduceAdd, Nat.reduceMul, Nat.reduceSub, Nat.reduceEqDiff, Nat.reduceLT, Nat.reduceLeDiff, Nat.reduceBEq, Nat.reduceBNe, reduceIte, Int.reduceEq, Int.reduceLT, Int.reduceLE, Int.reduceNe, Int.reduceToNat, pks.1, p1, p2, eqC5, eqC6, w8, w8u]
  refine callD_put42 (x := 0) 5 ((((putB (h 7) 2 2) ++ putB (h 8) 2 2) ++ putB 0 8 8) ++ [80, 16]) (by simp only [nfM_cn, nfM_nil, nfB27, nfB25, nfB_row, nfB_dead, Bool.and_self]) rfl (by simp [putB_len]) rfl (by omega) (by omega) ?_
  simp -implicitDefEqProofs only [sims.1, fx.1, keeps.1, tick_on, calleeK, extractV, oneV, faddrK, nonnil, b_shr, b_shl, fieldK, Nat.reduceAdd, Nat.reduceMul, Nat.reduceSub, Nat.reduceEqDiff, Nat.reduceLT, Nat.reduceLeDiff, Nat.reduceBEq, Nat.reduceBNe, reduceIte, Int.reduceEq, Int.reduceLT, Int.reduceLE, Int.reduceNe, Int.reduceToNat, pks.1, p1, p2, eqC5, eqC6, w8, w8u]
  have e : portsR h n = (((((putB (h 7) 2 2) ++ putB (h 8) 2 2) ++ putB 0 8 8) ++ [80, 16]) ++ putB 0 6 6) := by simp only [portsR, p1, p2, cond_true, cond_false]
  rw [e]
  exact ⟨_, _, rfl, retB rfl (by simp [putB_len])⟩
set_option maxHeartbeats 4000000 in
theorem ansB33_0 (h : Hd) (n : Nat) (hn : n < 1000000) (p1 : decide (h 6 = 6) = false) (p2 : decide (h 6 = 17) = false) : AnsB Try.prog 33 [hdA h, .int .i64 (n : Int)] (byV (portsR h n)) := by
  refine ansB_of ?_
  refine Snd_of_W fol rfl rfl (by kernel_rfl) (by kernel_rfl) ?_
  unfold hdA
  have w8 : IntKind.i64.wrap (8 + (n : Int)) = ((8 + n : Nat) : Int) := by rw [IntKind.wrap_i64]; omega
  have w8u := wrapU (8 + n) (by omega)
  simp -implicitDefEqProofs only [sims.1, fx.1, keeps.1, tick_on, calleeK, extractV, oneV, faddrK, nonnil, b_shr, b_shl, fieldK, Nat.reduceAdd, Nat.reduceMul, Nat.reduceSub, Nat.reduceEqDiff, Nat.reduceLT, Nat.reduceLeDiff, Nat.reduceBEq, Nat.reduceBNe, reduceIte, Int.reduceEq, Int.reduceLT, Int.reduceLE, Int.reduceNe, Int.reduceToNat, pks.1, p1, p2, eqC5, eqC6, w8, w8u]
  have e : portsR h n = [] := by simp only [portsR, p1, p2, cond_true, cond_false]
  rw [e]
  exact ⟨_, _, rfl, retN⟩
theorem ans33 (h : Hd) (n : Nat) (hn : n < 1000000) : Ans Try.prog 33 [hdA h, .int .i64 (n : Int)] (byV (portsR h n)) := by
  have hx : nfs [hdA h, .int .i64 (n : Int)] = true := by simp only [nfs, nf_hdA, nf, Bool.and_self]
  cases p1 : decide (h 6 = 6)
  · cases p2 : decide (h 6 = 17)
    · exact (ansB33_0 h n hn p1 p2).ans hx (nf_by _)
    · exact (ansB33_17 h n hn p2).ans hx (nf_by _)
  · exact (ansB33_6 h n hn p1).ans hx (nf_by _)
set_option maxHeartbeats 4000000 in
theorem ansB43 (h : Hd) (n : Nat) (hn : n < 1000000) : AnsB Try.prog 43 [hdA h, .int .i64 (n : Int)] (byV (headR h n)) := by
  refine ansB_of ?_
  refine Snd_of_W fol rfl rfl (by kernel_rfl) (by kernel_rfl) ?_
  unfold hdA
  have w20 : IntKind.i64.wrap (20 + (n : Int)) = ((20 + n : Nat) : Int) := by rw [IntKind.wrap_i64]; omega
  have w20u := wrapU (20 + n) (by omega)
  have u6 := u8lo (h 6)
  have bs8 : ∀ m, bsliceV Try.prog 22 8 [(0, .int .u8 0), (1, .int .u8 0), (2, .int .u8 0), (3, .int .u8 0), (4, .int .u8 64), (5, .int .u8 ((h 6 % 256 : Nat) : Int)), (6, .int .u8 0), (7, .int .u8 0)] m = some (.sl 1 m.length 0 8, m ++ [rowB [0, 0, 0, 0, 64, h 6 % 256, 0, 0]]) := fun m => bsl8 m 0 0 0 0 64 (h 6 % 256) 0 0
  simp -implicitDefEqProofs only [sims.1, fx.1, keeps.1, tick_on, calleeK, extractV, oneV, faddrK, nonnil, b_shr, b_shl, fieldK, Nat.reduceAdd, Nat.reduceMul, Nat.reduceSub, Nat.reduceEqDiff, Nat.reduceLT, Nat.reduceLeDiff, Nat.reduceBEq, Nat.reduceBNe, reduceIte, Int.reduceEq, Int.reduceLT, Int.reduceLE, Int.reduceNe, Int.reduceToNat, pks.1, w20, w20u, u6, bs8]
  refine bindO_some' (bsl2 _ 69 0) ?_
  simp -implicitDefEqProofs only [sims.1, fx.1, keeps.1, tick_on, calleeK, extractV, oneV, faddrK, nonnil, b_shr, b_shl, fieldK, Nat.reduceAdd, Nat.reduceMul, Nat.reduceSub, Nat.reduceEqDiff, Nat.reduceLT, Nat.reduceLeDiff, Nat.reduceBEq, Nat.reduceBNe, reduceIte, Int.reduceEq, Int.reduceLT, Int.reduceLE, Int.reduceNe, Int.reduceToNat, pks.1, w20, w20u, u6, bs8]
  refine callD_put42 (x := 20 + n) 1 [69, 0] (by simp only [nfM_cn, nfM_nil, nfB27, nfB25, nfB_row, nfB_dead, Bool.and_self]) rfl (by simp [putB_len]) rfl (by omega) (by omega) ?_
  simp -implicitDefEqProofs only [sims.1, fx.1, keeps.1, tick_on, calleeK, extractV, oneV, faddrK, nonnil, b_shr, b_shl, fieldK, Nat.reduceAdd, Nat.reduceMul, Nat.reduceSub, Nat.reduceEqDiff, Nat.reduceLT, Nat.reduceLeDiff, Nat.reduceBEq, Nat.reduceBNe, reduceIte, Int.reduceEq, Int.reduceLT, Int.reduceLE, Int.reduceNe, Int.reduceToNat, pks.1, w20, w20u, u6, bs8]
  have ap1 := apB (m := [.var 25 (hdC h), .dead, rowB (69 :: 0 :: putB (20 + n) 2 2), rowB [0, 0, 0, 0, 64, h 6 % 256, 0, 0]]) (n := 2) (q := 4) (69 :: 0 :: putB (20 + n) 2 2) [0, 0, 0, 0, 64, h 6 % 256, 0, 0] (ct_row (n := 3) (q := 8) rfl rfl) rfl (by simp [putB_len]) (by omega) (by simp)
  rw [ap1]
  simp -implicitDefEqProofs only [sims.1, fx.1, keeps.1, tick_on, calleeK, extractV, oneV, faddrK, nonnil, b_shr, b_shl, fieldK, Nat.reduceAdd, Nat.reduceMul, Nat.reduceSub, Nat.reduceEqDiff, Nat.reduceLT, Nat.reduceLeDiff, Nat.reduceBEq, Nat.reduceBNe, reduceIte, Int.reduceEq, Int.reduceLT, Int.reduceLE, Int.reduceNe, Int.reduceToNat, pks.1, w20, w20u, u6, bs8]
  refine callD_put42 (x := h 4) 3 (([69, 0] ++ putB (20 + n) 2 2) ++ [0, 0, 0, 0, 64, h 6 % 256, 0, 0]) (by simp only [nfM_cn, nfM_nil, nfB27, nfB25, nfB_row, nfB_dead, Bool.and_self]) rfl (by simp [putB_len]) rfl (by omega) (by omega) ?_
  simp -implicitDefEqProofs only [sims.1, fx.1, keeps.1, tick_on, calleeK, extractV, oneV, faddrK, nonnil, b_shr, b_shl, fieldK, Nat.reduceAdd, Nat.reduceMul, Nat.reduceSub, Nat.reduceEqDiff, Nat.reduceLT, Nat.reduceLeDiff, Nat.reduceBEq, Nat.reduceBNe, reduceIte, Int.reduceEq, Int.reduceLT, Int.reduceLE, Int.reduceNe, Int.reduceToNat, pks.1, w20, w20u, u6, bs8]
  refine callD_put42 (x := h 5) 3 ((([69, 0] ++ putB (20 + n) 2 2) ++ [0, 0, 0, 0, 64, h 6 % 256, 0, 0]) ++ putB (h 4) 4 4) (by simp only [nfM_cn, nfM_nil, nfB27, nfB25, nfB_row, nfB_dead, Bool.and_self]) rfl (by simp [putB_len]) rfl (by omega) (by omega) ?_
  rw [show (((([69, 0] ++ putB (20 + n) 2 2) ++ [0, 0, 0, 0, 64, h 6 % 256, 0, 0]) ++ putB (h 4) 4 4) ++ putB (h 5) 4 4) = [] ++ hdR h n by unfold hdR; rw [List.nil_append]]
  simp -implicitDefEqProofs only [sims.1, fx.1, keeps.1, tick_on, calleeK, extractV, oneV, faddrK, nonnil, b_shr, b_shl, fieldK, Nat.reduceAdd, Nat.reduceMul, Nat.reduceSub, Nat.reduceEqDiff, Nat.reduceLT, Nat.reduceLeDiff, Nat.reduceBEq, Nat.reduceBNe, reduceIte, Int.reduceEq, Int.reduceLT, Int.reduceLE, Int.reduceNe, Int.reduceToNat, pks.1, w20, w20u, u6, bs8]
  refine callD_sum [] (hdR h n) ans16 en16 (by simp only [nfM_cn, nfM_nil, nfB27, nfB25, nfB_row, nfB_dead, Bool.and_self]) rfl (by rw [hdR_len]) (hdR_lt _ _) (by rw [hdR_len]; omega) ?_
  unfold headR
  generalize hX : hdR h n = X
  have hXl : X.length = 20 := by rw [← hX]; exact hdR_len _ _
  have hs := sumR_lt X
  generalize hS : sumR X = s at hs
  have vh := u8hi s hs
  have vl := u8lo s
  have ih : ∀ n kk, iaddrS 1 (.sl 1 n 0 20) (.int kk 10) = some (.ep 1 n 10 0) := fun n kk => ia_at (j := 10) (by omega)
  have il : ∀ n kk, iaddrS 1 (.sl 1 n 0 20) (.int kk 11) = some (.ep 1 n 11 0) := fun n kk => ia_at (j := 11) (by omega)
  simp -implicitDefEqProofs only [sims.1, fx.1, keeps.1, tick_on, calleeK, extractV, oneV, faddrK, nonnil, b_shr, b_shl, fieldK, Nat.reduceAdd, Nat.reduceMul, Nat.reduceSub, Nat.reduceEqDiff, Nat.reduceLT, Nat.reduceLeDiff, Nat.reduceBEq, Nat.reduceBNe, reduceIte, Int.reduceEq, Int.reduceLT, Int.reduceLE, Int.reduceNe, Int.reduceToNat, pks.1, w20, w20u, u6, bs8, ih, il, vh, vl]
  refine bindO_some' (stB rfl (by simp [hXl])) ?_
  simp -implicitDefEqProofs only [sims.1, fx.1, keeps.1, tick_on, calleeK, extractV, oneV, faddrK, nonnil, b_shr, b_shl, fieldK, Nat.reduceAdd, Nat.reduceMul, Nat.reduceSub, Nat.reduceEqDiff, Nat.reduceLT, Nat.reduceLeDiff, Nat.reduceBEq, Nat.reduceBNe, reduceIte, Int.reduceEq, Int.reduceLT, Int.reduceLE, Int.reduceNe, Int.reduceToNat, pks.1, w20, w20u, u6, bs8, ih, il, vh, vl]
  refine bindO_some' (stB rfl (by simp [hXl])) ?_
  rw [set10]
  simp -implicitDefEqProofs only [sims.1, fx.1, keeps.1, tick_on, calleeK, extractV, oneV, faddrK, nonnil, b_shr, b_shl, fieldK, Nat.reduceAdd, Nat.reduceMul, Nat.reduceSub, Nat.reduceEqDiff, Nat.reduceLT, Nat.reduceLeDiff, Nat.reduceBEq, Nat.reduceBNe, reduceIte, Int.reduceEq, Int.reduceLT, Int.reduceLE, Int.reduceNe, Int.reduceToNat, pks.1, w20, w20u, u6, bs8]
  exact ⟨_, _, rfl, retB rfl (by simp [setS_len, hXl])⟩
theorem ans43 (h : Hd) (n : Nat) (hn : n < 1000000) : Ans Try.prog 43 [hdA h, .int .i64 (n : Int)] (byV (headR h n)) := (ansB43 h n hn).ans (by simp only [nfs, nf_hdA, nf, Bool.and_self]) (nf_by _)
end Go.Proofs.Ytmbjjelbpnbmoaa
