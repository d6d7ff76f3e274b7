/- The bytes of IPv4. No condition. -/
import Derived.Test.YtpmbhjmlghoogaaNm
namespace Go.Proofs.Ytpmbhjmlghoogaa
open Go Ab
set_option linter.unusedSimpArgs false
set_option linter.unusedVariables false
set_option maxRecDepth 20000

/-- What is put behind bytes. -/
theorem ct_by {m : Mem} {c : List Nat} : contV m 1 (byV c) = some (c.map byC) := cont_isl
theorem ct_row {m : Mem} {n q : Nat} {c : List Nat} (h : m[n]? = some (rowB c)) (hq : c.length = q) : contV m 1 (.sl 1 n 0 q) = some (c.map byC) := cont_row h (by simp [hq])
theorem ct_nil {m : Mem} : contV m 1 .nils = some (([] : List Nat).map byC) := rfl
theorem apB {m : Mem} {n q : Nat} {x : V} (l c : List Nat) (hx : contV m 1 x = some (c.map byC)) (hm : m[n]? = some (rowB l)) (hq : l.length = q) (h1 : q ≤ 4096) (h2 : c.length < 140737488351233) :
    appendA Try.prog 31 31 (.sl 1 n 0 q) x m = some (.sl 1 m.length 0 (q + c.length), m.set n .dead ++ [rowB (l ++ c)]) := by
  subst hq
  have := append_sl (len := l.length) un22 ze5 sl22 hx hm (by simp) (by simp; omega) (by simp; omega)
  simpa [rowB] using this
theorem apN {m : Mem} {x : V} (c : List Nat) (hx : contV m 1 x = some (c.map byC)) (h0 : c ≠ []) (h2 : c.length < 140737488351233) :
    appendA Try.prog 31 31 .nils x m = some (.sl 1 m.length 0 c.length, m ++ [rowB c]) := by
  have := append_nil (m := m) un22 ze5 sl22 hx (by simpa using h0) (by simp; omega) (by simp; omega)
  simpa [rowB] using this
theorem stB {m : Mem} {n i : Nat} {l : List Nat} {v : Nat} (hm : m[n]? = some (rowB l)) (hi : i < l.length) : storeK 1 m (.ep 1 n i 0) (.int .u8 (v : Int)) = some (m.set n (rowB (l.set i v))) := by
  have h1 : (l.map byC)[i]? = some (byC l[i]) := by simp [hi]
  have h2 : cellsB (.int .u8 (v : Int)) = true := rfl
  simp only [storeK, cellsOfV, List.length_singleton, h2, and_self, if_true, hm, rowB, h1]
  simp [byC, splice, rowB, List.map_set]
theorem sl_row (n q a : Nat) (h : a ≤ q) : sliceV Try.prog 31 (.sl 1 n 0 q) (some (.int .i64 (a : Int))) none = some (.sl 1 n a (q - a)) := by
  obtain ⟨i, h1, h2⟩ := in5
  simp only [sliceV, un22, h1, h2, bndV]
  simp only [show Nat.beq 1 1 = true from rfl, cond_true]
  rw [if_pos ⟨by omega, by omega, by omega⟩]
  simp
theorem lend_at {m : Mem} {n a k : Nat} {l : List Nat} (hm : m[n]? = some (rowB l)) (h : a + k = l.length) : lendV m (.sl 1 n a k) = byV (l.drop a) := by
  have : (Nat.beq 1 1 && Nat.ble (a + k) (l.map byC).length) = true := by simp; omega
  simp only [lendV, lend1, hm, rowB, this, cond_true, byV]
  rw [← List.map_drop, List.take_of_length_le (by simp; omega)]
theorem callD_sum {f : FuncId} {m : Mem} {K Kp : V → Mem → Prop} {n k : Nat} (l x : List Nat) (hs : ∀ l : List Nat, (∀ b ∈ l, b < 256) → l.length < 281474976710656 → Ans Try.prog f [byV l] (.int .u16 (sumR l : Int))) (he : enterable Try.prog f = true) (hm : nfM m = true) (hn : m[n]? = some (rowB (l ++ x))) (h : k = x.length) (hb : ∀ b ∈ x, b < 256) (hl : x.length < 1000000)
    (hk : K (.int .u16 (sumR x : Int)) m) : callD Try.prog f [.sl 1 n l.length k] m K Kp := by
  have hlt : n < m.length := (List.getElem?_eq_some_iff.1 hn).1
  refine callD_lendB [n] [byV x] ((hs x hb (by omega)).bareB rfl) he (by simp [nfs, nf_by]) rfl hm (roots_flat1 (m := []) rfl rfl) (by simp [nodupB, hlt]) (by simp [nmss, nms]) ?_ hk
  simp only [List.map_cons, List.map_nil, lend_at hn (show l.length + k = (l ++ x).length by simp [h]), List.drop_left]
def setS (x : List Nat) (s : Nat) : List Nat := (x.set 10 (s / 256)).set 11 (s % 256)
theorem set_set (l x : List Nat) (s i j : Nat) (hi : i = l.length + 10) (hj : j = l.length + 11) : ((l ++ x).set i (s / 256)).set j (s % 256) = l ++ setS x s := by
  subst hi hj
  rw [List.set_append_right _ _ (by omega), List.set_append_right _ _ (by omega)]
  simp [setS]
theorem ia_at {n q j : Nat} {k : IntKind} (h : j < q) : iaddrS 1 (.sl 1 n 0 q) (.int k (j : Int)) = some (.ep 1 n j 0) := by
  rw [iaddrS_sl h, Nat.zero_add]
theorem u8hi (s : Nat) (h : s < 65536) : IntKind.u8.wrap ((s : Int).fdiv (2 ^ (min 8 IntKind.u16.bits))) = ((s / 256 : Nat) : Int) := by
  have : (2 : Int) ^ (min 8 IntKind.u16.bits) = 256 := by decide
  rw [this, Int.fdiv_eq_ediv_of_nonneg _ (by omega), IntKind.wrap_u8]
  omega
theorem u8lo (s : Nat) : IntKind.u8.wrap (s : Int) = ((s % 256 : Nat) : Int) := by rw [IntKind.wrap_u8]; omega
theorem shlK (x k : Nat) (hk : k < 64) (h : x * 2 ^ k < 18446744073709551616) : IntKind.u64.wrap ((x : Int) * 2 ^ (min k IntKind.u64.bits)) = ((x * 2 ^ k : Nat) : Int) := by
  have : min k IntKind.u64.bits = k := by simp [IntKind.bits]; omega
  rw [this]
  have e : (x : Int) * 2 ^ k = ((x * 2 ^ k : Nat) : Int) := by simp
  rw [e]
  exact wrapU _ h
theorem sumR_lt (l : List Nat) : sumR l < 65536 := by unfold sumR; omega
def portsB (h : Hd) (n : Nat) : List Nat :=
  bif decide (h 6 = 6) then putB (h 7 * 2 ^ 16 + h 8) 4 4 ++ putB 0 8 8 ++ putB 20496 2 2 ++ putB 0 6 6
  else bif decide (h 6 = 17) then putB (h 7 * 2 ^ 16 + h 8) 4 4 ++ putB ((8 + n) * 2 ^ 16) 4 4 else []
def headB (h : Hd) (t : Nat) : List Nat := putB (1157627904 + t % 65536) 4 4 ++ (putB 0 4 4 ++ (putB (1073741824 + h 6 * 2 ^ 16) 4 4 ++ putB (h 4 * 2 ^ 32 + h 5) 8 8))
def inetB (h : Hd) (b : List Nat) : List Nat :=
  setS (headB h (20 + (portsB h b.length).length + b.length)) (sumR (headB h (20 + (portsB h b.length).length + b.length))) ++ (portsB h b.length ++ b)
theorem headB_len (h : Hd) (t : Nat) : (headB h t).length = 20 := by simp [headB, putB_len]
theorem headB_lt (h : Hd) (t : Nat) : ∀ b ∈ headB h t, b < 256 := by
  intro b hb
  simp only [headB, List.mem_append] at hb
  rcases hb with hb | hb | hb | hb <;> exact putB_lt _ _ _ b hb
theorem setS_len (x : List Nat) (s : Nat) : (setS x s).length = x.length := by simp [setS]
/-- What internet ends with. -/
def EndB (out : List Nat) (q : CR) : Prop := ∃ m1 k, q = .ret (.sl 1 (k + 1) 0 out.length) (.dead :: m1) ∧ nfM m1 = true ∧ m1[k]? = some (rowB out)
theorem endB_of {out : List Nat} {m1 : Mem} {k q : Nat} (hq : q = out.length) (hm : nfM m1 = true) (hk : m1[k]? = some (rowB out)) : EndB out (.ret (.sl 1 (k + 1) 0 q) (.dead :: m1)) := by subst hq; exact ⟨m1, k, rfl, hm, hk⟩
set_option maxHeartbeats 4000000 in
theorem snd38_17 (l : List Nat) (h : Hd) (b : List Nat) (hl : l.length < 2000) (hb : b.length < 2000) (h4 : h 4 < 4294967296) (h5 : h 5 < 4294967296) (h6 : h 6 < 256) (h7 : h 7 < 65536) (h8 : h 8 < 65536) (e2 : decide (h 6 = 17) = true) : Snd Try.prog 52 [.sl 1 0 0 l.length, pkA h b] [rowB l] (EndB (l ++ inetB h b)) := by
  refine Snd_of_W fol rfl rfl (by kernel_rfl) (by kernel_rfl) ?_
  unfold pkA
  have p1 : decide (h 6 = 6) = false := by have := of_decide_eq_true e2; simp; omega
  have p2 := e2
  have s1 := shlK (h 7) 16 (by omega) (by omega)
  have o1 := or64 (h 7 * 2 ^ 16) (h 8) 16 (by omega) (by omega) (by omega) (by omega)
  have lA : ∀ m, lenV Try.prog m 31 (byV b) = some (.int .i64 (b.length : Int)) := fun m => len_by _ _
  have w8 : IntKind.i64.wrap (8 + (b.length : Int)) = ((8 + b.length : Nat) : Int) := by rw [IntKind.wrap_i64]; omega
  have w8u := wrapU (8 + b.length) (by omega)
  have s8 := shlK (8 + b.length) 16 (by omega) (by omega)
  have c1 : IntKind.i64.wrap (20 + ((8 : Nat) : Int)) = ((28 : Nat) : Int) := by kernel_rfl
  have c2 : IntKind.i64.wrap (20 + (8 : Int)) = ((28 : Nat) : Int) := by kernel_rfl
  have wt : IntKind.i64.wrap (((28 : Nat) : Int) + (b.length : Int)) = ((20 + 8 + b.length : Nat) : Int) := by rw [IntKind.wrap_i64]; omega
  have wU := wrapU (28 + b.length) (by omega)
  have aA := and16 (28 + b.length) (by omega)
  have oT : bits .or .u64 1157627904 (((28 + b.length) % 65536 : Nat) : Int) = ((1157627904 + (28 + b.length) % 65536 : Nat) : Int) := or64 1157627904 ((28 + b.length) % 65536) 16 (by decide) (by omega) (by omega) (by omega)
  have sP := shlK (h 6) 16 (by omega) (by omega)
  have oP : bits .or .u64 1073741824 ((h 6 * 2 ^ 16 : Nat) : Int) = ((1073741824 + h 6 * 2 ^ 16 : Nat) : Int) := or64 1073741824 (h 6 * 2 ^ 16) 24 (by decide) (by omega) (by omega) (by omega)
  have sF := shlK (h 4) 32 (by omega) (by omega)
  have oF := or64 (h 4 * 2 ^ 32) (h 5) 32 (by omega) (by omega) (by omega) (by omega)
  have c3 : IntKind.i64.wrap ((l.length : Int) + 10) = ((l.length + 10 : Nat) : Int) := by rw [IntKind.wrap_i64]; omega
  have c4 : IntKind.i64.wrap ((l.length : Int) + 11) = ((l.length + 11 : Nat) : Int) := by rw [IntKind.wrap_i64]; omega
  simp -implicitDefEqProofs only [sims.1, fx.1, keeps.1, tick_on, calleeK, extractV, oneV, faddrK, nonnil, b_shr, b_shl, fieldK, Nat.reduceAdd, Nat.reduceMul, Nat.reduceSub, Nat.reduceEqDiff, Nat.reduceLT, Nat.reduceLeDiff, Nat.reduceBEq, Nat.reduceBNe, reduceIte, Int.reduceEq, Int.reduceLT, Int.reduceLE, Int.reduceNe, Int.reduceToNat, pks.1, p1, p2, c1, c2, c3, c4, eqC5, eqC6, s1, o1, lA, wU, aA, oT, sP, oP, sF, oF, wt, w8, w8u, s8]
  refine callD_putn (x := h 7 * 2 ^ 16 + h 8) 3 (snd36n _ 4 (by omega) (by omega)) en50 rfl (by omega) ?_
  simp -implicitDefEqProofs only [sims.1, fx.1, keeps.1, tick_on, calleeK, extractV, oneV, faddrK, nonnil, b_shr, b_shl, fieldK, Nat.reduceAdd, Nat.reduceMul, Nat.reduceSub, Nat.reduceEqDiff, Nat.reduceLT, Nat.reduceLeDiff, Nat.reduceBEq, Nat.reduceBNe, reduceIte, Int.reduceEq, Int.reduceLT, Int.reduceLE, Int.reduceNe, Int.reduceToNat, pks.1, p1, p2, c1, c2, c3, c4, eqC5, eqC6, s1, o1, lA, wU, aA, oT, sP, oP, sF, oF, wt, w8, w8u, s8]
  refine callD_put36  3 (putB (h 7 * 2 ^ 16 + h 8) 4 4) (by simp only [nfM_cn, nfM_nil, nfB27, nfB25, nfB_row, nfB_dead, Bool.and_self]) rfl (by simp [putB_len]) rfl (by omega) (by omega) ?_
  simp -implicitDefEqProofs only [sims.1, fx.1, keeps.1, tick_on, calleeK, extractV, oneV, faddrK, nonnil, b_shr, b_shl, fieldK, Nat.reduceAdd, Nat.reduceMul, Nat.reduceSub, Nat.reduceEqDiff, Nat.reduceLT, Nat.reduceLeDiff, Nat.reduceBEq, Nat.reduceBNe, reduceIte, Int.reduceEq, Int.reduceLT, Int.reduceLE, Int.reduceNe, Int.reduceToNat, pks.1, p1, p2, c1, c2, c3, c4, eqC5, eqC6, s1, o1, lA, wU, aA, oT, sP, oP, sF, oF, wt, w8, w8u, s8]
  refine callD_put36  3 l (by simp only [nfM_cn, nfM_nil, nfB27, nfB25, nfB_row, nfB_dead, Bool.and_self]) rfl (by simp [putB_len]) rfl (by omega) (by omega) ?_
  simp -implicitDefEqProofs only [sims.1, fx.1, keeps.1, tick_on, calleeK, extractV, oneV, faddrK, nonnil, b_shr, b_shl, fieldK, Nat.reduceAdd, Nat.reduceMul, Nat.reduceSub, Nat.reduceEqDiff, Nat.reduceLT, Nat.reduceLeDiff, Nat.reduceBEq, Nat.reduceBNe, reduceIte, Int.reduceEq, Int.reduceLT, Int.reduceLE, Int.reduceNe, Int.reduceToNat, pks.1, p1, p2, c1, c2, c3, c4, eqC5, eqC6, s1, o1, lA, wU, aA, oT, sP, oP, sF, oF, wt, w8, w8u, s8]
  refine callD_put36 (x := 0) 3 (l ++ putB (1157627904 + (28 + b.length) % 65536) 4 4) (by simp only [nfM_cn, nfM_nil, nfB27, nfB25, nfB_row, nfB_dead, Bool.and_self]) rfl (by simp [putB_len]) rfl (by omega) (by omega) ?_
  simp -implicitDefEqProofs only [sims.1, fx.1, keeps.1, tick_on, calleeK, extractV, oneV, faddrK, nonnil, b_shr, b_shl, fieldK, Nat.reduceAdd, Nat.reduceMul, Nat.reduceSub, Nat.reduceEqDiff, Nat.reduceLT, Nat.reduceLeDiff, Nat.reduceBEq, Nat.reduceBNe, reduceIte, Int.reduceEq, Int.reduceLT, Int.reduceLE, Int.reduceNe, Int.reduceToNat, pks.1, p1, p2, c1, c2, c3, c4, eqC5, eqC6, s1, o1, lA, wU, aA, oT, sP, oP, sF, oF, wt, w8, w8u, s8]
  refine callD_put36  3 ((l ++ putB (1157627904 + (28 + b.length) % 65536) 4 4) ++ putB 0 4 4) (by simp only [nfM_cn, nfM_nil, nfB27, nfB25, nfB_row, nfB_dead, Bool.and_self]) rfl (by simp [putB_len]) rfl (by omega) (by omega) ?_
  simp -implicitDefEqProofs only [sims.1, fx.1, keeps.1, tick_on, calleeK, extractV, oneV, faddrK, nonnil, b_shr, b_shl, fieldK, Nat.reduceAdd, Nat.reduceMul, Nat.reduceSub, Nat.reduceEqDiff, Nat.reduceLT, Nat.reduceLeDiff, Nat.reduceBEq, Nat.reduceBNe, reduceIte, Int.reduceEq, Int.reduceLT, Int.reduceLE, Int.reduceNe, Int.reduceToNat, pks.1, p1, p2, c1, c2, c3, c4, eqC5, eqC6, s1, o1, lA, wU, aA, oT, sP, oP, sF, oF, wt, w8, w8u, s8]
  refine callD_put36  7 (((l ++ putB (1157627904 + (28 + b.length) % 65536) 4 4) ++ putB 0 4 4) ++ putB (1073741824 + h 6 * 2 ^ 16) 4 4) (by simp only [nfM_cn, nfM_nil, nfB27, nfB25, nfB_row, nfB_dead, Bool.and_self]) rfl (by simp [putB_len]) rfl (by omega) (by omega) ?_
  rw [show ((((l ++ putB (1157627904 + (28 + b.length) % 65536) 4 4) ++ putB 0 4 4) ++ putB (1073741824 + h 6 * 2 ^ 16) 4 4) ++ putB (h 4 * 2 ^ 32 + h 5) 8 8) = l ++ headB h (28 + b.length) by simp only [headB, List.append_assoc]]
  have sR : ∀ n, sliceV Try.prog 31 (.sl 1 n 0 (l.length + 4 + 4 + 4 + 8)) (some (.int .i64 (l.length : Int))) none = some (.sl 1 n l.length 20) := fun n => by rw [sl_row _ _ _ (by omega)]; congr 2; omega
  simp -implicitDefEqProofs only [sims.1, fx.1, keeps.1, tick_on, calleeK, extractV, oneV, faddrK, nonnil, b_shr, b_shl, fieldK, Nat.reduceAdd, Nat.reduceMul, Nat.reduceSub, Nat.reduceEqDiff, Nat.reduceLT, Nat.reduceLeDiff, Nat.reduceBEq, Nat.reduceBNe, reduceIte, Int.reduceEq, Int.reduceLT, Int.reduceLE, Int.reduceNe, Int.reduceToNat, pks.1, p1, p2, c1, c2, c3, c4, eqC5, eqC6, s1, o1, lA, wU, aA, oT, sP, oP, sF, oF, wt, w8, w8u, s8, sR]
  refine callD_sum l (headB h (28 + b.length)) ans60 en60 (by simp only [nfM_cn, nfM_nil, nfB27, nfB25, nfB_row, nfB_dead, Bool.and_self]) rfl (by rw [headB_len]) (headB_lt _ _) (by rw [headB_len]; omega) ?_
  generalize hX : headB h (28 + b.length) = X
  have hXl : X.length = 20 := by rw [← hX]; exact headB_len _ _
  have hs := sumR_lt X
  generalize hS : sumR X = s at hs
  have ih : ∀ n kk, iaddrS 1 (.sl 1 n 0 (l.length + 4 + 4 + 4 + 8)) (.int kk ((l.length + 10 : Nat) : Int)) = some (.ep 1 n (l.length + 10) 0) := fun n kk => ia_at (by omega)
  have il : ∀ n kk, iaddrS 1 (.sl 1 n 0 (l.length + 4 + 4 + 4 + 8)) (.int kk ((l.length + 11 : Nat) : Int)) = some (.ep 1 n (l.length + 11) 0) := fun n kk => ia_at (by omega)
  have vh := u8hi s hs
  have vl := u8lo s
  simp -implicitDefEqProofs only [sims.1, fx.1, keeps.1, tick_on, calleeK, extractV, oneV, faddrK, nonnil, b_shr, b_shl, fieldK, Nat.reduceAdd, Nat.reduceMul, Nat.reduceSub, Nat.reduceEqDiff, Nat.reduceLT, Nat.reduceLeDiff, Nat.reduceBEq, Nat.reduceBNe, reduceIte, Int.reduceEq, Int.reduceLT, Int.reduceLE, Int.reduceNe, Int.reduceToNat, pks.1, p1, p2, c1, c2, c3, c4, eqC5, eqC6, s1, o1, lA, wU, aA, oT, sP, oP, sF, oF, wt, w8, w8u, s8, ih, il, vh, vl]
  refine bindO_some' (stB rfl (by simp [hXl])) ?_
  simp -implicitDefEqProofs only [sims.1, fx.1, keeps.1, tick_on, calleeK, extractV, oneV, faddrK, nonnil, b_shr, b_shl, fieldK, Nat.reduceAdd, Nat.reduceMul, Nat.reduceSub, Nat.reduceEqDiff, Nat.reduceLT, Nat.reduceLeDiff, Nat.reduceBEq, Nat.reduceBNe, reduceIte, Int.reduceEq, Int.reduceLT, Int.reduceLE, Int.reduceNe, Int.reduceToNat, pks.1, p1, p2, c1, c2, c3, c4, eqC5, eqC6, s1, o1, lA, wU, aA, oT, sP, oP, sF, oF, wt, w8, w8u, s8, ih, il, vh, vl]
  refine bindO_some' (stB rfl (by simp [hXl])) ?_
  rw [set_set l X s _ _ rfl rfl]
  simp -implicitDefEqProofs only [sims.1, fx.1, keeps.1, tick_on, calleeK, extractV, oneV, faddrK, nonnil, b_shr, b_shl, fieldK, Nat.reduceAdd, Nat.reduceMul, Nat.reduceSub, Nat.reduceEqDiff, Nat.reduceLT, Nat.reduceLeDiff, Nat.reduceBEq, Nat.reduceBNe, reduceIte, Int.reduceEq, Int.reduceLT, Int.reduceLE, Int.reduceNe, Int.reduceToNat, pks.1, p1, p2, c1, c2, c3, c4, eqC5, eqC6, s1, o1, lA, wU, aA, oT, sP, oP, sF, oF, wt, w8, w8u, s8]
  refine w_noisy ?_
  simp -implicitDefEqProofs only [sims.1, fx.1, keeps.1, tick_on, calleeK, extractV, oneV, faddrK, nonnil, b_shr, b_shl, fieldK, Nat.reduceAdd, Nat.reduceMul, Nat.reduceSub, Nat.reduceEqDiff, Nat.reduceLT, Nat.reduceLeDiff, Nat.reduceBEq, Nat.reduceBNe, reduceIte, Int.reduceEq, Int.reduceLT, Int.reduceLE, Int.reduceNe, Int.reduceToNat, pks.1, p1, p2, c1, c2, c3, c4, eqC5, eqC6, s1, o1, lA, wU, aA, oT, sP, oP, sF, oF, wt, w8, w8u, s8]
  refine bindO_some' (apB (l ++ setS X s) ((putB (h 7 * 2 ^ 16 + h 8) 4 4) ++ putB ((8 + b.length) * 2 ^ 16) 4 4) (ct_row rfl (by simp [putB_len])) rfl (by simp [setS_len, hXl]) (by omega) (by simp [putB_len])) ?_
  refine orderP_of (by kernel_rfl) ?_
  simp -implicitDefEqProofs only [sims.1, fx.1, keeps.1, tick_on, calleeK, extractV, oneV, faddrK, nonnil, b_shr, b_shl, fieldK, Nat.reduceAdd, Nat.reduceMul, Nat.reduceSub, Nat.reduceEqDiff, Nat.reduceLT, Nat.reduceLeDiff, Nat.reduceBEq, Nat.reduceBNe, reduceIte, Int.reduceEq, Int.reduceLT, Int.reduceLE, Int.reduceNe, Int.reduceToNat, pks.1, p1, p2, c1, c2, c3, c4, eqC5, eqC6, s1, o1, lA, wU, aA, oT, sP, oP, sF, oF, wt, w8, w8u, s8]
  refine orderP_of (by kernel_rfl) ?_
  simp -implicitDefEqProofs only [sims.1, fx.1, keeps.1, tick_on, calleeK, extractV, oneV, faddrK, nonnil, b_shr, b_shl, fieldK, Nat.reduceAdd, Nat.reduceMul, Nat.reduceSub, Nat.reduceEqDiff, Nat.reduceLT, Nat.reduceLeDiff, Nat.reduceBEq, Nat.reduceBNe, reduceIte, Int.reduceEq, Int.reduceLT, Int.reduceLE, Int.reduceNe, Int.reduceToNat, pks.1, p1, p2, c1, c2, c3, c4, eqC5, eqC6, s1, o1, lA, wU, aA, oT, sP, oP, sF, oF, wt, w8, w8u, s8]
  refine bindO_some' (apB (l ++ setS X s ++ ((putB (h 7 * 2 ^ 16 + h 8) 4 4) ++ putB ((8 + b.length) * 2 ^ 16) 4 4)) b ct_by rfl (by simp [setS_len, hXl, putB_len]) (by first | omega | (simp only [putB_len, List.length_append, List.length_nil]; omega)) (by omega)) ?_
  refine orderP_of (by kernel_rfl) ?_
  simp -implicitDefEqProofs only [sims.1, fx.1, keeps.1, tick_on, calleeK, extractV, oneV, faddrK, nonnil, b_shr, b_shl, fieldK, Nat.reduceAdd, Nat.reduceMul, Nat.reduceSub, Nat.reduceEqDiff, Nat.reduceLT, Nat.reduceLeDiff, Nat.reduceBEq, Nat.reduceBNe, reduceIte, Int.reduceEq, Int.reduceLT, Int.reduceLE, Int.reduceNe, Int.reduceToNat, pks.1, p1, p2, c1, c2, c3, c4, eqC5, eqC6, s1, o1, lA, wU, aA, oT, sP, oP, sF, oF, wt, w8, w8u, s8]
  have e : l ++ inetB h b = (l ++ setS X s ++ ((putB (h 7 * 2 ^ 16 + h 8) 4 4) ++ putB ((8 + b.length) * 2 ^ 16) 4 4)) ++ b := by
    have e0 : portsB h b.length = ((putB (h 7 * 2 ^ 16 + h 8) 4 4) ++ putB ((8 + b.length) * 2 ^ 16) 4 4) := by simp only [portsB, p1, p2, cond_true, cond_false]
    have e3 : 20 + (portsB h b.length).length + b.length = 28 + b.length := by rw [e0]; simp [putB_len]
    unfold inetB
    rw [e3, hX, hS, e0]
    simp only [List.append_assoc, List.nil_append]
  rw [e]
  exact endB_of (by simp [setS_len, hXl, putB_len]; try omega) (by simp only [nfM_cn, nfM_nil, nfB27, nfB25, nfB_row, nfB_dead, Bool.and_self]) rfl
set_option maxHeartbeats 4000000 in
theorem snd38_6 (l : List Nat) (h : Hd) (b : List Nat) (hl : l.length < 2000) (hb : b.length < 2000) (h4 : h 4 < 4294967296) (h5 : h 5 < 4294967296) (h6 : h 6 < 256) (h7 : h 7 < 65536) (h8 : h 8 < 65536) (e1 : decide (h 6 = 6) = true) : Snd Try.prog 52 [.sl 1 0 0 l.length, pkA h b] [rowB l] (EndB (l ++ inetB h b)) := by
  refine Snd_of_W fol rfl rfl (by kernel_rfl) (by kernel_rfl) ?_
  unfold pkA
  have p1 := e1
  have p2 : decide (h 6 = 17) = false := by have := of_decide_eq_true e1; simp; omega
  have s1 := shlK (h 7) 16 (by omega) (by omega)
  have o1 := or64 (h 7 * 2 ^ 16) (h 8) 16 (by omega) (by omega) (by omega) (by omega)
  have lA : ∀ m, lenV Try.prog m 31 (byV b) = some (.int .i64 (b.length : Int)) := fun m => len_by _ _
  have w8 : IntKind.i64.wrap (8 + (b.length : Int)) = ((8 + b.length : Nat) : Int) := by rw [IntKind.wrap_i64]; omega
  have w8u := wrapU (8 + b.length) (by omega)
  have s8 := shlK (8 + b.length) 16 (by omega) (by omega)
  have c1 : IntKind.i64.wrap (20 + ((20 : Nat) : Int)) = ((40 : Nat) : Int) := by kernel_rfl
  have c2 : IntKind.i64.wrap (20 + (20 : Int)) = ((40 : Nat) : Int) := by kernel_rfl
  have wt : IntKind.i64.wrap (((40 : Nat) : Int) + (b.length : Int)) = ((20 + 20 + b.length : Nat) : Int) := by rw [IntKind.wrap_i64]; omega
  have wU := wrapU (40 + b.length) (by omega)
  have aA := and16 (40 + b.length) (by omega)
  have oT : bits .or .u64 1157627904 (((40 + b.length) % 65536 : Nat) : Int) = ((1157627904 + (40 + b.length) % 65536 : Nat) : Int) := or64 1157627904 ((40 + b.length) % 65536) 16 (by decide) (by omega) (by omega) (by omega)
  have sP := shlK (h 6) 16 (by omega) (by omega)
  have oP : bits .or .u64 1073741824 ((h 6 * 2 ^ 16 : Nat) : Int) = ((1073741824 + h 6 * 2 ^ 16 : Nat) : Int) := or64 1073741824 (h 6 * 2 ^ 16) 24 (by decide) (by omega) (by omega) (by omega)
  have sF := shlK (h 4) 32 (by omega) (by omega)
  have oF := or64 (h 4 * 2 ^ 32) (h 5) 32 (by omega) (by omega) (by omega) (by omega)
  have c3 : IntKind.i64.wrap ((l.length : Int) + 10) = ((l.length + 10 : Nat) : Int) := by rw [IntKind.wrap_i64]; omega
  have c4 : IntKind.i64.wrap ((l.length : Int) + 11) = ((l.length + 11 : Nat) : Int) := by rw [IntKind.wrap_i64]; omega
  simp -implicitDefEqProofs only [sims.1, fx.1, keeps.1, tick_on, calleeK, extractV, oneV, faddrK, nonnil, b_shr, b_shl, fieldK, Nat.reduceAdd, Nat.reduceMul, Nat.reduceSub, Nat.reduceEqDiff, Nat.reduceLT, Nat.reduceLeDiff, Nat.reduceBEq, Nat.reduceBNe, reduceIte, Int.reduceEq, Int.reduceLT, Int.reduceLE, Int.reduceNe, Int.reduceToNat, pks.1, p1, p2, c1, c2, c3, c4, eqC5, eqC6, s1, o1, lA, wU, aA, oT, sP, oP, sF, oF, wt, w8, w8u, s8]
  refine callD_putn (x := h 7 * 2 ^ 16 + h 8) 3 (snd36n _ 4 (by omega) (by omega)) en50 rfl (by omega) ?_
  simp -implicitDefEqProofs only [sims.1, fx.1, keeps.1, tick_on, calleeK, extractV, oneV, faddrK, nonnil, b_shr, b_shl, fieldK, Nat.reduceAdd, Nat.reduceMul, Nat.reduceSub, Nat.reduceEqDiff, Nat.reduceLT, Nat.reduceLeDiff, Nat.reduceBEq, Nat.reduceBNe, reduceIte, Int.reduceEq, Int.reduceLT, Int.reduceLE, Int.reduceNe, Int.reduceToNat, pks.1, p1, p2, c1, c2, c3, c4, eqC5, eqC6, s1, o1, lA, wU, aA, oT, sP, oP, sF, oF, wt, w8, w8u, s8]
  refine callD_put36 (x := 0) 7 (putB (h 7 * 2 ^ 16 + h 8) 4 4) (by simp only [nfM_cn, nfM_nil, nfB27, nfB25, nfB_row, nfB_dead, Bool.and_self]) rfl (by simp [putB_len]) rfl (by omega) (by omega) ?_
  simp -implicitDefEqProofs only [sims.1, fx.1, keeps.1, tick_on, calleeK, extractV, oneV, faddrK, nonnil, b_shr, b_shl, fieldK, Nat.reduceAdd, Nat.reduceMul, Nat.reduceSub, Nat.reduceEqDiff, Nat.reduceLT, Nat.reduceLeDiff, Nat.reduceBEq, Nat.reduceBNe, reduceIte, Int.reduceEq, Int.reduceLT, Int.reduceLE, Int.reduceNe, Int.reduceToNat, pks.1, p1, p2, c1, c2, c3, c4, eqC5, eqC6, s1, o1, lA, wU, aA, oT, sP, oP, sF, oF, wt, w8, w8u, s8]
  refine callD_put36 (x := 20496) 1 ((putB (h 7 * 2 ^ 16 + h 8) 4 4) ++ putB 0 8 8) (by simp only [nfM_cn, nfM_nil, nfB27, nfB25, nfB_row, nfB_dead, Bool.and_self]) rfl (by simp [putB_len]) rfl (by omega) (by omega) ?_
  simp -implicitDefEqProofs only [sims.1, fx.1, keeps.1, tick_on, calleeK, extractV, oneV, faddrK, nonnil, b_shr, b_shl, fieldK, Nat.reduceAdd, Nat.reduceMul, Nat.reduceSub, Nat.reduceEqDiff, Nat.reduceLT, Nat.reduceLeDiff, Nat.reduceBEq, Nat.reduceBNe, reduceIte, Int.reduceEq, Int.reduceLT, Int.reduceLE, Int.reduceNe, Int.reduceToNat, pks.1, p1, p2, c1, c2, c3, c4, eqC5, eqC6, s1, o1, lA, wU, aA, oT, sP, oP, sF, oF, wt, w8, w8u, s8]
  refine callD_put36 (x := 0) 5 (((putB (h 7 * 2 ^ 16 + h 8) 4 4) ++ putB 0 8 8) ++ putB 20496 2 2) (by simp only [nfM_cn, nfM_nil, nfB27, nfB25, nfB_row, nfB_dead, Bool.and_self]) rfl (by simp [putB_len]) rfl (by omega) (by omega) ?_
  simp -implicitDefEqProofs only [sims.1, fx.1, keeps.1, tick_on, calleeK, extractV, oneV, faddrK, nonnil, b_shr, b_shl, fieldK, Nat.reduceAdd, Nat.reduceMul, Nat.reduceSub, Nat.reduceEqDiff, Nat.reduceLT, Nat.reduceLeDiff, Nat.reduceBEq, Nat.reduceBNe, reduceIte, Int.reduceEq, Int.reduceLT, Int.reduceLE, Int.reduceNe, Int.reduceToNat, pks.1, p1, p2, c1, c2, c3, c4, eqC5, eqC6, s1, o1, lA, wU, aA, oT, sP, oP, sF, oF, wt, w8, w8u, s8]
  refine callD_put36  3 l (by simp only [nfM_cn, nfM_nil, nfB27, nfB25, nfB_row, nfB_dead, Bool.and_self]) rfl (by simp [putB_len]) rfl (by omega) (by omega) ?_
  simp -implicitDefEqProofs only [sims.1, fx.1, keeps.1, tick_on, calleeK, extractV, oneV, faddrK, nonnil, b_shr, b_shl, fieldK, Nat.reduceAdd, Nat.reduceMul, Nat.reduceSub, Nat.reduceEqDiff, Nat.reduceLT, Nat.reduceLeDiff, Nat.reduceBEq, Nat.reduceBNe, reduceIte, Int.reduceEq, Int.reduceLT, Int.reduceLE, Int.reduceNe, Int.reduceToNat, pks.1, p1, p2, c1, c2, c3, c4, eqC5, eqC6, s1, o1, lA, wU, aA, oT, sP, oP, sF, oF, wt, w8, w8u, s8]
  refine callD_put36 (x := 0) 3 (l ++ putB (1157627904 + (40 + b.length) % 65536) 4 4) (by simp only [nfM_cn, nfM_nil, nfB27, nfB25, nfB_row, nfB_dead, Bool.and_self]) rfl (by simp [putB_len]) rfl (by omega) (by omega) ?_
  simp -implicitDefEqProofs only [sims.1, fx.1, keeps.1, tick_on, calleeK, extractV, oneV, faddrK, nonnil, b_shr, b_shl, fieldK, Nat.reduceAdd, Nat.reduceMul, Nat.reduceSub, Nat.reduceEqDiff, Nat.reduceLT, Nat.reduceLeDiff, Nat.reduceBEq, Nat.reduceBNe, reduceIte, Int.reduceEq, Int.reduceLT, Int.reduceLE, Int.reduceNe, Int.reduceToNat, pks.1, p1, p2, c1, c2, c3, c4, eqC5, eqC6, s1, o1, lA, wU, aA, oT, sP, oP, sF, oF, wt, w8, w8u, s8]
  refine callD_put36  3 ((l ++ putB (1157627904 + (40 + b.length) % 65536) 4 4) ++ putB 0 4 4) (by simp only [nfM_cn, nfM_nil, nfB27, nfB25, nfB_row, nfB_dead, Bool.and_self]) rfl (by simp [putB_len]) rfl (by omega) (by omega) ?_
  simp -implicitDefEqProofs only [sims.1, fx.1, keeps.1, tick_on, calleeK, extractV, oneV, faddrK, nonnil, b_shr, b_shl, fieldK, Nat.reduceAdd, Nat.reduceMul, Nat.reduceSub, Nat.reduceEqDiff, Nat.reduceLT, Nat.reduceLeDiff, Nat.reduceBEq, Nat.reduceBNe, reduceIte, Int.reduceEq, Int.reduceLT, Int.reduceLE, Int.reduceNe, Int.reduceToNat, pks.1, p1, p2, c1, c2, c3, c4, eqC5, eqC6, s1, o1, lA, wU, aA, oT, sP, oP, sF, oF, wt, w8, w8u, s8]
  refine callD_put36  7 (((l ++ putB (1157627904 + (40 + b.length) % 65536) 4 4) ++ putB 0 4 4) ++ putB (1073741824 + h 6 * 2 ^ 16) 4 4) (by simp only [nfM_cn, nfM_nil, nfB27, nfB25, nfB_row, nfB_dead, Bool.and_self]) rfl (by simp [putB_len]) rfl (by omega) (by omega) ?_
  rw [show ((((l ++ putB (1157627904 + (40 + b.length) % 65536) 4 4) ++ putB 0 4 4) ++ putB (1073741824 + h 6 * 2 ^ 16) 4 4) ++ putB (h 4 * 2 ^ 32 + h 5) 8 8) = l ++ headB h (40 + b.length) by simp only [headB, List.append_assoc]]
  have sR : ∀ n, sliceV Try.prog 31 (.sl 1 n 0 (l.length + 4 + 4 + 4 + 8)) (some (.int .i64 (l.length : Int))) none = some (.sl 1 n l.length 20) := fun n => by rw [sl_row _ _ _ (by omega)]; congr 2; omega
  simp -implicitDefEqProofs only [sims.1, fx.1, keeps.1, tick_on, calleeK, extractV, oneV, faddrK, nonnil, b_shr, b_shl, fieldK, Nat.reduceAdd, Nat.reduceMul, Nat.reduceSub, Nat.reduceEqDiff, Nat.reduceLT, Nat.reduceLeDiff, Nat.reduceBEq, Nat.reduceBNe, reduceIte, Int.reduceEq, Int.reduceLT, Int.reduceLE, Int.reduceNe, Int.reduceToNat, pks.1, p1, p2, c1, c2, c3, c4, eqC5, eqC6, s1, o1, lA, wU, aA, oT, sP, oP, sF, oF, wt, w8, w8u, s8, sR]
  refine callD_sum l (headB h (40 + b.length)) ans60 en60 (by simp only [nfM_cn, nfM_nil, nfB27, nfB25, nfB_row, nfB_dead, Bool.and_self]) rfl (by rw [headB_len]) (headB_lt _ _) (by rw [headB_len]; omega) ?_
  generalize hX : headB h (40 + b.length) = X
  have hXl : X.length = 20 := by rw [← hX]; exact headB_len _ _
  have hs := sumR_lt X
  generalize hS : sumR X = s at hs
  have ih : ∀ n kk, iaddrS 1 (.sl 1 n 0 (l.length + 4 + 4 + 4 + 8)) (.int kk ((l.length + 10 : Nat) : Int)) = some (.ep 1 n (l.length + 10) 0) := fun n kk => ia_at (by omega)
  have il : ∀ n kk, iaddrS 1 (.sl 1 n 0 (l.length + 4 + 4 + 4 + 8)) (.int kk ((l.length + 11 : Nat) : Int)) = some (.ep 1 n (l.length + 11) 0) := fun n kk => ia_at (by omega)
  have vh := u8hi s hs
  have vl := u8lo s
  simp -implicitDefEqProofs only [sims.1, fx.1, keeps.1, tick_on, calleeK, extractV, oneV, faddrK, nonnil, b_shr, b_shl, fieldK, Nat.reduceAdd, Nat.reduceMul, Nat.reduceSub, Nat.reduceEqDiff, Nat.reduceLT, Nat.reduceLeDiff, Nat.reduceBEq, Nat.reduceBNe, reduceIte, Int.reduceEq, Int.reduceLT, Int.reduceLE, Int.reduceNe, Int.reduceToNat, pks.1, p1, p2, c1, c2, c3, c4, eqC5, eqC6, s1, o1, lA, wU, aA, oT, sP, oP, sF, oF, wt, w8, w8u, s8, ih, il, vh, vl]
  refine bindO_some' (stB rfl (by simp [hXl])) ?_
  simp -implicitDefEqProofs only [sims.1, fx.1, keeps.1, tick_on, calleeK, extractV, oneV, faddrK, nonnil, b_shr, b_shl, fieldK, Nat.reduceAdd, Nat.reduceMul, Nat.reduceSub, Nat.reduceEqDiff, Nat.reduceLT, Nat.reduceLeDiff, Nat.reduceBEq, Nat.reduceBNe, reduceIte, Int.reduceEq, Int.reduceLT, Int.reduceLE, Int.reduceNe, Int.reduceToNat, pks.1, p1, p2, c1, c2, c3, c4, eqC5, eqC6, s1, o1, lA, wU, aA, oT, sP, oP, sF, oF, wt, w8, w8u, s8, ih, il, vh, vl]
  refine bindO_some' (stB rfl (by simp [hXl])) ?_
  rw [set_set l X s _ _ rfl rfl]
  simp -implicitDefEqProofs only [sims.1, fx.1, keeps.1, tick_on, calleeK, extractV, oneV, faddrK, nonnil, b_shr, b_shl, fieldK, Nat.reduceAdd, Nat.reduceMul, Nat.reduceSub, Nat.reduceEqDiff, Nat.reduceLT, Nat.reduceLeDiff, Nat.reduceBEq, Nat.reduceBNe, reduceIte, Int.reduceEq, Int.reduceLT, Int.reduceLE, Int.reduceNe, Int.reduceToNat, pks.1, p1, p2, c1, c2, c3, c4, eqC5, eqC6, s1, o1, lA, wU, aA, oT, sP, oP, sF, oF, wt, w8, w8u, s8]
  refine w_noisy ?_
  simp -implicitDefEqProofs only [sims.1, fx.1, keeps.1, tick_on, calleeK, extractV, oneV, faddrK, nonnil, b_shr, b_shl, fieldK, Nat.reduceAdd, Nat.reduceMul, Nat.reduceSub, Nat.reduceEqDiff, Nat.reduceLT, Nat.reduceLeDiff, Nat.reduceBEq, Nat.reduceBNe, reduceIte, Int.reduceEq, Int.reduceLT, Int.reduceLE, Int.reduceNe, Int.reduceToNat, pks.1, p1, p2, c1, c2, c3, c4, eqC5, eqC6, s1, o1, lA, wU, aA, oT, sP, oP, sF, oF, wt, w8, w8u, s8]
  refine bindO_some' (apB (l ++ setS X s) ((((putB (h 7 * 2 ^ 16 + h 8) 4 4) ++ putB 0 8 8) ++ putB 20496 2 2) ++ putB 0 6 6) (ct_row rfl (by simp [putB_len])) rfl (by simp [setS_len, hXl]) (by omega) (by simp [putB_len])) ?_
  refine orderP_of (by kernel_rfl) ?_
  simp -implicitDefEqProofs only [sims.1, fx.1, keeps.1, tick_on, calleeK, extractV, oneV, faddrK, nonnil, b_shr, b_shl, fieldK, Nat.reduceAdd, Nat.reduceMul, Nat.reduceSub, Nat.reduceEqDiff, Nat.reduceLT, Nat.reduceLeDiff, Nat.reduceBEq, Nat.reduceBNe, reduceIte, Int.reduceEq, Int.reduceLT, Int.reduceLE, Int.reduceNe, Int.reduceToNat, pks.1, p1, p2, c1, c2, c3, c4, eqC5, eqC6, s1, o1, lA, wU, aA, oT, sP, oP, sF, oF, wt, w8, w8u, s8]
  refine orderP_of (by kernel_rfl) ?_
  simp -implicitDefEqProofs only [sims.1, fx.1, keeps.1, tick_on, calleeK, extractV, oneV, faddrK, nonnil, b_shr, b_shl, fieldK, Nat.reduceAdd, Nat.reduceMul, Nat.reduceSub, Nat.reduceEqDiff, Nat.reduceLT, Nat.reduceLeDiff, Nat.reduceBEq, Nat.reduceBNe, reduceIte, Int.reduceEq, Int.reduceLT, Int.reduceLE, Int.reduceNe, Int.reduceToNat, pks.1, p1, p2, c1, c2, c3, c4, eqC5, eqC6, s1, o1, lA, wU, aA, oT, sP, oP, sF, oF, wt, w8, w8u, s8]
  refine bindO_some' (apB (l ++ setS X s ++ ((((putB (h 7 * 2 ^ 16 + h 8) 4 4) ++ putB 0 8 8) ++ putB 20496 2 2) ++ putB 0 6 6)) b ct_by rfl (by simp [setS_len, hXl, putB_len]) (by first | omega | (simp only [putB_len, List.length_append, List.length_nil]; omega)) (by omega)) ?_
  refine orderP_of (by kernel_rfl) ?_
  simp -implicitDefEqProofs only [sims.1, fx.1, keeps.1, tick_on, calleeK, extractV, oneV, faddrK, nonnil, b_shr, b_shl, fieldK, Nat.reduceAdd, Nat.reduceMul, Nat.reduceSub, Nat.reduceEqDiff, Nat.reduceLT, Nat.reduceLeDiff, Nat.reduceBEq, Nat.reduceBNe, reduceIte, Int.reduceEq, Int.reduceLT, Int.reduceLE, Int.reduceNe, Int.reduceToNat, pks.1, p1, p2, c1, c2, c3, c4, eqC5, eqC6, s1, o1, lA, wU, aA, oT, sP, oP, sF, oF, wt, w8, w8u, s8]
  have e : l ++ inetB h b = (l ++ setS X s ++ ((((putB (h 7 * 2 ^ 16 + h 8) 4 4) ++ putB 0 8 8) ++ putB 20496 2 2) ++ putB 0 6 6)) ++ b := by
    have e0 : portsB h b.length = ((((putB (h 7 * 2 ^ 16 + h 8) 4 4) ++ putB 0 8 8) ++ putB 20496 2 2) ++ putB 0 6 6) := by simp only [portsB, p1, p2, cond_true, cond_false]
    have e3 : 20 + (portsB h b.length).length + b.length = 40 + b.length := by rw [e0]; simp [putB_len]
    unfold inetB
    rw [e3, hX, hS, e0]
    simp only [List.append_assoc, List.nil_append]
  rw [e]
  exact endB_of (by simp [setS_len, hXl, putB_len]; try omega) (by simp only [nfM_cn, nfM_nil, nfB27, nfB25, nfB_row, nfB_dead, Bool.and_self]) rfl
set_option maxHeartbeats 4000000 in
theorem snd38_0 (l : List Nat) (h : Hd) (b : List Nat) (hl : l.length < 2000) (hb : b.length < 2000) (h4 : h 4 < 4294967296) (h5 : h 5 < 4294967296) (h6 : h 6 < 256) (h7 : h 7 < 65536) (h8 : h 8 < 65536) (p1 : decide (h 6 = 6) = false) (p2 : decide (h 6 = 17) = false) : Snd Try.prog 52 [.sl 1 0 0 l.length, pkA h b] [rowB l] (EndB (l ++ inetB h b)) := by
  refine Snd_of_W fol rfl rfl (by kernel_rfl) (by kernel_rfl) ?_
  unfold pkA
  have s1 := shlK (h 7) 16 (by omega) (by omega)
  have o1 := or64 (h 7 * 2 ^ 16) (h 8) 16 (by omega) (by omega) (by omega) (by omega)
  have lA : ∀ m, lenV Try.prog m 31 (byV b) = some (.int .i64 (b.length : Int)) := fun m => len_by _ _
  have w8 : IntKind.i64.wrap (8 + (b.length : Int)) = ((8 + b.length : Nat) : Int) := by rw [IntKind.wrap_i64]; omega
  have w8u := wrapU (8 + b.length) (by omega)
  have s8 := shlK (8 + b.length) 16 (by omega) (by omega)
  have c1 : IntKind.i64.wrap (20 + ((0 : Nat) : Int)) = ((20 : Nat) : Int) := by kernel_rfl
  have c2 : IntKind.i64.wrap (20 + (0 : Int)) = ((20 : Nat) : Int) := by kernel_rfl
  have wt : IntKind.i64.wrap (((20 : Nat) : Int) + (b.length : Int)) = ((20 + 0 + b.length : Nat) : Int) := by rw [IntKind.wrap_i64]; omega
  have wU := wrapU (20 + b.length) (by omega)
  have aA := and16 (20 + b.length) (by omega)
  have oT : bits .or .u64 1157627904 (((20 + b.length) % 65536 : Nat) : Int) = ((1157627904 + (20 + b.length) % 65536 : Nat) : Int) := or64 1157627904 ((20 + b.length) % 65536) 16 (by decide) (by omega) (by omega) (by omega)
  have sP := shlK (h 6) 16 (by omega) (by omega)
  have oP : bits .or .u64 1073741824 ((h 6 * 2 ^ 16 : Nat) : Int) = ((1073741824 + h 6 * 2 ^ 16 : Nat) : Int) := or64 1073741824 (h 6 * 2 ^ 16) 24 (by decide) (by omega) (by omega) (by omega)
  have sF := shlK (h 4) 32 (by omega) (by omega)
  have oF := or64 (h 4 * 2 ^ 32) (h 5) 32 (by omega) (by omega) (by omega) (by omega)
  have c3 : IntKind.i64.wrap ((l.length : Int) + 10) = ((l.length + 10 : Nat) : Int) := by rw [IntKind.wrap_i64]; omega
  have c4 : IntKind.i64.wrap ((l.length : Int) + 11) = ((l.length + 11 : Nat) : Int) := by rw [IntKind.wrap_i64]; omega
  simp -implicitDefEqProofs only [sims.1, fx.1, keeps.1, tick_on, calleeK, extractV, oneV, faddrK, nonnil, b_shr, b_shl, fieldK, Nat.reduceAdd, Nat.reduceMul, Nat.reduceSub, Nat.reduceEqDiff, Nat.reduceLT, Nat.reduceLeDiff, Nat.reduceBEq, Nat.reduceBNe, reduceIte, Int.reduceEq, Int.reduceLT, Int.reduceLE, Int.reduceNe, Int.reduceToNat, pks.1, p1, p2, c1, c2, c3, c4, eqC5, eqC6, s1, o1, lA, wU, aA, oT, sP, oP, sF, oF, wt, w8, w8u, s8]
  refine callD_put36  3 l (by simp only [nfM_cn, nfM_nil, nfB27, nfB25, nfB_row, nfB_dead, Bool.and_self]) rfl (by simp [putB_len]) rfl (by omega) (by omega) ?_
  simp -implicitDefEqProofs only [sims.1, fx.1, keeps.1, tick_on, calleeK, extractV, oneV, faddrK, nonnil, b_shr, b_shl, fieldK, Nat.reduceAdd, Nat.reduceMul, Nat.reduceSub, Nat.reduceEqDiff, Nat.reduceLT, Nat.reduceLeDiff, Nat.reduceBEq, Nat.reduceBNe, reduceIte, Int.reduceEq, Int.reduceLT, Int.reduceLE, Int.reduceNe, Int.reduceToNat, pks.1, p1, p2, c1, c2, c3, c4, eqC5, eqC6, s1, o1, lA, wU, aA, oT, sP, oP, sF, oF, wt, w8, w8u, s8]
  refine callD_put36 (x := 0) 3 (l ++ putB (1157627904 + (20 + b.length) % 65536) 4 4) (by simp only [nfM_cn, nfM_nil, nfB27, nfB25, nfB_row, nfB_dead, Bool.and_self]) rfl (by simp [putB_len]) rfl (by omega) (by omega) ?_
  simp -implicitDefEqProofs only [sims.1, fx.1, keeps.1, tick_on, calleeK, extractV, oneV, faddrK, nonnil, b_shr, b_shl, fieldK, Nat.reduceAdd, Nat.reduceMul, Nat.reduceSub, Nat.reduceEqDiff, Nat.reduceLT, Nat.reduceLeDiff, Nat.reduceBEq, Nat.reduceBNe, reduceIte, Int.reduceEq, Int.reduceLT, Int.reduceLE, Int.reduceNe, Int.reduceToNat, pks.1, p1, p2, c1, c2, c3, c4, eqC5, eqC6, s1, o1, lA, wU, aA, oT, sP, oP, sF, oF, wt, w8, w8u, s8]
  refine callD_put36  3 ((l ++ putB (1157627904 + (20 + b.length) % 65536) 4 4) ++ putB 0 4 4) (by simp only [nfM_cn, nfM_nil, nfB27, nfB25, nfB_row, nfB_dead, Bool.and_self]) rfl (by simp [putB_len]) rfl (by omega) (by omega) ?_
  simp -implicitDefEqProofs only [sims.1, fx.1, keeps.1, tick_on, calleeK, extractV, oneV, faddrK, nonnil, b_shr, b_shl, fieldK, Nat.reduceAdd, Nat.reduceMul, Nat.reduceSub, Nat.reduceEqDiff, Nat.reduceLT, Nat.reduceLeDiff, Nat.reduceBEq, Nat.reduceBNe, reduceIte, Int.reduceEq, Int.reduceLT, Int.reduceLE, Int.reduceNe, Int.reduceToNat, pks.1, p1, p2, c1, c2, c3, c4, eqC5, eqC6, s1, o1, lA, wU, aA, oT, sP, oP, sF, oF, wt, w8, w8u, s8]
  refine callD_put36  7 (((l ++ putB (1157627904 + (20 + b.length) % 65536) 4 4) ++ putB 0 4 4) ++ putB (1073741824 + h 6 * 2 ^ 16) 4 4) (by simp only [nfM_cn, nfM_nil, nfB27, nfB25, nfB_row, nfB_dead, Bool.and_self]) rfl (by simp [putB_len]) rfl (by omega) (by omega) ?_
  rw [show ((((l ++ putB (1157627904 + (20 + b.length) % 65536) 4 4) ++ putB 0 4 4) ++ putB (1073741824 + h 6 * 2 ^ 16) 4 4) ++ putB (h 4 * 2 ^ 32 + h 5) 8 8) = l ++ headB h (20 + b.length) by simp only [headB, List.append_assoc]]
  have sR : ∀ n, sliceV Try.prog 31 (.sl 1 n 0 (l.length + 4 + 4 + 4 + 8)) (some (.int .i64 (l.length : Int))) none = some (.sl 1 n l.length 20) := fun n => by rw [sl_row _ _ _ (by omega)]; congr 2; omega
  simp -implicitDefEqProofs only [sims.1, fx.1, keeps.1, tick_on, calleeK, extractV, oneV, faddrK, nonnil, b_shr, b_shl, fieldK, Nat.reduceAdd, Nat.reduceMul, Nat.reduceSub, Nat.reduceEqDiff, Nat.reduceLT, Nat.reduceLeDiff, Nat.reduceBEq, Nat.reduceBNe, reduceIte, Int.reduceEq, Int.reduceLT, Int.reduceLE, Int.reduceNe, Int.reduceToNat, pks.1, p1, p2, c1, c2, c3, c4, eqC5, eqC6, s1, o1, lA, wU, aA, oT, sP, oP, sF, oF, wt, w8, w8u, s8, sR]
  refine callD_sum l (headB h (20 + b.length)) ans60 en60 (by simp only [nfM_cn, nfM_nil, nfB27, nfB25, nfB_row, nfB_dead, Bool.and_self]) rfl (by rw [headB_len]) (headB_lt _ _) (by rw [headB_len]; omega) ?_
  generalize hX : headB h (20 + b.length) = X
  have hXl : X.length = 20 := by rw [← hX]; exact headB_len _ _
  have hs := sumR_lt X
  generalize hS : sumR X = s at hs
  have ih : ∀ n kk, iaddrS 1 (.sl 1 n 0 (l.length + 4 + 4 + 4 + 8)) (.int kk ((l.length + 10 : Nat) : Int)) = some (.ep 1 n (l.length + 10) 0) := fun n kk => ia_at (by omega)
  have il : ∀ n kk, iaddrS 1 (.sl 1 n 0 (l.length + 4 + 4 + 4 + 8)) (.int kk ((l.length + 11 : Nat) : Int)) = some (.ep 1 n (l.length + 11) 0) := fun n kk => ia_at (by omega)
  have vh := u8hi s hs
  have vl := u8lo s
  simp -implicitDefEqProofs only [sims.1, fx.1, keeps.1, tick_on, calleeK, extractV, oneV, faddrK, nonnil, b_shr, b_shl, fieldK, Nat.reduceAdd, Nat.reduceMul, Nat.reduceSub, Nat.reduceEqDiff, Nat.reduceLT, Nat.reduceLeDiff, Nat.reduceBEq, Nat.reduceBNe, reduceIte, Int.reduceEq, Int.reduceLT, Int.reduceLE, Int.reduceNe, Int.reduceToNat, pks.1, p1, p2, c1, c2, c3, c4, eqC5, eqC6, s1, o1, lA, wU, aA, oT, sP, oP, sF, oF, wt, w8, w8u, s8, ih, il, vh, vl]
  refine bindO_some' (stB rfl (by simp [hXl])) ?_
  simp -implicitDefEqProofs only [sims.1, fx.1, keeps.1, tick_on, calleeK, extractV, oneV, faddrK, nonnil, b_shr, b_shl, fieldK, Nat.reduceAdd, Nat.reduceMul, Nat.reduceSub, Nat.reduceEqDiff, Nat.reduceLT, Nat.reduceLeDiff, Nat.reduceBEq, Nat.reduceBNe, reduceIte, Int.reduceEq, Int.reduceLT, Int.reduceLE, Int.reduceNe, Int.reduceToNat, pks.1, p1, p2, c1, c2, c3, c4, eqC5, eqC6, s1, o1, lA, wU, aA, oT, sP, oP, sF, oF, wt, w8, w8u, s8, ih, il, vh, vl]
  refine bindO_some' (stB rfl (by simp [hXl])) ?_
  rw [set_set l X s _ _ rfl rfl]
  simp -implicitDefEqProofs only [sims.1, fx.1, keeps.1, tick_on, calleeK, extractV, oneV, faddrK, nonnil, b_shr, b_shl, fieldK, Nat.reduceAdd, Nat.reduceMul, Nat.reduceSub, Nat.reduceEqDiff, Nat.reduceLT, Nat.reduceLeDiff, Nat.reduceBEq, Nat.reduceBNe, reduceIte, Int.reduceEq, Int.reduceLT, Int.reduceLE, Int.reduceNe, Int.reduceToNat, pks.1, p1, p2, c1, c2, c3, c4, eqC5, eqC6, s1, o1, lA, wU, aA, oT, sP, oP, sF, oF, wt, w8, w8u, s8]
  refine w_noisy ?_
  simp -implicitDefEqProofs only [sims.1, fx.1, keeps.1, tick_on, calleeK, extractV, oneV, faddrK, nonnil, b_shr, b_shl, fieldK, Nat.reduceAdd, Nat.reduceMul, Nat.reduceSub, Nat.reduceEqDiff, Nat.reduceLT, Nat.reduceLeDiff, Nat.reduceBEq, Nat.reduceBNe, reduceIte, Int.reduceEq, Int.reduceLT, Int.reduceLE, Int.reduceNe, Int.reduceToNat, pks.1, p1, p2, c1, c2, c3, c4, eqC5, eqC6, s1, o1, lA, wU, aA, oT, sP, oP, sF, oF, wt, w8, w8u, s8]
  refine bindO_some' (apB (l ++ setS X s) ([] : List Nat) ct_nil rfl (by simp [setS_len, hXl]) (by omega) (by simp [putB_len])) ?_
  refine orderP_of (by kernel_rfl) ?_
  simp -implicitDefEqProofs only [sims.1, fx.1, keeps.1, tick_on, calleeK, extractV, oneV, faddrK, nonnil, b_shr, b_shl, fieldK, Nat.reduceAdd, Nat.reduceMul, Nat.reduceSub, Nat.reduceEqDiff, Nat.reduceLT, Nat.reduceLeDiff, Nat.reduceBEq, Nat.reduceBNe, reduceIte, Int.reduceEq, Int.reduceLT, Int.reduceLE, Int.reduceNe, Int.reduceToNat, pks.1, p1, p2, c1, c2, c3, c4, eqC5, eqC6, s1, o1, lA, wU, aA, oT, sP, oP, sF, oF, wt, w8, w8u, s8]
  refine orderP_of (by kernel_rfl) ?_
  simp -implicitDefEqProofs only [sims.1, fx.1, keeps.1, tick_on, calleeK, extractV, oneV, faddrK, nonnil, b_shr, b_shl, fieldK, Nat.reduceAdd, Nat.reduceMul, Nat.reduceSub, Nat.reduceEqDiff, Nat.reduceLT, Nat.reduceLeDiff, Nat.reduceBEq, Nat.reduceBNe, reduceIte, Int.reduceEq, Int.reduceLT, Int.reduceLE, Int.reduceNe, Int.reduceToNat, pks.1, p1, p2, c1, c2, c3, c4, eqC5, eqC6, s1, o1, lA, wU, aA, oT, sP, oP, sF, oF, wt, w8, w8u, s8]
  refine bindO_some' (apB (l ++ setS X s) b ct_by rfl (by simp [setS_len, hXl, putB_len]) (by first | omega | (simp only [putB_len, List.length_append, List.length_nil]; omega)) (by omega)) ?_
  refine orderP_of (by kernel_rfl) ?_
  simp -implicitDefEqProofs only [sims.1, fx.1, keeps.1, tick_on, calleeK, extractV, oneV, faddrK, nonnil, b_shr, b_shl, fieldK, Nat.reduceAdd, Nat.reduceMul, Nat.reduceSub, Nat.reduceEqDiff, Nat.reduceLT, Nat.reduceLeDiff, Nat.reduceBEq, Nat.reduceBNe, reduceIte, Int.reduceEq, Int.reduceLT, Int.reduceLE, Int.reduceNe, Int.reduceToNat, pks.1, p1, p2, c1, c2, c3, c4, eqC5, eqC6, s1, o1, lA, wU, aA, oT, sP, oP, sF, oF, wt, w8, w8u, s8]
  have e : l ++ inetB h b = (l ++ setS X s) ++ b := by
    have e0 : portsB h b.length = ([] : List Nat) := by simp only [portsB, p1, p2, cond_true, cond_false]
    have e3 : 20 + (portsB h b.length).length + b.length = 20 + b.length := by rw [e0]; simp [putB_len]
    unfold inetB
    rw [e3, hX, hS, e0]
    simp only [List.append_assoc, List.nil_append]
  rw [e]
  exact endB_of (by simp [setS_len, hXl, putB_len]; try omega) (by simp only [nfM_cn, nfM_nil, nfB27, nfB25, nfB_row, nfB_dead, Bool.and_self]) rfl
end Go.Proofs.Ytpmbhjmlghoogaa
