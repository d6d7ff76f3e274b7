/- Numbers put behind bytes. No condition. -/
import Derived.Test.YtpmbhjmlghoogaaNg
namespace Go.Proofs.Ytpmbhjmlghoogaa
open Go Ab
set_option linter.unusedSimpArgs false
set_option linter.unusedVariables false
set_option maxRecDepth 20000

/-- A call whose answer bears a name. -/
theorem callD_nm {f : FuncId} {vs vs1 : List V} {v v' : V} {K Kp : V → Mem → Prop} {m m0 m1 m' : Mem} (L : List Nat) (h : Snd Try.prog f vs1 m0 fun r => r = .ret v m1) (he : enterable Try.prog f = true) (hr : rootsV m vs = L) (hok : okCall L m vs = true)
    (hv1 : rens (idx L) vs = vs1) (hview : view L m = m0) (hd : inD (fun _ => true) v = true) (hnf : nf v = false) (hall : m1.all (inDB fun _ => true) = true) (hlen : Nat.ble L.length m1.length = true) (hv : ren (back L m.length) v = v') (hm : merge L m m1 = m') (hk : K v' m') : callD Try.prog f vs m K Kp := by
  refine .inl ?_
  unfold callL
  rw [hr]
  refine ⟨hok, he, _, by rw [hv1, hview]; exact h, ?_⟩
  rintro r rfl
  refine ⟨?_, ?_⟩
  · simp only [okRes, CR.val, CR.mem, okBack, hall, hlen]
    simp
    exact .inr (by
      first
      | exact hd
      | (have := hd; simpa using this))
  · simp only [backV, hnf, Bool.and_false, cond_false, hv, hm]
    exact hk

/-- A number in so many bytes, the greatest first: the first k of them. -/
def putB (x n k : Nat) : List Nat := (List.range k).map fun i => x / 2 ^ (8 * (n - 1 - i)) % 256
theorem putB_len (x n k : Nat) : (putB x n k).length = k := by simp [putB]
theorem putB_snoc (x n k : Nat) : putB x n (k + 1) = putB x n k ++ [x / 2 ^ (8 * (n - 1 - k)) % 256] := by simp [putB, List.range_succ]
theorem putB_lt (x n k : Nat) : ∀ b ∈ putB x n k, b < 256 := by
  intro b hb
  obtain ⟨i, _, rfl⟩ := List.mem_map.1 hb
  exact Nat.mod_lt _ (by decide)
def rowB (l : List Nat) : B := .row 5 1 (l.map byC)
theorem ze5 : zeroE Try.prog 5 = some ([.int .u8 0], 1, 1) := by kernel_rfl
theorem sl22 : isSliceT Try.prog 31 = true := by kernel_rfl
theorem kn5 : keepNames Try.prog 5 = false := by kernel_rfl
theorem bs22 (m : Mem) (b : Nat) : bsliceV Try.prog 31 1 [(0, .int .u8 (b : Int))] m = some (.sl 1 m.length 0 1, m ++ [rowB [b]]) := by
  have h2 : Nat.ble 1 16777216 = true := by decide
  simp [bsliceV, un22, ze5, kn5, frzQ, cond_false, frzP, frzV, frz, h2, fillE, cellsOfV, cellsB, oneV, rowB, byC]
theorem ap22n (m : Mem) (b k : Nat) (hm : m[k]? = some (rowB [b])) : appendA Try.prog 31 31 .nils (.sl 1 k 0 1) m = some (.sl 1 m.length 0 1, m ++ [rowB [b]]) :=
  append_nil un22 ze5 sl22 (cont_row hm rfl) (by simp) (by simp) (by simp)
theorem ap22 (m : Mem) (l : List Nat) (b k n : Nat) (hk : m[k]? = some (rowB [b])) (hm : m[n]? = some (rowB l)) (hl : l.length < 1000000) : appendA Try.prog 31 31 (.sl 1 n 0 l.length) (.sl 1 k 0 1) m = some (.sl 1 m.length 0 (l.length + 1), m.set n .dead ++ [rowB (l ++ [b])]) := by
  have := append_sl (len := l.length) un22 ze5 sl22 (cont_row hk rfl) hm (by simp) (by simp; omega) (by simp; omega)
  simpa [rowB] using this
theorem wz (z : Int) (h1 : -9223372036854775808 ≤ z) (h2 : z < 9223372036854775808) : IntKind.i64.wrap z = z := by rw [IntKind.wrap_i64]; omega
theorem wz8 (x : Nat) : IntKind.u8.wrap (x : Int) = ((x % 256 : Nat) : Int) := by rw [IntKind.wrap_u8]; omega
theorem geI (n : Nat) : decide ((0 : Int) ≤ (n : Int)) = true := by simp
def bV : Nat → V
  | 0 => .nils
  | k + 1 => .sl 1 0 0 (k + 1)
def mV (x n : Nat) : Nat → Mem
  | 0 => []
  | k + 1 => [rowB (putB x n (k + 1))]
set_option maxHeartbeats 1000000 in
theorem snd36n (x n : Nat) (h0 : 0 < n) (hn : n ≤ 8) : Snd Try.prog 50 [.nils, .int .u64 (x : Int), .int .i64 (n : Int)] [] fun r => r = .ret (bV n) (mV x n n) := by
  refine Snd_of_W fol rfl rfl (by kernel_rfl) (by kernel_rfl) ?_
  have w0 := wz ((n : Int) - 1) (by omega) (by omega)
  simp -implicitDefEqProofs only [sims.1, fx.1, tick_on, calleeK, List.getElem?_toArray, extractV, oneV, faddrK, nonnil, b_shr, b_shl, eq_self, beq_self_eq_true, fieldK, Option.bind_some, Option.map_some, Option.bind_none, Option.map_none, List.map_cons, List.map_nil, List.getD_cons_zero, List.getD_cons_succ, List.getD_nil, List.length_nil, List.length_cons, List.length_set, List.nil_append, List.cons_append, List.append_nil, List.getElem?_cons_zero, List.getElem?_cons_succ, List.getElem?_nil, List.set_cons_zero, List.set_cons_succ, Nat.reduceAdd, Nat.zero_add, Nat.add_zero, Nat.mul_one, Nat.mul_zero, Nat.zero_mul, Nat.reduceMul, Nat.reduceSub, Nat.reduceEqDiff, Nat.reduceLT, Nat.reduceLeDiff, Nat.reduceBEq, Nat.reduceBNe, Nat.succ_ne_self, reduceIte, if_true, if_false, ite_self, decide_true, decide_false, Bool.not_true, Bool.not_false, Bool.and_true, Bool.true_and, Bool.and_false, Bool.false_and, Bool.or_true, Bool.true_or, Bool.or_false, Bool.false_or, cond_true, cond_false, Int.reduceEq, Int.reduceLT, Int.reduceLE, Int.reduceNe, Int.reduceToNat, w0]
  refine W_loop (fun k : Nat => (mkEnv [(1, .int .u64 (x : Int)), (2, .int .i64 ((n : Int) - 1 - (k : Int))), (0, bV k)], mV x n k)) (fun k => k ≤ n) (fun k => n + 1 - k) 0
    (canon_nil [.int .u64 (x : Int), .int .i64 ((n : Int) - 1 - 0), .nils] (by simp only [Int.sub_zero]; kernel_rfl) rfl (by kernel_rfl)) (by omega) ?_
  intro k h1
  rcases Nat.lt_or_ge k n with hk | hk
  · have hidx : (n : Int) - 1 - (k : Int) = ((n - 1 - k : Nat) : Int) := by omega
    have w1 := wz (8 * ((n - 1 - k : Nat) : Int)) (by omega) (by omega)
    have e1 : 8 * ((n - 1 - k : Nat) : Int) = ((8 * (n - 1 - k) : Nat) : Int) := by omega
    have w2 := wrapU (8 * (n - 1 - k)) (by omega)
    have s1 := shrW x (8 * (n - 1 - k)) (by omega)
    have n1 : ¬ (((8 * (n - 1 - k) : Nat) : Int) < 0) := by omega
    have w3 := wz8 (x / 2 ^ (8 * (n - 1 - k)))
    have w4 := wz (((n - 1 - k : Nat) : Int) - 1) (by omega) (by omega)
    have e4 : ((n - 1 - k : Nat) : Int) - 1 = (n : Int) - 1 - ((k + 1 : Nat) : Int) := by omega
    rw [e1] at w1
    have w5 := w4.trans e4
    clear w4 e4
    cases k with
    | zero =>
      simp -implicitDefEqProofs only [sims.1, fx.1, tick_on, calleeK, List.getElem?_toArray, extractV, oneV, faddrK, nonnil, b_shr, b_shl, eq_self, beq_self_eq_true, fieldK, Option.bind_some, Option.map_some, Option.bind_none, Option.map_none, List.map_cons, List.map_nil, List.getD_cons_zero, List.getD_cons_succ, List.getD_nil, List.length_nil, List.length_cons, List.length_set, List.nil_append, List.cons_append, List.append_nil, List.getElem?_cons_zero, List.getElem?_cons_succ, List.getElem?_nil, List.set_cons_zero, List.set_cons_succ, Nat.reduceAdd, Nat.zero_add, Nat.add_zero, Nat.mul_one, Nat.mul_zero, Nat.zero_mul, Nat.reduceMul, Nat.reduceSub, Nat.reduceEqDiff, Nat.reduceLT, Nat.reduceLeDiff, Nat.reduceBEq, Nat.reduceBNe, Nat.succ_ne_self, reduceIte, if_true, if_false, ite_self, decide_true, decide_false, Bool.not_true, Bool.not_false, Bool.and_true, Bool.true_and, Bool.and_false, Bool.false_and, Bool.or_true, Bool.true_or, Bool.or_false, Bool.false_or, cond_true, cond_false, Int.reduceEq, Int.reduceLT, Int.reduceLE, Int.reduceNe, Int.reduceToNat, bV, mV, hidx, geI, e1, w1, w2, n1, Int.toNat_natCast, s1, w3, bs22]
      refine bindO_some' (ap22n _ _ 0 rfl) ?_
      simp -implicitDefEqProofs only [sims.1, fx.1, tick_on, calleeK, List.getElem?_toArray, extractV, oneV, faddrK, nonnil, b_shr, b_shl, eq_self, beq_self_eq_true, fieldK, Option.bind_some, Option.map_some, Option.bind_none, Option.map_none, List.map_cons, List.map_nil, List.getD_cons_zero, List.getD_cons_succ, List.getD_nil, List.length_nil, List.length_cons, List.length_set, List.nil_append, List.cons_append, List.append_nil, List.getElem?_cons_zero, List.getElem?_cons_succ, List.getElem?_nil, List.set_cons_zero, List.set_cons_succ, Nat.reduceAdd, Nat.zero_add, Nat.add_zero, Nat.mul_one, Nat.mul_zero, Nat.zero_mul, Nat.reduceMul, Nat.reduceSub, Nat.reduceEqDiff, Nat.reduceLT, Nat.reduceLeDiff, Nat.reduceBEq, Nat.reduceBNe, Nat.succ_ne_self, reduceIte, if_true, if_false, ite_self, decide_true, decide_false, Bool.not_true, Bool.not_false, Bool.and_true, Bool.true_and, Bool.and_false, Bool.false_and, Bool.or_true, Bool.true_or, Bool.or_false, Bool.false_or, cond_true, cond_false, Int.reduceEq, Int.reduceLT, Int.reduceLE, Int.reduceNe, Int.reduceToNat, w5]
      exact ⟨1, canon_flat (vs' := [.int .u64 (x : Int), .int .i64 ((n : Int) - 1 - ((0 + 1 : Nat) : Int)), .sl 1 0 0 1]) [.int .u64 (x : Int), .int .i64 ((n : Int) - 1 - ((0 + 1 : Nat) : Int)), .sl 1 1 0 1] [1] (nfM_cons (nfs_by _) (nfM_cons (nfs_by _) rfl)) (by kernel_rfl) rfl (by kernel_rfl) rfl rfl rfl (by kernel_rfl) rfl, by omega, by omega⟩
    | succ k =>
      simp -implicitDefEqProofs only [sims.1, fx.1, tick_on, calleeK, List.getElem?_toArray, extractV, oneV, faddrK, nonnil, b_shr, b_shl, eq_self, beq_self_eq_true, fieldK, Option.bind_some, Option.map_some, Option.bind_none, Option.map_none, List.map_cons, List.map_nil, List.getD_cons_zero, List.getD_cons_succ, List.getD_nil, List.length_nil, List.length_cons, List.length_set, List.nil_append, List.cons_append, List.append_nil, List.getElem?_cons_zero, List.getElem?_cons_succ, List.getElem?_nil, List.set_cons_zero, List.set_cons_succ, Nat.reduceAdd, Nat.zero_add, Nat.add_zero, Nat.mul_one, Nat.mul_zero, Nat.zero_mul, Nat.reduceMul, Nat.reduceSub, Nat.reduceEqDiff, Nat.reduceLT, Nat.reduceLeDiff, Nat.reduceBEq, Nat.reduceBNe, Nat.succ_ne_self, reduceIte, if_true, if_false, ite_self, decide_true, decide_false, Bool.not_true, Bool.not_false, Bool.and_true, Bool.true_and, Bool.and_false, Bool.false_and, Bool.or_true, Bool.true_or, Bool.or_false, Bool.false_or, cond_true, cond_false, Int.reduceEq, Int.reduceLT, Int.reduceLE, Int.reduceNe, Int.reduceToNat, bV, mV, hidx, geI, e1, w1, w2, n1, Int.toNat_natCast, s1, w3, bs22]
      have ap := ap22 [rowB (putB x n (k + 1)), rowB [x / 2 ^ (8 * (n - 1 - (k + 1))) % 256]] (putB x n (k + 1)) _ 1 0 rfl rfl (by rw [putB_len]; omega)
      rw [putB_len, ← putB_snoc] at ap
      refine bindO_some' ap ?_
      simp -implicitDefEqProofs only [sims.1, fx.1, tick_on, calleeK, List.getElem?_toArray, extractV, oneV, faddrK, nonnil, b_shr, b_shl, eq_self, beq_self_eq_true, fieldK, Option.bind_some, Option.map_some, Option.bind_none, Option.map_none, List.map_cons, List.map_nil, List.getD_cons_zero, List.getD_cons_succ, List.getD_nil, List.length_nil, List.length_cons, List.length_set, List.nil_append, List.cons_append, List.append_nil, List.getElem?_cons_zero, List.getElem?_cons_succ, List.getElem?_nil, List.set_cons_zero, List.set_cons_succ, Nat.reduceAdd, Nat.zero_add, Nat.add_zero, Nat.mul_one, Nat.mul_zero, Nat.zero_mul, Nat.reduceMul, Nat.reduceSub, Nat.reduceEqDiff, Nat.reduceLT, Nat.reduceLeDiff, Nat.reduceBEq, Nat.reduceBNe, Nat.succ_ne_self, reduceIte, if_true, if_false, ite_self, decide_true, decide_false, Bool.not_true, Bool.not_false, Bool.and_true, Bool.true_and, Bool.and_false, Bool.false_and, Bool.or_true, Bool.true_or, Bool.or_false, Bool.false_or, cond_true, cond_false, Int.reduceEq, Int.reduceLT, Int.reduceLE, Int.reduceNe, Int.reduceToNat, w5]
      exact ⟨k + 2, canon_flat (vs' := [.int .u64 (x : Int), .int .i64 ((n : Int) - 1 - ((k + 1 + 1 : Nat) : Int)), .sl 1 0 0 (k + 2)]) [.int .u64 (x : Int), .int .i64 ((n : Int) - 1 - ((k + 1 + 1 : Nat) : Int)), .sl 1 2 0 (k + 2)] [2] (nfM_cons rfl (nfM_cons (nfs_by _) (nfM_cons (nfs_by _) rfl))) (by kernel_rfl) rfl (by kernel_rfl) rfl rfl rfl (by kernel_rfl) rfl, by omega, by omega⟩
  · obtain rfl : k = n := by omega
    have hidx : (k : Int) - 1 - (k : Int) = -1 := by omega
    have c1 : decide ((0 : Int) ≤ -1) = false := rfl
    simp -implicitDefEqProofs only [sims.1, fx.1, tick_on, calleeK, List.getElem?_toArray, extractV, oneV, faddrK, nonnil, b_shr, b_shl, eq_self, beq_self_eq_true, fieldK, Option.bind_some, Option.map_some, Option.bind_none, Option.map_none, List.map_cons, List.map_nil, List.getD_cons_zero, List.getD_cons_succ, List.getD_nil, List.length_nil, List.length_cons, List.length_set, List.nil_append, List.cons_append, List.append_nil, List.getElem?_cons_zero, List.getElem?_cons_succ, List.getElem?_nil, List.set_cons_zero, List.set_cons_succ, Nat.reduceAdd, Nat.zero_add, Nat.add_zero, Nat.mul_one, Nat.mul_zero, Nat.zero_mul, Nat.reduceMul, Nat.reduceSub, Nat.reduceEqDiff, Nat.reduceLT, Nat.reduceLeDiff, Nat.reduceBEq, Nat.reduceBNe, Nat.succ_ne_self, reduceIte, if_true, if_false, ite_self, decide_true, decide_false, Bool.not_true, Bool.not_false, Bool.and_true, Bool.true_and, Bool.and_false, Bool.false_and, Bool.or_true, Bool.true_or, Bool.or_false, Bool.false_or, cond_true, cond_false, Int.reduceEq, Int.reduceLT, Int.reduceLE, Int.reduceNe, Int.reduceToNat, hidx, c1]
def bW (q : Nat) : Nat → V
  | 0 => .sl 1 0 0 q
  | k + 1 => .sl 1 1 0 (q + (k + 1))
def mW (l : List Nat) (x n : Nat) : Nat → Mem
  | 0 => [rowB l]
  | k + 1 => [.dead, rowB (l ++ putB x n (k + 1))]
set_option maxHeartbeats 1000000 in
theorem snd36s (l : List Nat) (hl : l.length < 100000) (x n : Nat) (h0 : 0 < n) (hn : n ≤ 8) : Snd Try.prog 50 [.sl 1 0 0 l.length, .int .u64 (x : Int), .int .i64 (n : Int)] [rowB l] fun r => r = .ret (bW l.length n) (mW l x n n) := by
  refine Snd_of_W fol rfl rfl (by kernel_rfl) (by kernel_rfl) ?_
  have w0 := wz ((n : Int) - 1) (by omega) (by omega)
  simp -implicitDefEqProofs only [sims.1, fx.1, tick_on, calleeK, List.getElem?_toArray, extractV, oneV, faddrK, nonnil, b_shr, b_shl, eq_self, beq_self_eq_true, fieldK, Option.bind_some, Option.map_some, Option.bind_none, Option.map_none, List.map_cons, List.map_nil, List.getD_cons_zero, List.getD_cons_succ, List.getD_nil, List.length_nil, List.length_cons, List.length_set, List.nil_append, List.cons_append, List.append_nil, List.getElem?_cons_zero, List.getElem?_cons_succ, List.getElem?_nil, List.set_cons_zero, List.set_cons_succ, Nat.reduceAdd, Nat.zero_add, Nat.add_zero, Nat.mul_one, Nat.mul_zero, Nat.zero_mul, Nat.reduceMul, Nat.reduceSub, Nat.reduceEqDiff, Nat.reduceLT, Nat.reduceLeDiff, Nat.reduceBEq, Nat.reduceBNe, Nat.succ_ne_self, reduceIte, if_true, if_false, ite_self, decide_true, decide_false, Bool.not_true, Bool.not_false, Bool.and_true, Bool.true_and, Bool.and_false, Bool.false_and, Bool.or_true, Bool.true_or, Bool.or_false, Bool.false_or, cond_true, cond_false, Int.reduceEq, Int.reduceLT, Int.reduceLE, Int.reduceNe, Int.reduceToNat, w0]
  refine W_loop (fun k : Nat => (mkEnv [(1, .int .u64 (x : Int)), (2, .int .i64 ((n : Int) - 1 - (k : Int))), (0, bW l.length k)], mW l x n k)) (fun k => k ≤ n) (fun k => n + 1 - k) 0
    (canon_flat (vs' := [.int .u64 (x : Int), .int .i64 ((n : Int) - 1 - 0), .sl 1 0 0 l.length]) [.int .u64 (x : Int), .int .i64 ((n : Int) - 1 - 0), .sl 1 0 0 l.length] [0] (nfM_cons (nfs_by _) rfl) (by simp only [Int.sub_zero]; kernel_rfl) rfl (by kernel_rfl) rfl rfl rfl (by kernel_rfl) rfl) (by omega) ?_
  intro k h1
  rcases Nat.lt_or_ge k n with hk | hk
  · have hidx : (n : Int) - 1 - (k : Int) = ((n - 1 - k : Nat) : Int) := by omega
    have w1 := wz (8 * ((n - 1 - k : Nat) : Int)) (by omega) (by omega)
    have e1 : 8 * ((n - 1 - k : Nat) : Int) = ((8 * (n - 1 - k) : Nat) : Int) := by omega
    have w2 := wrapU (8 * (n - 1 - k)) (by omega)
    have s1 := shrW x (8 * (n - 1 - k)) (by omega)
    have n1 : ¬ (((8 * (n - 1 - k) : Nat) : Int) < 0) := by omega
    have w3 := wz8 (x / 2 ^ (8 * (n - 1 - k)))
    have w4 := wz (((n - 1 - k : Nat) : Int) - 1) (by omega) (by omega)
    have e4 : ((n - 1 - k : Nat) : Int) - 1 = (n : Int) - 1 - ((k + 1 : Nat) : Int) := by omega
    rw [e1] at w1
    have w5 := w4.trans e4
    clear w4 e4
    cases k with
    | zero =>
      simp -implicitDefEqProofs only [sims.1, fx.1, tick_on, calleeK, List.getElem?_toArray, extractV, oneV, faddrK, nonnil, b_shr, b_shl, eq_self, beq_self_eq_true, fieldK, Option.bind_some, Option.map_some, Option.bind_none, Option.map_none, List.map_cons, List.map_nil, List.getD_cons_zero, List.getD_cons_succ, List.getD_nil, List.length_nil, List.length_cons, List.length_set, List.nil_append, List.cons_append, List.append_nil, List.getElem?_cons_zero, List.getElem?_cons_succ, List.getElem?_nil, List.set_cons_zero, List.set_cons_succ, Nat.reduceAdd, Nat.zero_add, Nat.add_zero, Nat.mul_one, Nat.mul_zero, Nat.zero_mul, Nat.reduceMul, Nat.reduceSub, Nat.reduceEqDiff, Nat.reduceLT, Nat.reduceLeDiff, Nat.reduceBEq, Nat.reduceBNe, Nat.succ_ne_self, reduceIte, if_true, if_false, ite_self, decide_true, decide_false, Bool.not_true, Bool.not_false, Bool.and_true, Bool.true_and, Bool.and_false, Bool.false_and, Bool.or_true, Bool.true_or, Bool.or_false, Bool.false_or, cond_true, cond_false, Int.reduceEq, Int.reduceLT, Int.reduceLE, Int.reduceNe, Int.reduceToNat, bW, mV, hidx, geI, e1, w1, w2, n1, Int.toNat_natCast, s1, w3, bs22]
      have ap := ap22 [rowB l, rowB [x / 2 ^ (8 * (n - 1 - 0)) % 256]] l _ 1 0 rfl rfl (by omega)
      refine bindO_some' ap ?_
      simp -implicitDefEqProofs only [sims.1, fx.1, tick_on, calleeK, List.getElem?_toArray, extractV, oneV, faddrK, nonnil, b_shr, b_shl, eq_self, beq_self_eq_true, fieldK, Option.bind_some, Option.map_some, Option.bind_none, Option.map_none, List.map_cons, List.map_nil, List.getD_cons_zero, List.getD_cons_succ, List.getD_nil, List.length_nil, List.length_cons, List.length_set, List.nil_append, List.cons_append, List.append_nil, List.getElem?_cons_zero, List.getElem?_cons_succ, List.getElem?_nil, List.set_cons_zero, List.set_cons_succ, Nat.reduceAdd, Nat.zero_add, Nat.add_zero, Nat.mul_one, Nat.mul_zero, Nat.zero_mul, Nat.reduceMul, Nat.reduceSub, Nat.reduceEqDiff, Nat.reduceLT, Nat.reduceLeDiff, Nat.reduceBEq, Nat.reduceBNe, Nat.succ_ne_self, reduceIte, if_true, if_false, ite_self, decide_true, decide_false, Bool.not_true, Bool.not_false, Bool.and_true, Bool.true_and, Bool.and_false, Bool.false_and, Bool.or_true, Bool.true_or, Bool.or_false, Bool.false_or, cond_true, cond_false, Int.reduceEq, Int.reduceLT, Int.reduceLE, Int.reduceNe, Int.reduceToNat, w5]
      exact ⟨1, canon_flat (vs' := [.int .u64 (x : Int), .int .i64 ((n : Int) - 1 - ((0 + 1 : Nat) : Int)), .sl 1 1 0 (l.length + 1)]) [.int .u64 (x : Int), .int .i64 ((n : Int) - 1 - ((0 + 1 : Nat) : Int)), .sl 1 2 0 (l.length + 1)] [0, 2] (nfM_cons rfl (nfM_cons (nfs_by _) (nfM_cons (nfs_by _) rfl))) (by kernel_rfl) rfl (by kernel_rfl) rfl rfl rfl (by kernel_rfl) rfl, by omega, by omega⟩
    | succ k =>
      simp -implicitDefEqProofs only [sims.1, fx.1, tick_on, calleeK, List.getElem?_toArray, extractV, oneV, faddrK, nonnil, b_shr, b_shl, eq_self, beq_self_eq_true, fieldK, Option.bind_some, Option.map_some, Option.bind_none, Option.map_none, List.map_cons, List.map_nil, List.getD_cons_zero, List.getD_cons_succ, List.getD_nil, List.length_nil, List.length_cons, List.length_set, List.nil_append, List.cons_append, List.append_nil, List.getElem?_cons_zero, List.getElem?_cons_succ, List.getElem?_nil, List.set_cons_zero, List.set_cons_succ, Nat.reduceAdd, Nat.zero_add, Nat.add_zero, Nat.mul_one, Nat.mul_zero, Nat.zero_mul, Nat.reduceMul, Nat.reduceSub, Nat.reduceEqDiff, Nat.reduceLT, Nat.reduceLeDiff, Nat.reduceBEq, Nat.reduceBNe, Nat.succ_ne_self, reduceIte, if_true, if_false, ite_self, decide_true, decide_false, Bool.not_true, Bool.not_false, Bool.and_true, Bool.true_and, Bool.and_false, Bool.false_and, Bool.or_true, Bool.true_or, Bool.or_false, Bool.false_or, cond_true, cond_false, Int.reduceEq, Int.reduceLT, Int.reduceLE, Int.reduceNe, Int.reduceToNat, bW, mV, hidx, geI, e1, w1, w2, n1, Int.toNat_natCast, s1, w3, bs22]
      have ap := ap22 [.dead, rowB (l ++ putB x n (k + 1)), rowB [x / 2 ^ (8 * (n - 1 - (k + 1))) % 256]] (l ++ putB x n (k + 1)) _ 2 1 rfl rfl (by rw [List.length_append, putB_len]; omega)
      rw [List.length_append, putB_len, List.append_assoc, ← putB_snoc] at ap
      refine bindO_some' ap ?_
      simp -implicitDefEqProofs only [sims.1, fx.1, tick_on, calleeK, List.getElem?_toArray, extractV, oneV, faddrK, nonnil, b_shr, b_shl, eq_self, beq_self_eq_true, fieldK, Option.bind_some, Option.map_some, Option.bind_none, Option.map_none, List.map_cons, List.map_nil, List.getD_cons_zero, List.getD_cons_succ, List.getD_nil, List.length_nil, List.length_cons, List.length_set, List.nil_append, List.cons_append, List.append_nil, List.getElem?_cons_zero, List.getElem?_cons_succ, List.getElem?_nil, List.set_cons_zero, List.set_cons_succ, Nat.reduceAdd, Nat.zero_add, Nat.add_zero, Nat.mul_one, Nat.mul_zero, Nat.zero_mul, Nat.reduceMul, Nat.reduceSub, Nat.reduceEqDiff, Nat.reduceLT, Nat.reduceLeDiff, Nat.reduceBEq, Nat.reduceBNe, Nat.succ_ne_self, reduceIte, if_true, if_false, ite_self, decide_true, decide_false, Bool.not_true, Bool.not_false, Bool.and_true, Bool.true_and, Bool.and_false, Bool.false_and, Bool.or_true, Bool.true_or, Bool.or_false, Bool.false_or, cond_true, cond_false, Int.reduceEq, Int.reduceLT, Int.reduceLE, Int.reduceNe, Int.reduceToNat, w5]
      exact ⟨k + 2, canon_flat (vs' := [.int .u64 (x : Int), .int .i64 ((n : Int) - 1 - ((k + 1 + 1 : Nat) : Int)), .sl 1 1 0 (l.length + (k + 2))]) [.int .u64 (x : Int), .int .i64 ((n : Int) - 1 - ((k + 1 + 1 : Nat) : Int)), .sl 1 3 0 (l.length + (k + 1) + 1)] [0, 3] (nfM_cons rfl (nfM_cons rfl (nfM_cons (nfs_by _) (nfM_cons (nfs_by _) rfl)))) (by kernel_rfl) rfl (by kernel_rfl) rfl rfl rfl (by kernel_rfl) rfl, by omega, by omega⟩
  · obtain rfl : k = n := by omega
    have hidx : (k : Int) - 1 - (k : Int) = -1 := by omega
    have c1 : decide ((0 : Int) ≤ -1) = false := rfl
    simp -implicitDefEqProofs only [sims.1, fx.1, tick_on, calleeK, List.getElem?_toArray, extractV, oneV, faddrK, nonnil, b_shr, b_shl, eq_self, beq_self_eq_true, fieldK, Option.bind_some, Option.map_some, Option.bind_none, Option.map_none, List.map_cons, List.map_nil, List.getD_cons_zero, List.getD_cons_succ, List.getD_nil, List.length_nil, List.length_cons, List.length_set, List.nil_append, List.cons_append, List.append_nil, List.getElem?_cons_zero, List.getElem?_cons_succ, List.getElem?_nil, List.set_cons_zero, List.set_cons_succ, Nat.reduceAdd, Nat.zero_add, Nat.add_zero, Nat.mul_one, Nat.mul_zero, Nat.zero_mul, Nat.reduceMul, Nat.reduceSub, Nat.reduceEqDiff, Nat.reduceLT, Nat.reduceLeDiff, Nat.reduceBEq, Nat.reduceBNe, Nat.succ_ne_self, reduceIte, if_true, if_false, ite_self, decide_true, decide_false, Bool.not_true, Bool.not_false, Bool.and_true, Bool.true_and, Bool.and_false, Bool.false_and, Bool.or_true, Bool.true_or, Bool.or_false, Bool.false_or, cond_true, cond_false, Int.reduceEq, Int.reduceLT, Int.reduceLE, Int.reduceNe, Int.reduceToNat, hidx, c1]
end Go.Proofs.Ytpmbhjmlghoogaa
