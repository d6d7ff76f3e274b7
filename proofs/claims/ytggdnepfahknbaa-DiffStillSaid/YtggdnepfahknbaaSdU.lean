/- Blocks that change places; a turn; insertion sort: elements of kind U. No condition. -/
import Derived.Test.YtggdnepfahknbaaKp
import Derived.Test.YtggdnepfahknbaaSf
import Derived.Test.YtggdnepfahknbaaFx
namespace Go.Proofs.Ytggdnepfahknbaa
open Go Ab
set_option linter.unusedSimpArgs false
set_option linter.unusedVariables false
set_option maxRecDepth 20000

theorem rs41 (env : Env) (m : Mem) : resV Try.prog Try.prog.funcs[41] env m = some (.tup []) := rfl
theorem rs40 (env : Env) (m : Mem) : resV Try.prog Try.prog.funcs[40] env m = some (.tup []) := rfl
theorem rs38 (env : Env) (m : Mem) : resV Try.prog Try.prog.funcs[38] env m = some (.tup []) := rfl

section
variable {α : Type} {enc : α → List V} {ev : α → V}

set_option maxHeartbeats 2000000 in
theorem snd41 (hS : Elt true 25 enc ev) {m0 : Mem} {q : Nat} (hq : q < m0.length) (F : V) (f : Nat → α) (n a b k : Nat) (h1 : a + k ≤ b) (h2 : b + k ≤ n) (hn : n < big) :
    Snd Try.prog 41 [.sl 25 q 0 n, .int .i64 (a : Int), .int .i64 (b : Int), .int .i64 (k : Int), F] (RW m0 q 36 25 ((seg f 0 n).map enc)) fun r => r = .ret (.tup []) (RW m0 q 36 25 ((seg (swf f a b k) 0 n).map enc)) := by
  have hbig : big = 4611686018427387904 := rfl
  refine Snd_of_W fol rfl rfl (by kernel_rfl) (by kernel_rfl) ?_
  simp -implicitDefEqProofs only [sims.1, fx.1, keeps.1, tick_on, calleeK, extractV, oneV, faddrK, nonnil, b_shr, b_shl, fieldK, Nat.reduceAdd, Nat.reduceMul, Nat.reduceSub, Nat.reduceEqDiff, Nat.reduceLT, Nat.reduceLeDiff, Nat.reduceBEq, Nat.reduceBNe, reduceIte, Int.reduceEq, Int.reduceLT, Int.reduceLE, Int.reduceNe, Int.reduceToNat]
  refine W_loopM (fun i : Nat => [(3, .int .i64 (k : Int)), (2, .int .i64 (b : Int)), (0, .sl 25 q 0 n), (1, .int .i64 (a : Int)), (10, .int .i64 (i : Int))]) (fun i m => i ≤ k ∧ m = RW m0 q 36 25 ((seg (swf f a b i) 0 n).map enc)) (fun i => k - i) 0 (by kernel_rfl) ⟨by omega, by rw [swf_zero]⟩ ?_
  rintro i m ⟨hi, rfl⟩
  rcases Nat.lt_or_ge i k with h | h
  · have c1 : decide (i < k) = true := by simpa using h
    have w1 := addN a i (by omega)
    have w2 := addN b i (by omega)
    have w3 := add1N i (by omega)
    have i1 : ∀ {kk : IntKind}, iaddrS 25 (.sl 25 q 0 n) (.int kk ((a + i : Nat) : Int)) = some (.ep 25 q (a + i) 0) := row_ia (by omega)
    have i2 : ∀ {kk : IntKind}, iaddrS 25 (.sl 25 q 0 n) (.int kk ((b + i : Nat) : Int)) = some (.ep 25 q (b + i) 0) := row_ia (by omega)
    have l1 := row_ld hS hq (ty := 36) (f := swf f a b i) (n := n) (i := a + i) (by omega)
    have l2 := row_ld hS hq (ty := 36) (f := swf f a b i) (n := n) (i := b + i) (by omega)
    have s1 := row_st hS hq (ty := 36) (f := swf f a b i) (n := n) (i := a + i) (x := swf f a b i (b + i)) (by omega)
    have s2 := row_st hS hq (ty := 36) (f := up (swf f a b i) (a + i) (swf f a b i (b + i))) (n := n) (i := b + i) (x := swf f a b i (a + i)) (by omega)
    simp -implicitDefEqProofs only [sims.1, fx.1, keeps.1, tick_on, calleeK, extractV, oneV, faddrK, nonnil, b_shr, b_shl, fieldK, Nat.reduceAdd, Nat.reduceMul, Nat.reduceSub, Nat.reduceEqDiff, Nat.reduceLT, Nat.reduceLeDiff, Nat.reduceBEq, Nat.reduceBNe, reduceIte, Int.reduceEq, Int.reduceLT, Int.reduceLE, Int.reduceNe, Int.reduceToNat, ltNat, c1]
    refine w_noisy ?_
    simp -implicitDefEqProofs only [sims.1, fx.1, keeps.1, tick_on, calleeK, extractV, oneV, faddrK, nonnil, b_shr, b_shl, fieldK, Nat.reduceAdd, Nat.reduceMul, Nat.reduceSub, Nat.reduceEqDiff, Nat.reduceLT, Nat.reduceLeDiff, Nat.reduceBEq, Nat.reduceBNe, reduceIte, Int.reduceEq, Int.reduceLT, Int.reduceLE, Int.reduceNe, Int.reduceToNat, w1, w2, i1, i2, l1, l2, s1, s2]
    iterate 2
      (refine orderP_of (accB_lt (rd_ep hq) (by kernel_rfl)) ?_
       simp -implicitDefEqProofs only [sims.1, fx.1, keeps.1, tick_on, calleeK, extractV, oneV, faddrK, nonnil, b_shr, b_shl, fieldK, Nat.reduceAdd, Nat.reduceMul, Nat.reduceSub, Nat.reduceEqDiff, Nat.reduceLT, Nat.reduceLeDiff, Nat.reduceBEq, Nat.reduceBNe, reduceIte, Int.reduceEq, Int.reduceLT, Int.reduceLE, Int.reduceNe, Int.reduceToNat, w1, w2, i1, i2, l1, l2, s1, s2])
    iterate 2
      (refine orderP_of (accB_lt (wr_ep hq) (by kernel_rfl)) ?_
       simp -implicitDefEqProofs only [sims.1, fx.1, keeps.1, tick_on, calleeK, extractV, oneV, faddrK, nonnil, b_shr, b_shl, fieldK, Nat.reduceAdd, Nat.reduceMul, Nat.reduceSub, Nat.reduceEqDiff, Nat.reduceLT, Nat.reduceLeDiff, Nat.reduceBEq, Nat.reduceBNe, reduceIte, Int.reduceEq, Int.reduceLT, Int.reduceLE, Int.reduceNe, Int.reduceToNat, w1, w2, i1, i2, l1, l2, s1, s2])
    have hw := swf_step f (show a + i < b by omega)
    simp -implicitDefEqProofs only [sims.1, fx.1, keeps.1, tick_on, calleeK, extractV, oneV, faddrK, nonnil, b_shr, b_shl, fieldK, Nat.reduceAdd, Nat.reduceMul, Nat.reduceSub, Nat.reduceEqDiff, Nat.reduceLT, Nat.reduceLeDiff, Nat.reduceBEq, Nat.reduceBNe, reduceIte, Int.reduceEq, Int.reduceLT, Int.reduceLE, Int.reduceNe, Int.reduceToNat, w3, hw]
    exact ⟨i + 1, by kernel_rfl, ⟨by omega, rfl⟩, by omega⟩
  · have c1 : decide (i < k) = false := by simpa using h
    obtain rfl : i = k := by omega
    simp -implicitDefEqProofs only [sims.1, fx.1, keeps.1, tick_on, calleeK, extractV, oneV, faddrK, nonnil, b_shr, b_shl, fieldK, Nat.reduceAdd, Nat.reduceMul, Nat.reduceSub, Nat.reduceEqDiff, Nat.reduceLT, Nat.reduceLeDiff, Nat.reduceBEq, Nat.reduceBNe, reduceIte, Int.reduceEq, Int.reduceLT, Int.reduceLE, Int.reduceNe, Int.reduceToNat, ltNat, c1, rs41]

set_option maxHeartbeats 2000000 in
theorem snd40 (hS : Elt true 25 enc ev) {m0 : Mem} {q : Nat} (hq : q < m0.length) (F : V) (f : Nat → α) (n a m b : Nat) (h1 : a < m) (h2 : m < b) (h3 : b ≤ n) (hn : n < big) :
    Snd Try.prog 40 [.sl 25 q 0 n, .int .i64 (a : Int), .int .i64 (m : Int), .int .i64 (b : Int), F] (RW m0 q 36 25 ((seg f 0 n).map enc)) fun r => r = .ret (.tup []) (RW m0 q 36 25 ((seg (rot f a m b) 0 n).map enc)) := by
  have hbig : big = 4611686018427387904 := rfl
  refine Snd_of_W fol rfl rfl (by kernel_rfl) (by kernel_rfl) ?_
  have w1 := subN m a (by omega) (by omega)
  have w2 := subN b m (by omega) (by omega)
  simp -implicitDefEqProofs only [sims.1, fx.1, keeps.1, tick_on, calleeK, extractV, oneV, faddrK, nonnil, b_shr, b_shl, fieldK, Nat.reduceAdd, Nat.reduceMul, Nat.reduceSub, Nat.reduceEqDiff, Nat.reduceLT, Nat.reduceLeDiff, Nat.reduceBEq, Nat.reduceBNe, reduceIte, Int.reduceEq, Int.reduceLT, Int.reduceLE, Int.reduceNe, Int.reduceToNat, w1, w2]
  refine W_loopM (fun x : Nat × Nat × (Nat → α) => [(11, .int .i64 (x.2.1 : Int)), (0, .sl 25 q 0 n), (2, .int .i64 (m : Int)), (10, .int .i64 (x.1 : Int)), (4, F)])
    (fun x mm => 0 < x.1 ∧ 0 < x.2.1 ∧ x.1 ≤ m ∧ m + x.2.1 ≤ n ∧ rot x.2.2 (m - x.1) m (m + x.2.1) = rot f a m b ∧ mm = RW m0 q 36 25 ((seg x.2.2 0 n).map enc)) (fun x => x.1 + x.2.1) (m - a, b - m, f)
    (by kernel_rfl)
    ⟨by simp only; omega, by simp only; omega, by simp only; omega, by simp only; omega, by simp only; rw [show m - (m - a) = a by omega, show m + (b - m) = b by omega], rfl⟩ ?_
  rintro ⟨i, j, g⟩ mm ⟨k1, k2, k3, k4, k5, rfl⟩
  simp only at k1 k2 k3 k4 k5
  have w3 := subN m i (by omega) (by omega)
  rcases Nat.lt_trichotomy i j with h | h | h
  · have c1 : decide (i = j) = false := by simp; omega
    have c2 : decide (j < i) = false := by simp; omega
    have w4 := addN m j (by omega)
    have w5 := subN (m + j) i (by omega) (by omega)
    have w6 := subN j i (by omega) (by omega)
    simp -implicitDefEqProofs only [sims.1, fx.1, keeps.1, tick_on, calleeK, extractV, oneV, faddrK, nonnil, b_shr, b_shl, fieldK, Nat.reduceAdd, Nat.reduceMul, Nat.reduceSub, Nat.reduceEqDiff, Nat.reduceLT, Nat.reduceLeDiff, Nat.reduceBEq, Nat.reduceBNe, reduceIte, Int.reduceEq, Int.reduceLT, Int.reduceLE, Int.reduceNe, Int.reduceToNat, ltNat, eqNat, beqNat, c1, c2, w3, w4, w5]
    refine callD_all (snd41 hS hq F g n (m - i) (m + j - i) i (by omega) (by omega) hn) en41 ?_
    simp -implicitDefEqProofs only [sims.1, fx.1, keeps.1, tick_on, calleeK, extractV, oneV, faddrK, nonnil, b_shr, b_shl, fieldK, Nat.reduceAdd, Nat.reduceMul, Nat.reduceSub, Nat.reduceEqDiff, Nat.reduceLT, Nat.reduceLeDiff, Nat.reduceBEq, Nat.reduceBNe, reduceIte, Int.reduceEq, Int.reduceLT, Int.reduceLE, Int.reduceNe, Int.reduceToNat, w6]
    refine ⟨(i, j - i, swf g (m - i) (m + j - i) i), by kernel_rfl, ⟨by simp only; omega, by simp only; omega, by simp only; omega, by simp only; omega, ?_, rfl⟩, by simp only; omega⟩
    simp only
    rw [rot_lt k3 h, k5]
  · subst h
    have c1 : decide (i = i) = true := by simp
    simp -implicitDefEqProofs only [sims.1, fx.1, keeps.1, tick_on, calleeK, extractV, oneV, faddrK, nonnil, b_shr, b_shl, fieldK, Nat.reduceAdd, Nat.reduceMul, Nat.reduceSub, Nat.reduceEqDiff, Nat.reduceLT, Nat.reduceLeDiff, Nat.reduceBEq, Nat.reduceBNe, reduceIte, Int.reduceEq, Int.reduceLT, Int.reduceLE, Int.reduceNe, Int.reduceToNat, eqNat, beqNat, c1, w3]
    refine callD_all (snd41 hS hq F g n (m - i) m i (by omega) (by omega) hn) en41 ?_
    rw [rot_eq k3, k5]
    simp -implicitDefEqProofs only [sims.1, fx.1, keeps.1, tick_on, calleeK, extractV, oneV, faddrK, nonnil, b_shr, b_shl, fieldK, Nat.reduceAdd, Nat.reduceMul, Nat.reduceSub, Nat.reduceEqDiff, Nat.reduceLT, Nat.reduceLeDiff, Nat.reduceBEq, Nat.reduceBNe, reduceIte, Int.reduceEq, Int.reduceLT, Int.reduceLE, Int.reduceNe, Int.reduceToNat, rs40]
  · have c1 : decide (i = j) = false := by simp; omega
    have c2 : decide (j < i) = true := by simpa using h
    have w6 := subN i j (by omega) (by omega)
    simp -implicitDefEqProofs only [sims.1, fx.1, keeps.1, tick_on, calleeK, extractV, oneV, faddrK, nonnil, b_shr, b_shl, fieldK, Nat.reduceAdd, Nat.reduceMul, Nat.reduceSub, Nat.reduceEqDiff, Nat.reduceLT, Nat.reduceLeDiff, Nat.reduceBEq, Nat.reduceBNe, reduceIte, Int.reduceEq, Int.reduceLT, Int.reduceLE, Int.reduceNe, Int.reduceToNat, ltNat, eqNat, beqNat, c1, c2, w3]
    refine callD_all (snd41 hS hq F g n (m - i) m j (by omega) (by omega) hn) en41 ?_
    simp -implicitDefEqProofs only [sims.1, fx.1, keeps.1, tick_on, calleeK, extractV, oneV, faddrK, nonnil, b_shr, b_shl, fieldK, Nat.reduceAdd, Nat.reduceMul, Nat.reduceSub, Nat.reduceEqDiff, Nat.reduceLT, Nat.reduceLeDiff, Nat.reduceBEq, Nat.reduceBNe, reduceIte, Int.reduceEq, Int.reduceLT, Int.reduceLE, Int.reduceNe, Int.reduceToNat, w6]
    refine ⟨(i - j, j, swf g (m - i) m j), by kernel_rfl, ⟨by simp only; omega, by simp only; omega, by simp only; omega, by simp only; omega, ?_, rfl⟩, by simp only; omega⟩
    simp only
    rw [rot_gt k3 h, k5]

variable {lt : α → α → Bool}
set_option maxHeartbeats 4000000 in
theorem snd38 (ho : Ord α lt) (hS : Elt true 25 enc ev) {m0 : Mem} {q : Nat} (hq : q < m0.length) (c : FuncId) (fi caps : List V) (n : Nat)
    (hc : Cmp Try.prog lt ev c fi caps fun g => RW m0 q 36 25 ((seg g 0 n).map enc)) (f : Nat → α) (a b : Nat) (h1 : a ≤ b) (h2 : b ≤ n) (hn : n < big) :
    Snd Try.prog 38 [.sl 25 q 0 n, .int .i64 (a : Int), .int .i64 (b : Int), .fn c fi caps] (RW m0 q 36 25 ((seg f 0 n).map enc)) fun r => ∃ f', r = .ret (.tup []) (RW m0 q 36 25 ((seg f' 0 n).map enc)) ∧ seg f' a b = ssort lt (seg f a b) ∧ ∀ x, (x < a ∨ b ≤ x) → f' x = f x := by
  have hbig : big = 4611686018427387904 := rfl
  refine Snd_of_W fol rfl rfl (by kernel_rfl) (by kernel_rfl) ?_
  have w1 := add1N a (by omega)
  simp -implicitDefEqProofs only [sims.1, fx.1, keeps.1, tick_on, calleeK, extractV, oneV, faddrK, nonnil, b_shr, b_shl, fieldK, Nat.reduceAdd, Nat.reduceMul, Nat.reduceSub, Nat.reduceEqDiff, Nat.reduceLT, Nat.reduceLeDiff, Nat.reduceBEq, Nat.reduceBNe, reduceIte, Int.reduceEq, Int.reduceLT, Int.reduceLE, Int.reduceNe, Int.reduceToNat, w1]
  refine W_loopM (fun x : Nat × (Nat → α) => [(2, .int .i64 (b : Int)), (1, .int .i64 (a : Int)), (3, .fn c fi caps), (0, .sl 25 q 0 n), (8, .int .i64 (x.1 : Int))])
    (fun x mm => a < x.1 ∧ (x.1 ≤ b ∨ x.1 = a + 1) ∧ seg x.2 a x.1 = ssort lt (seg f a x.1) ∧ (∀ y, (y < a ∨ x.1 ≤ y) → x.2 y = f y) ∧ mm = RW m0 q 36 25 ((seg x.2 0 n).map enc)) (fun x => b + 1 - x.1) (a + 1, f)
    (by kernel_rfl)
    ⟨by simp only; omega, by simp, by simp only; rw [seg_one, ssort_one], fun _ _ => rfl, rfl⟩ ?_
  rintro ⟨i, g⟩ mm ⟨k1, k2, k3, k4, rfl⟩
  simp only at k1 k2 k3 k4
  rcases Nat.lt_or_ge i b with h | h
  · have c1 : decide (i < b) = true := by simpa using h
    have hsg : srf lt g a i := srf_seg ho (by rw [k3]; exact ssort_srt ho _)
    simp -implicitDefEqProofs only [sims.1, fx.1, keeps.1, tick_on, calleeK, extractV, oneV, faddrK, nonnil, b_shr, b_shl, fieldK, Nat.reduceAdd, Nat.reduceMul, Nat.reduceSub, Nat.reduceEqDiff, Nat.reduceLT, Nat.reduceLeDiff, Nat.reduceBEq, Nat.reduceBNe, reduceIte, Int.reduceEq, Int.reduceLT, Int.reduceLE, Int.reduceNe, Int.reduceToNat, ltNat, c1]
    refine W_loopM (fun j : Nat => [(9, .int .i64 (j : Int)), (8, .int .i64 (i : Int)), (2, .int .i64 (b : Int)), (1, .int .i64 (a : Int)), (3, .fn c fi caps), (0, .sl 25 q 0 n)])
      (fun j mm => a ≤ j ∧ j ≤ i ∧ (∀ y, j ≤ y → y < i → lt (g i) (g y) = true) ∧ mm = RW m0 q 36 25 ((seg (rot g j i (i + 1)) 0 n).map enc)) (fun j => j) i (by kernel_rfl) ⟨by omega, by omega, fun y _ _ => by omega, by rw [show rot g i i (i + 1) = g from rot_l]⟩ ?_
    rintro j mm ⟨j1, j2, j3, rfl⟩
    have fin : (j = a ∨ ∃ k, j = k + 1 ∧ lt (g i) (g k) = false) → seg (rot g j i (i + 1)) a (i + 1) = ssort lt (seg f a (i + 1)) ∧ ∀ y, (y < a ∨ i + 1 ≤ y) → rot g j i (i + 1) y = f y := fun he => by
      refine ⟨?_, fun y hy => ?_⟩
      · rw [ins_step ho j1 j2 hsg j3 he, k3, seg_snoc f (by omega), ssort_app ho, ssort_one, k4 i (by omega)]
      · rw [rot_out (by omega)]
        exact k4 y (by omega)
    have w2 := add1N i (by omega)
    rcases Nat.lt_or_ge a j with hj | hj
    · have c2 : decide (a < j) = true := by simpa using hj
      have w3 := sub1N j (by omega) (by omega)
      have i1 : ∀ {kk : IntKind}, iaddrS 25 (.sl 25 q 0 n) (.int kk (j : Int)) = some (.ep 25 q j 0) := row_ia (by omega)
      have i2 : ∀ {kk : IntKind}, iaddrS 25 (.sl 25 q 0 n) (.int kk ((j - 1 : Nat) : Int)) = some (.ep 25 q (j - 1) 0) := row_ia (by omega)
      have l1 := row_ld hS hq (ty := 36) (f := rot g j i (i + 1)) (n := n) (i := j) (by omega)
      have l2 := row_ld hS hq (ty := 36) (f := rot g j i (i + 1)) (n := n) (i := j - 1) (by omega)
      have ex : rot g j i (i + 1) j = g i := by
        unfold rot
        by_cases hji : j = i
        · subst hji
          rw [if_pos (by omega), if_pos (by omega)]
          congr 1; omega
        · rw [if_pos (by omega), if_pos (by omega)]
          congr 1; omega
      have ey : rot g j i (i + 1) (j - 1) = g (j - 1) := rot_out (by omega)
      have e0 : j - 1 + 1 = j := by omega
      cases e : lt (g i) (g (j - 1))
      · simp -implicitDefEqProofs only [sims.1, fx.1, keeps.1, tick_on, calleeK, extractV, oneV, faddrK, nonnil, b_shr, b_shl, fieldK, Nat.reduceAdd, Nat.reduceMul, Nat.reduceSub, Nat.reduceEqDiff, Nat.reduceLT, Nat.reduceLeDiff, Nat.reduceBEq, Nat.reduceBNe, reduceIte, Int.reduceEq, Int.reduceLT, Int.reduceLE, Int.reduceNe, Int.reduceToNat]
        refine w_quiet ?_
        simp -implicitDefEqProofs only [sims.1, fx.1, keeps.1, tick_on, calleeK, extractV, oneV, faddrK, nonnil, b_shr, b_shl, fieldK, Nat.reduceAdd, Nat.reduceMul, Nat.reduceSub, Nat.reduceEqDiff, Nat.reduceLT, Nat.reduceLeDiff, Nat.reduceBEq, Nat.reduceBNe, reduceIte, Int.reduceEq, Int.reduceLT, Int.reduceLE, Int.reduceNe, Int.reduceToNat, ltNat, c2, w3, i1, i2, l1, l2]
        refine hc _ _ _ _ fun z hz => ?_
        rw [ex, ey, e] at hz
        simp -implicitDefEqProofs only [sims.1, fx.1, keeps.1, tick_on, calleeK, extractV, oneV, faddrK, nonnil, b_shr, b_shl, fieldK, Nat.reduceAdd, Nat.reduceMul, Nat.reduceSub, Nat.reduceEqDiff, Nat.reduceLT, Nat.reduceLeDiff, Nat.reduceBEq, Nat.reduceBNe, reduceIte, Int.reduceEq, Int.reduceLT, Int.reduceLE, Int.reduceNe, Int.reduceToNat, hz, w2]
        obtain ⟨f1, f2⟩ := fin (.inr ⟨j - 1, by omega, e⟩)
        exact ⟨(i + 1, rot g j i (i + 1)), by kernel_rfl, ⟨by simp only; omega, by simp only; omega, f1, f2, rfl⟩, by simp only; omega⟩
      · simp -implicitDefEqProofs only [sims.1, fx.1, keeps.1, tick_on, calleeK, extractV, oneV, faddrK, nonnil, b_shr, b_shl, fieldK, Nat.reduceAdd, Nat.reduceMul, Nat.reduceSub, Nat.reduceEqDiff, Nat.reduceLT, Nat.reduceLeDiff, Nat.reduceBEq, Nat.reduceBNe, reduceIte, Int.reduceEq, Int.reduceLT, Int.reduceLE, Int.reduceNe, Int.reduceToNat]
        refine w_quiet ?_
        simp -implicitDefEqProofs only [sims.1, fx.1, keeps.1, tick_on, calleeK, extractV, oneV, faddrK, nonnil, b_shr, b_shl, fieldK, Nat.reduceAdd, Nat.reduceMul, Nat.reduceSub, Nat.reduceEqDiff, Nat.reduceLT, Nat.reduceLeDiff, Nat.reduceBEq, Nat.reduceBNe, reduceIte, Int.reduceEq, Int.reduceLT, Int.reduceLE, Int.reduceNe, Int.reduceToNat, ltNat, c2, w3, i1, i2, l1, l2]
        refine hc _ _ _ _ fun z hz => ?_
        rw [ex, ey, e] at hz
        have s1 := row_st hS hq (ty := 36) (f := rot g j i (i + 1)) (n := n) (i := j) (x := rot g j i (i + 1) (j - 1)) (by omega)
        have s2 := row_st hS hq (ty := 36) (f := up (rot g j i (i + 1)) j (rot g j i (i + 1) (j - 1))) (n := n) (i := j - 1) (x := rot g j i (i + 1) j) (by omega)
        simp -implicitDefEqProofs only [sims.1, fx.1, keeps.1, tick_on, calleeK, extractV, oneV, faddrK, nonnil, b_shr, b_shl, fieldK, Nat.reduceAdd, Nat.reduceMul, Nat.reduceSub, Nat.reduceEqDiff, Nat.reduceLT, Nat.reduceLeDiff, Nat.reduceBEq, Nat.reduceBNe, reduceIte, Int.reduceEq, Int.reduceLT, Int.reduceLE, Int.reduceNe, Int.reduceToNat, hz]
        refine w_noisy ?_
        simp -implicitDefEqProofs only [sims.1, fx.1, keeps.1, tick_on, calleeK, extractV, oneV, faddrK, nonnil, b_shr, b_shl, fieldK, Nat.reduceAdd, Nat.reduceMul, Nat.reduceSub, Nat.reduceEqDiff, Nat.reduceLT, Nat.reduceLeDiff, Nat.reduceBEq, Nat.reduceBNe, reduceIte, Int.reduceEq, Int.reduceLT, Int.reduceLE, Int.reduceNe, Int.reduceToNat, w3, i1, i2, l1, l2, s1, s2]
        iterate 2
          (refine orderP_of (accB_lt (rd_ep hq) (by kernel_rfl)) ?_
           simp -implicitDefEqProofs only [sims.1, fx.1, keeps.1, tick_on, calleeK, extractV, oneV, faddrK, nonnil, b_shr, b_shl, fieldK, Nat.reduceAdd, Nat.reduceMul, Nat.reduceSub, Nat.reduceEqDiff, Nat.reduceLT, Nat.reduceLeDiff, Nat.reduceBEq, Nat.reduceBNe, reduceIte, Int.reduceEq, Int.reduceLT, Int.reduceLE, Int.reduceNe, Int.reduceToNat, w3, i1, i2, l1, l2, s1, s2])
        iterate 2
          (refine orderP_of (accB_lt (wr_ep hq) (by kernel_rfl)) ?_
           simp -implicitDefEqProofs only [sims.1, fx.1, keeps.1, tick_on, calleeK, extractV, oneV, faddrK, nonnil, b_shr, b_shl, fieldK, Nat.reduceAdd, Nat.reduceMul, Nat.reduceSub, Nat.reduceEqDiff, Nat.reduceLT, Nat.reduceLeDiff, Nat.reduceBEq, Nat.reduceBNe, reduceIte, Int.reduceEq, Int.reduceLT, Int.reduceLE, Int.reduceNe, Int.reduceToNat, w3, i1, i2, l1, l2, s1, s2])
        have hd := rot_down (f := g) (j := j - 1) (i := i) (by omega)
        rw [e0] at hd
        simp -implicitDefEqProofs only [sims.1, fx.1, keeps.1, tick_on, calleeK, extractV, oneV, faddrK, nonnil, b_shr, b_shl, fieldK, Nat.reduceAdd, Nat.reduceMul, Nat.reduceSub, Nat.reduceEqDiff, Nat.reduceLT, Nat.reduceLeDiff, Nat.reduceBEq, Nat.reduceBNe, reduceIte, Int.reduceEq, Int.reduceLT, Int.reduceLE, Int.reduceNe, Int.reduceToNat, w3, hd]
        exact ⟨j - 1, by kernel_rfl, ⟨by omega, by omega, fun y y1 y2 => by
          rcases Nat.lt_or_ge y j with h' | h'
          · rw [show y = j - 1 by omega]; exact e
          · exact j3 y h' y2, rfl⟩, by omega⟩
    · have c2 : decide (a < j) = false := by simpa using hj
      simp -implicitDefEqProofs only [sims.1, fx.1, keeps.1, tick_on, calleeK, extractV, oneV, faddrK, nonnil, b_shr, b_shl, fieldK, Nat.reduceAdd, Nat.reduceMul, Nat.reduceSub, Nat.reduceEqDiff, Nat.reduceLT, Nat.reduceLeDiff, Nat.reduceBEq, Nat.reduceBNe, reduceIte, Int.reduceEq, Int.reduceLT, Int.reduceLE, Int.reduceNe, Int.reduceToNat]
      refine w_quiet ?_
      simp -implicitDefEqProofs only [sims.1, fx.1, keeps.1, tick_on, calleeK, extractV, oneV, faddrK, nonnil, b_shr, b_shl, fieldK, Nat.reduceAdd, Nat.reduceMul, Nat.reduceSub, Nat.reduceEqDiff, Nat.reduceLT, Nat.reduceLeDiff, Nat.reduceBEq, Nat.reduceBNe, reduceIte, Int.reduceEq, Int.reduceLT, Int.reduceLE, Int.reduceNe, Int.reduceToNat, ltNat, c2, w2]
      obtain ⟨f1, f2⟩ := fin (.inl (by omega))
      exact ⟨(i + 1, rot g j i (i + 1)), by kernel_rfl, ⟨by simp only; omega, by simp only; omega, f1, f2, rfl⟩, by simp only; omega⟩
  · have c1 : decide (i < b) = false := by simpa using h
    simp -implicitDefEqProofs only [sims.1, fx.1, keeps.1, tick_on, calleeK, extractV, oneV, faddrK, nonnil, b_shr, b_shl, fieldK, Nat.reduceAdd, Nat.reduceMul, Nat.reduceSub, Nat.reduceEqDiff, Nat.reduceLT, Nat.reduceLeDiff, Nat.reduceBEq, Nat.reduceBNe, reduceIte, Int.reduceEq, Int.reduceLT, Int.reduceLE, Int.reduceNe, Int.reduceToNat, ltNat, c1, rs38]
    refine ⟨g, rfl, ?_⟩
    rcases k2 with k2 | k2
    · obtain rfl : i = b := by omega
      exact ⟨k3, k4⟩
    · subst k2
      simp only [seg_one, ssort_one] at k3
      have ha : g a = f a := by
        exact (List.cons.inj k3).1
      have hall : g = f := by
        funext y
        by_cases hy : y = a
        · rw [hy, ha]
        · exact k4 y (by omega)
      subst hall
      refine ⟨?_, fun _ _ => rfl⟩
      rcases Nat.lt_or_ge a b with h' | h'
      · obtain rfl : b = a + 1 := by omega
        rw [seg_one, ssort_one]
      · rw [seg_none g h']
        rfl
end
end Go.Proofs.Ytggdnepfahknbaa
