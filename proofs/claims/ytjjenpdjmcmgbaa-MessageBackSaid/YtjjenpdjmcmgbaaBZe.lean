/- Widths; a match, written. No condition. The ways through a message, written. No condition. -/
import Derived.Test.YtjjenpdjmcmgbaaBZc
namespace Go.Proofs.Ytjjenpdjmcmgbaa
open Go Ab
set_option linter.unusedSimpArgs false
set_option linter.unusedVariables false
set_option maxRecDepth 20000
def wid : Nat → Nat
  | 0 => 48 | 1 => 48 | 2 => 16 | 3 => 12 | 4 => 32 | 5 => 32 | 6 => 8 | 7 => 16 | 8 => 16 | 9 => 16 | 10 => 16 | _ => 0
/-- In how many bytes a field stands. -/
def sz (j : Nat) : Nat := (wid j + 7) / 8
theorem bu139 : buildV Try.prog 139 [(0, .int .i64 48), (1, .int .i64 48), (2, .int .i64 16), (3, .int .i64 12), (4, .int .i64 32), (5, .int .i64 32), (6, .int .i64 8), (7, .int .i64 16), (8, .int .i64 16), (9, .int .i64 16), (10, .int .i64 16)] = some (.agg (cl .i64 11 fun i => (wid i : Int))) := by kernel_rfl
theorem ans76 : Ans Try.prog 76 [] (.agg (cl .i64 11 fun i => (wid i : Int))) := by
  refine Snd_of_W fol rfl rfl (by kernel_rfl) (by kernel_rfl) ?_
  simp -implicitDefEqProofs only [sims.1, fx.1, keeps.1, tick_on, calleeK, extractV, oneV, faddrK, nonnil, b_shr, b_shl, fieldK, Nat.reduceAdd, Nat.reduceMul, Nat.reduceSub, Nat.reduceEqDiff, Nat.reduceLT, Nat.reduceLeDiff, Nat.reduceBEq, Nat.reduceBNe, reduceIte, Int.reduceEq, Int.reduceLT, Int.reduceLE, Int.reduceNe, Int.reduceToNat, bu139, storeK_agg, splice_all, partK_all]
  exact ans_ret rfl
theorem ans75 (j : Nat) (h : j < 11) : Ans Try.prog 75 [.int .i8 (j : Int)] (.int .i64 (wid j : Int)) := by
  refine Snd_of_W fol rfl rfl (by kernel_rfl) (by kernel_rfl) ?_
  have h1 : decide ((j : Int) < 0) = false := by simp
  have h2 : decide ((11 : Int) ≤ (j : Int)) = false := by simp; omega
  simp -implicitDefEqProofs only [sims.1, fx.1, keeps.1, tick_on, calleeK, extractV, oneV, faddrK, nonnil, b_shr, b_shl, fieldK, Nat.reduceAdd, Nat.reduceMul, Nat.reduceSub, Nat.reduceEqDiff, Nat.reduceLT, Nat.reduceLeDiff, Nat.reduceBEq, Nat.reduceBNe, reduceIte, Int.reduceEq, Int.reduceLT, Int.reduceLE, Int.reduceNe, Int.reduceToNat, h1, h2]
  refine callD_ans ans76 en76 rfl nfs_cl ?_
  simp -implicitDefEqProofs only [sims.1, fx.1, keeps.1, tick_on, calleeK, extractV, oneV, faddrK, nonnil, b_shr, b_shl, fieldK, Nat.reduceAdd, Nat.reduceMul, Nat.reduceSub, Nat.reduceEqDiff, Nat.reduceLT, Nat.reduceLeDiff, Nat.reduceBEq, Nat.reduceBNe, reduceIte, Int.reduceEq, Int.reduceLT, Int.reduceLE, Int.reduceNe, Int.reduceToNat, h, cl_get]
  exact ans_ret rfl
theorem szq {j : Nat} (h : j < 11) : IntKind.i64.wrap ((IntKind.i64.wrap ((wid j : Int) + 7)).tdiv 8) = (sz j : Int) := by
  match j, h with
  | 0, _ | 1, _ | 2, _ | 3, _ | 4, _ | 5, _ | 6, _ | 7, _ | 8, _ | 9, _ | 10, _ => rfl
  | n + 11, h => omega
theorem sz_ok {j : Nat} (h : j < 11) : 0 < sz j ∧ sz j ≤ 6 ∧ wid j ≤ 8 * sz j := by
  match j, h with
  | 0, _ | 1, _ | 2, _ | 3, _ | 4, _ | 5, _ | 6, _ | 7, _ | 8, _ | 9, _ | 10, _ => exact ⟨by decide, by decide, by decide⟩
  | n + 11, h => omega
def mC (w : Nat → Nat) : List V := cl .u64 22 fun i => (w i : Int)
def U64 (n : Nat) (a : Nat → Nat) : Prop := ∀ i, i < n → a i < 18446744073709551616
/-- Which fields a match asks for. -/
def bitsN (w : Nat → Nat) : Nat → Nat
  | 0 => 0
  | j + 1 => bitsN w j + (if w (11 + j) = 0 then 0 else 2 ^ j)
theorem bitsN_lt (w : Nat → Nat) : ∀ j, bitsN w j < 2 ^ j
  | 0 => by simp [bitsN]
  | j + 1 => by
    have := bitsN_lt w j
    simp only [bitsN]
    rw [Nat.pow_succ]
    split <;> omega
theorem bitsN_at (w : Nat → Nat) (f : Nat) : ∀ j, f < j → bitsN w j / 2 ^ f % 2 = if w (11 + f) = 0 then 0 else 1
  | 0, h => by omega
  | j + 1, h => by
    have hp : 0 < 2 ^ f := Nat.two_pow_pos f
    rcases Nat.lt_or_ge f j with hf | hf
    · have ih := bitsN_at w f j hf
      have e : (if w (11 + j) = 0 then 0 else 2 ^ j) = 2 ^ f * ((if w (11 + j) = 0 then 0 else 2 ^ (j - f - 1)) * 2) := by
        split
        · simp
        · rw [← Nat.pow_succ, ← Nat.pow_add]
          congr 1
          omega
      simp only [bitsN]
      rw [e, Nat.add_mul_div_left _ _ hp, Nat.add_mul_mod_self_right, ih]
    · obtain rfl : f = j := by omega
      have hlt := bitsN_lt w f
      simp only [bitsN]
      split
      · rw [Nat.add_zero, Nat.div_eq_of_lt hlt]
      · rw [Nat.add_div_right _ hp, Nat.div_eq_of_lt hlt]
def encF (w : Nat → Nat) (f : Nat) : List Nat := if w (11 + f) = 0 then [] else enc (w f) (sz f) ++ enc (w (11 + f)) (sz f)
def encM (w : Nat → Nat) : List Nat := enc (bitsN w 11) 2 ++ (List.range 11).flatMap (encF w)
theorem or_bit (a j : Nat) (ha : a < 2 ^ j) (hj : j < 11) : bits .or .u64 (a : Int) ((2 ^ j : Nat) : Int) = ((a + 2 ^ j : Nat) : Int) := by
  have h2 : 2 ^ j ≤ 2 ^ 11 := Nat.pow_le_pow_right (by omega) (by omega)
  rw [bits_or_u64_nat _ _ (by omega) (by omega)]
  congr 1
  have := Nat.shiftLeft_add_eq_or_of_lt (i := j) (b := a) ha 1
  rw [Nat.shiftLeft_eq, Nat.one_mul] at this
  rw [Nat.or_comm, ← this, Nat.add_comm]
theorem shl1 (j : Nat) (hj : j < 11) : IntKind.u64.wrap (1 * 2 ^ (min j IntKind.u64.bits)) = ((2 ^ j : Nat) : Int) := by
  match j, hj with
  | 0, _ | 1, _ | 2, _ | 3, _ | 4, _ | 5, _ | 6, _ | 7, _ | 8, _ | 9, _ | 10, _ => rfl
  | n + 11, h => omega
theorem and1 (x : Nat) (hx : x < 18446744073709551616) : bits .and .u64 (x : Int) 1 = ((x % 2 : Nat) : Int) := by
  have h := bits_and_u64_nat x 1 hx (by omega)
  rw [show ((1 : Nat) : Int) = 1 from rfl] at h
  rw [h, show (1 : Nat) = 2 ^ 1 - 1 from rfl, Nat.and_two_pow_sub_one_eq_mod]
theorem eqC0 (n : Nat) : decide ((n : Int) = 0) = decide (n = 0) := by rw [Bool.eq_iff_iff]; simp
theorem lt11 (j : Nat) : decide ((j : Int) < 11) = decide (j < 11) := by rw [Bool.eq_iff_iff]; simp; omega
theorem w8j (j : Nat) (h : j < 11) : IntKind.i8.wrap (j : Int) = (j : Int) := by simp [IntKind.wrap, IntKind.bits, IntKind.signed]; omega
theorem mC_at (w : Nat → Nat) (t : List V) {j : Nat} (hj : j < 22) : ∃ t', (mC w ++ t).drop j = .int .u64 (w j : Int) :: t' := by
  have hl : (mC w).length = 22 := by simp [mC, cl]
  have h1 : (mC w ++ t)[j]? = some (.int .u64 (w j : Int)) := by
    rw [List.getElem?_append_left (by omega)]
    simp [mC, cl, hj]
  have hlt : j < (mC w ++ t).length := (List.getElem?_eq_some_iff.1 h1).1
  refine ⟨(mC w ++ t).drop (j + 1), ?_⟩
  rw [List.drop_eq_getElem_cons hlt]
  congr 1
  rw [List.getElem?_eq_getElem hlt] at h1
  exact Option.some.inj h1
theorem mC_len (w : Nat → Nat) (t : List V) : 22 ≤ (mC w ++ t).length := by simp [mC, cl]
theorem mC_msk (w : Nat → Nat) (t : List V) : ((mC w ++ t).drop 11).take 11 = cl .u64 11 fun i => (w (11 + i) : Int) := by
  simp [mC, cl, List.range, List.range.loop]
def loopM1 (w : Nat → Nat) (c n : Nat) (p : V) (j : Nat) : List (Nat × V) := [(12, .agg (cl .u64 11 fun i => (w (11 + i) : Int))), (13, .int .i64 (j : Int)), (4, .ptr n 0), (0, .ptr c 0), (1, p)]
def loopM2 (c n : Nat) (p : V) (j : Nat) : List (Nat × V) := [(4, .ptr n 0), (0, .ptr c 0), (1, p), (32, .int .i64 (j : Int))]
set_option maxHeartbeats 2000000 in
theorem snd69 {m : Mem} {c : Nat} {p : V} {t : List V} {l : List Nat} {w : Nat → Nat} (hw : U64 22 w) (hc : Cd m c l) (hp : Tg c m p (mC w ++ t)) : Snd Try.prog 69 [.ptr c 0, p] m (WQ c m l (encM w)) := by
  refine Snd_of_W fol rfl rfl (by kernel_rfl) (by kernel_rfl) ?_
  have hnn := hp.nn
  have hlen := mC_len w t
  obtain ⟨f0, hp0⟩ := hp.fa (o := 0) (by omega)
  obtain ⟨f11, hp11⟩ := hp.fa (o := 11) (by omega)
  have ld := hp11.loadA (s := 11) (by rw [List.length_drop]; omega)
  rw [mC_msk] at ld
  simp only [nonnil] at hnn
  simp only [faddrK, Nat.add_zero] at f0 f11
  have hlt := hc.lt
  have hs : ∀ (b : B), (m ++ [b])[m.length]? = some b := fun b => by simp
  have hset : ∀ b b' : B, (m ++ [b]).set m.length b' = m ++ [b'] := fun b b' => by simp
  have ldm : ∀ b, loadK true 11 (m ++ [b]) (pAdd 11 p) = some (.agg (cl .u64 11 fun i => (w (11 + i) : Int))) := fun b => by
    have := (hp11.keep (Kv.app hc [b])).loadA (s := 11) (by rw [List.length_drop]; omega)
    rwa [mC_msk] at this
  simp -implicitDefEqProofs only [sims.1, fx.1, keeps.1, tick_on, calleeK, extractV, oneV, faddrK, nonnil, b_shr, b_shl, fieldK, Nat.reduceAdd, Nat.reduceMul, Nat.reduceSub, Nat.reduceEqDiff, Nat.reduceLT, Nat.reduceLeDiff, Nat.reduceBEq, Nat.reduceBNe, reduceIte, Int.reduceEq, Int.reduceLT, Int.reduceLE, Int.reduceNe, Int.reduceToNat, hs, hset, hnn, f11, ldm]
  refine W_loopM (loopM1 w c m.length p) (fun j M => j ≤ 11 ∧ M = m ++ [.var 24 [.int .u64 (bitsN w j : Int)]]) (fun j => 12 - j) 0 (by kernel_rfl) ⟨by omega, rfl⟩ ?_
  rintro j M ⟨h1, rfl⟩
  rcases Nat.lt_or_ge j 11 with hj | hj
  · have c1 : decide (j < 11) = true := by simpa using hj
    have c2 := eqC0 (w (11 + j))
    have n1 : ¬ ((j : Int) < 0) := by omega
    have w1 := wrapU j (by omega)
    have w2 := add1N j (by omega)
    have s1 := shl1 j hj
    have o1 := or_bit (bitsN w j) j (bitsN_lt w j) hj
    cases e : decide (w (11 + j) = 0)
    · rw [e] at c2
      have e' : ¬ w (11 + j) = 0 := by simpa using e
      simp -implicitDefEqProofs only [sims.1, fx.1, keeps.1, tick_on, calleeK, extractV, oneV, faddrK, nonnil, b_shr, b_shl, fieldK, Nat.reduceAdd, Nat.reduceMul, Nat.reduceSub, Nat.reduceEqDiff, Nat.reduceLT, Nat.reduceLeDiff, Nat.reduceBEq, Nat.reduceBNe, reduceIte, Int.reduceEq, Int.reduceLT, Int.reduceLE, Int.reduceNe, Int.reduceToNat, loopM1, lt11, c1, hj, cl_get, c2, hs, hset, w1, n1, s1, o1, w2, Int.toNat_natCast]
      exact ⟨j + 1, by kernel_rfl, ⟨by omega, by simp only [bitsN, if_neg e']⟩, by omega⟩
    · rw [e] at c2
      have e' : w (11 + j) = 0 := by simpa using e
      simp -implicitDefEqProofs only [sims.1, fx.1, keeps.1, tick_on, calleeK, extractV, oneV, faddrK, nonnil, b_shr, b_shl, fieldK, Nat.reduceAdd, Nat.reduceMul, Nat.reduceSub, Nat.reduceEqDiff, Nat.reduceLT, Nat.reduceLeDiff, Nat.reduceBEq, Nat.reduceBNe, reduceIte, Int.reduceEq, Int.reduceLT, Int.reduceLE, Int.reduceNe, Int.reduceToNat, loopM1, lt11, c1, hj, cl_get, c2, hs, hset, w1, s1, o1, w2]
      exact ⟨j + 1, by kernel_rfl, ⟨by omega, by simp only [bitsN, if_pos e', Nat.add_zero]⟩, by omega⟩
  · obtain rfl : j = 11 := by omega
    have c1 : decide ((11 : Int) < 11) = false := rfl
    simp -implicitDefEqProofs only [sims.1, fx.1, keeps.1, tick_on, calleeK, extractV, oneV, faddrK, nonnil, b_shr, b_shl, fieldK, Nat.reduceAdd, Nat.reduceMul, Nat.reduceSub, Nat.reduceEqDiff, Nat.reduceLT, Nat.reduceLeDiff, Nat.reduceBEq, Nat.reduceBNe, reduceIte, Int.reduceEq, Int.reduceLT, Int.reduceLE, Int.reduceNe, Int.reduceToNat, loopM1, Int.cast_ofNat_Int, c1]
    have s11 := shrW (bitsN w 11) 11 (by omega)
    have hb := bitsN_lt w 11
    have d11 : bitsN w 11 / 2 ^ 11 = 0 := Nat.div_eq_of_lt hb
    rw [d11] at s11
    refine callD_w (snd31 (n := 2) (hc.app _) (Tg.var (q := m.length) (hs _) (by omega)) (by omega) (by omega)) en31 ?_ ?_
    · intro m1 k1 c1
      have hq := k1.2 m.length 24 _ (by omega) (hs _)
      have hk := (Kv.app hc _).trans k1
      simp -implicitDefEqProofs only [sims.1, fx.1, keeps.1, tick_on, calleeK, extractV, oneV, faddrK, nonnil, b_shr, b_shl, fieldK, Nat.reduceAdd, Nat.reduceMul, Nat.reduceSub, Nat.reduceEqDiff, Nat.reduceLT, Nat.reduceLeDiff, Nat.reduceBEq, Nat.reduceBNe, reduceIte, Int.reduceEq, Int.reduceLT, Int.reduceLE, Int.reduceNe, Int.reduceToNat, hq, s11, Int.cast_ofNat_Int]
      refine W_loopM (loopM2 c m.length p) (fun j M => j ≤ 11 ∧ Kv c m M ∧ M[m.length]? = some (.var 24 [.int .u64 (bitsN w 11 : Int)]) ∧ Cd M c (l ++ enc (bitsN w 11) 2 ++ (List.range j).flatMap (encF w))) (fun j => 12 - j) 0 (by kernel_rfl) ⟨by omega, hk, hq, by simpa using c1⟩ ?_
      rintro j M ⟨h1, h2, h3, h4⟩
      rcases Nat.lt_or_ge j 11 with hj | hj
      · have c1 : decide (j < 11) = true := by simpa using hj
        have hbit := bitsN_at w j 11 hj
        have n1 : ¬ ((j : Int) < 0) := by omega
        have w1 := wrapU j (by omega)
        have w2 := add1N j (by omega)
        have w3 := w8j j hj
        have s1 := shrW (bitsN w 11) j (by omega)
        have hb2 : bitsN w 11 / 2 ^ j < 18446744073709551616 := Nat.lt_of_le_of_lt (Nat.div_le_self _ _) (by omega)
        have a1 := and1 _ hb2
        rw [hbit] at a1
        have hnext : (List.range (j + 1)).flatMap (encF w) = (List.range j).flatMap (encF w) ++ encF w j := by rw [List.range_succ, List.flatMap_append]; simp
        by_cases e : w (11 + j) = 0
        · rw [if_pos e] at a1
          simp -implicitDefEqProofs only [sims.1, fx.1, keeps.1, tick_on, calleeK, extractV, oneV, faddrK, nonnil, b_shr, b_shl, fieldK, Nat.reduceAdd, Nat.reduceMul, Nat.reduceSub, Nat.reduceEqDiff, Nat.reduceLT, Nat.reduceLeDiff, Nat.reduceBEq, Nat.reduceBNe, reduceIte, Int.reduceEq, Int.reduceLT, Int.reduceLE, Int.reduceNe, Int.reduceToNat, loopM2, lt11, c1, h3, w1, n1, s1, a1, w2, Int.toNat_natCast, Int.cast_ofNat_Int]
          refine ⟨j + 1, by kernel_rfl, ⟨by omega, h2, by first | exact h3 | trivial, ?_⟩, by omega⟩
          rw [hnext]
          simpa [encF, e] using h4
        · rw [if_neg e] at a1
          have q1 := szq hj
          obtain ⟨z1, z2, _⟩ := sz_ok hj
          obtain ⟨i1, t1⟩ := hp0.ia (k := .i64) hj (by rw [List.length_drop]; omega)
          obtain ⟨i2, t2⟩ := hp11.ia (k := .i64) hj (by rw [List.length_drop]; omega)
          obtain ⟨u1, v1⟩ := mC_at w t (j := j) (by omega)
          obtain ⟨u2, v2⟩ := mC_at w t (j := 11 + j) (by omega)
          rw [List.drop_drop, Nat.zero_add, v1] at t1
          rw [List.drop_drop, v2] at t2
          simp -implicitDefEqProofs only [sims.1, fx.1, keeps.1, tick_on, calleeK, extractV, oneV, faddrK, nonnil, b_shr, b_shl, fieldK, Nat.reduceAdd, Nat.reduceMul, Nat.reduceSub, Nat.reduceEqDiff, Nat.reduceLT, Nat.reduceLeDiff, Nat.reduceBEq, Nat.reduceBNe, reduceIte, Int.reduceEq, Int.reduceLT, Int.reduceLE, Int.reduceNe, Int.reduceToNat, loopM2, lt11, c1, h3, w1, n1, s1, a1, w3, Int.toNat_natCast, Int.cast_ofNat_Int]
          refine callD_ans (ans75 j hj) en75 rfl rfl ?_
          simp -implicitDefEqProofs only [sims.1, fx.1, keeps.1, tick_on, calleeK, extractV, oneV, faddrK, nonnil, b_shr, b_shl, fieldK, Nat.reduceAdd, Nat.reduceMul, Nat.reduceSub, Nat.reduceEqDiff, Nat.reduceLT, Nat.reduceLeDiff, Nat.reduceBEq, Nat.reduceBNe, reduceIte, Int.reduceEq, Int.reduceLT, Int.reduceLE, Int.reduceNe, Int.reduceToNat, q1, hnn, f0, i1]
          refine callD_w (snd31 (n := sz j) h4 (t1.keep h2) z1 (by omega)) en31 ?_ ?_
          · intro m2 k2 c2
            simp -implicitDefEqProofs only [sims.1, fx.1, keeps.1, tick_on, calleeK, extractV, oneV, faddrK, nonnil, b_shr, b_shl, fieldK, Nat.reduceAdd, Nat.reduceMul, Nat.reduceSub, Nat.reduceEqDiff, Nat.reduceLT, Nat.reduceLeDiff, Nat.reduceBEq, Nat.reduceBNe, reduceIte, Int.reduceEq, Int.reduceLT, Int.reduceLE, Int.reduceNe, Int.reduceToNat, hnn, f11, i2]
            refine callD_w (snd31 (n := sz j) c2 (t2.keep (h2.trans k2)) z1 (by omega)) en31 ?_ ?_
            · intro m3 k3 c3
              have hk3 := h2.trans (k2.trans k3)
              have ld3 := (t2.keep hk3).load1 (s := 1)
              have e2 := eqC0 (w (11 + j))
              have e3 : decide (w (11 + j) = 0) = false := by simpa using e
              rw [e3] at e2
              simp -implicitDefEqProofs only [sims.1, fx.1, keeps.1, tick_on, calleeK, extractV, oneV, faddrK, nonnil, b_shr, b_shl, fieldK, Nat.reduceAdd, Nat.reduceMul, Nat.reduceSub, Nat.reduceEqDiff, Nat.reduceLT, Nat.reduceLeDiff, Nat.reduceBEq, Nat.reduceBNe, reduceIte, Int.reduceEq, Int.reduceLT, Int.reduceLE, Int.reduceNe, Int.reduceToNat, hnn, f11, i2, ld3, e2, w2]
              have hq3 := k3.2 _ _ _ (by omega) (k2.2 m.length 24 _ (by omega) h3)
              refine ⟨j + 1, by kernel_rfl, ⟨by omega, hk3, by first | exact hq3 | trivial, ?_⟩, by omega⟩
              rw [hnext]
              simpa [encF, e] using c3
            · intro m3 k3 c3
              refine .inr ⟨m3, rfl, h2.trans (k2.trans k3), ?_⟩
              have h5 := flat_le (g := encF w) (List.range 11) (j + 1)
              rw [List.take_range, Nat.min_eq_left (by omega), hnext] at h5
              simp only [encF, if_neg e, List.length_append, encM] at c3 h5 ⊢
              omega
          · intro m2 k2 c2
            refine .inr ⟨m2, rfl, h2.trans k2, ?_⟩
            have h5 := flat_le (g := encF w) (List.range 11) (j + 1)
            rw [List.take_range, Nat.min_eq_left (by omega), hnext] at h5
            simp only [encF, if_neg e, List.length_append, encM] at c2 h5 ⊢
            omega
      · obtain rfl : j = 11 := by omega
        have c1 : decide ((11 : Int) < 11) = false := rfl
        simp -implicitDefEqProofs only [sims.1, fx.1, keeps.1, tick_on, calleeK, extractV, oneV, faddrK, nonnil, b_shr, b_shl, fieldK, Nat.reduceAdd, Nat.reduceMul, Nat.reduceSub, Nat.reduceEqDiff, Nat.reduceLT, Nat.reduceLeDiff, Nat.reduceBEq, Nat.reduceBNe, reduceIte, Int.reduceEq, Int.reduceLT, Int.reduceLE, Int.reduceNe, Int.reduceToNat, loopM2, Int.cast_ofNat_Int, c1]
        rw [List.append_assoc] at h4
        exact .inl ⟨M, rfl, h2, h4⟩
    · intro m1 k1 c1
      refine .inr ⟨m1, rfl, (Kv.app hc _).trans k1, ?_⟩
      simp only [List.length_append, encM] at c1 ⊢
      omega
end Go.Proofs.Ytjjenpdjmcmgbaa
namespace Go.Proofs.Ytjjenpdjmcmgbaa
open Go Ab
set_option linter.unusedSimpArgs false
set_option linter.unusedVariables false
set_option maxRecDepth 20000
/-- An action: what it does, its field, its number. -/
structure Act where
  d : Int
  f : Int
  n : Nat
  deriving DecidableEq
def acC (a : Act) : List V := [.int .i8 a.d, .int .i8 a.f, .int .u64 (a.n : Int)]
def cpV (c : List Act) : V := .isl 3 (c.map acC)
def cpsV (l : List (List Act)) : V := .isl 1 (l.map fun c => [cpV c])
structure Ru where
  rank : Int
  w : Nat → Nat
  l : List (List Act)
  ck : Nat
def ruC (r : Ru) : List V := .int .i64 r.rank :: (mC r.w ++ [cpsV r.l, .int .u64 (r.ck : Int)])
/-- A rule with its counts. -/
structure He where
  r : Ru
  p : Nat
  b : Nat
def heC (h : He) : List V := ruC h.r ++ [.int .u64 (h.p : Int), .int .u64 (h.b : Int)]
structure Ms where
  ty : Int
  id : Nat
  dd : Int
  r : Ru
  port : Nat
  up : Bool
  sw : Nat
  ports : List Nat
  edge : List Nat
  frame : List Nat
  helds : List He
  code : Nat
def poC (x : Nat) : List V := [.int .u16 (x : Int)]
def poV (l : List Nat) : V := .isl 1 (l.map poC)
def hesV (l : List He) : V := .isl 27 (l.map heC)
def msC (x : Ms) : List V := .int .i8 x.ty :: .int .u32 (x.id : Int) :: .int .i8 x.dd :: (ruC x.r ++ [.int .u16 (x.port : Int), .bool x.up, .int .u16 (x.sw : Int), poV x.ports, poV x.edge, byV x.frame, hesV x.helds, .int .u16 (x.code : Int)])
def lim : Nat := 281474976710656
def wfA (a : Act) : Prop := (-128 ≤ a.d ∧ a.d < 128) ∧ (-128 ≤ a.f ∧ a.f < 128) ∧ a.n < 18446744073709551616
def wfC (c : List Act) : Prop := c.length < lim ∧ ∀ a ∈ c, wfA a
def wfL (l : List (List Act)) : Prop := l.length < lim ∧ ∀ c ∈ l, wfC c
def wfR (r : Ru) : Prop := (-9223372036854775808 ≤ r.rank ∧ r.rank < 9223372036854775808) ∧ U64 22 r.w ∧ wfL r.l ∧ r.ck < 18446744073709551616
def wfH (h : He) : Prop := wfR h.r ∧ h.p < 18446744073709551616 ∧ h.b < 18446744073709551616
structure wfM (x : Ms) : Prop where
  ty : -128 ≤ x.ty ∧ x.ty < 128
  id : x.id < 4294967296
  dd : -128 ≤ x.dd ∧ x.dd < 128
  r : wfR x.r
  port : x.port < 65536
  sw : x.sw < 65536
  ports : x.ports.length < lim ∧ ∀ p ∈ x.ports, p < 65536
  edge : x.edge.length < lim ∧ ∀ p ∈ x.edge, p < 65536
  frame : x.frame.length < lim ∧ ∀ p ∈ x.frame, p < 256
  helds : x.helds.length < lim ∧ ∀ h ∈ x.helds, wfH h
  code : x.code < 65536
/-- Ranks that four bytes hold. -/
def rkOK (r : Ru) : Prop := -2147483648 ≤ r.rank ∧ r.rank ≤ 2147483647
def r32 (x : Int) : Nat := (x % 4294967296).toNat
def encA (a : Act) : List Nat := enc (i8N a.d) 1 ++ (enc (i8N a.f) 1 ++ enc a.n 8)
def encC (c : List Act) : List Nat := enc c.length 2 ++ c.flatMap encA
def encL (l : List (List Act)) : List Nat := enc l.length 2 ++ l.flatMap encC
def encR (r : Ru) : List Nat := enc (r32 r.rank) 4 ++ (enc r.ck 8 ++ (encM r.w ++ encL r.l))
def encH (h : He) : List Nat := encR h.r ++ (enc h.p 8 ++ enc h.b 8)
def encP (l : List Nat) : List Nat := enc l.length 2 ++ l.flatMap fun x => enc x 2
def encB (l : List Nat) : List Nat := enc l.length 2 ++ l.flatMap fun x => enc x 1
def encHs (l : List He) : List Nat := enc l.length 2 ++ l.flatMap encH
def b01 (b : Bool) : Nat := bif b then 1 else 0
theorem Cd.ne {m : Mem} {c k : Nat} {l : List Nat} {x : List V} (h : Cd m c l) {ty : Nat} (hk : m[k]? = some (.var ty x)) (ht : ty ≠ 71) : k ≠ c := by
  rintro rfl
  obtain ⟨_, h1, _⟩ := h
  rw [h1] at hk
  cases hk
  exact ht rfl
/-- The states of memory beside one call. -/
def JW (m : Mem) (c : Nat) (l e : List Nat) : Nat → Mem → Prop
  | 0, M => M = m
  | _ + 1, M => Kv c m M ∧ Cd M c (l ++ e)
def JpW (m : Mem) (c : Nat) (l e : List Nat) (v : V) (M : Mem) : Prop := v = longV ∧ Kv c m M ∧ 8192 < (l ++ e).length
theorem JW0 {m : Mem} {c : Nat} {l e : List Nat} {i : Nat} {M : Mem} (h : JW m c l e i M) (hi : i ≤ 0) : M = m := by
  obtain rfl : i = 0 := by omega
  exact h
theorem callD_j {f : FuncId} {vs : List V} {m M : Mem} {c : Nat} {l e : List Nat} (h : Snd Try.prog f vs m (WQ c m l e)) (he : enterable Try.prog f = true) (hM : M = m) : callD Try.prog f vs M (fun u m' => u = .tup [] ∧ JW m c l e (0 + 1) m') (JpW m c l e) := by
  subst hM
  exact callD_w h he (fun m1 k c => ⟨rfl, k, c⟩) (fun m1 k c => ⟨rfl, k, c⟩)
set_option maxHeartbeats 1000000 in
theorem snd73 {m : Mem} {c k : Nat} {p : V} {t : List V} {l : List Nat} {a : Act} (ha : wfA a) (hc : Cd m c l) (hk : m[k]? = some (.var 69 [.ptr c 0])) (hp : Tg c m p (acC a ++ t)) : Snd Try.prog 73 [p, .ptr k 0] m (WQ c m l (encA a)) := by
  refine Snd_of_W fol rfl rfl (by kernel_rfl) (by kernel_rfl) ?_
  have hkc := hc.ne hk (by decide)
  have hnn := hp.nn
  have hl3 : 3 ≤ (acC a ++ t).length := by simp [acC]
  obtain ⟨f0, t0⟩ := hp.fa (o := 0) (by omega)
  obtain ⟨f1, t1⟩ := hp.fa (o := 1) (by omega)
  obtain ⟨f2, t2⟩ := hp.fa (o := 2) (by omega)
  have t0 : Tg c m (pAdd 0 p) (.int .i8 a.d :: (.int .i8 a.f :: .int .u64 (a.n : Int) :: t)) := t0
  have t1 : Tg c m (pAdd 1 p) (.int .i8 a.f :: (.int .u64 (a.n : Int) :: t)) := t1
  have t2 : Tg c m (pAdd 2 p) (.int .u64 (a.n : Int) :: t) := t2
  obtain ⟨⟨a1, a2⟩, ⟨a3, a4⟩, a5⟩ := ha
  simp -implicitDefEqProofs only [sims.1, fx.1, keeps.1, tick_on, calleeK, extractV, oneV, faddrK, nonnil, b_shr, b_shl, fieldK, Nat.reduceAdd, Nat.reduceMul, Nat.reduceSub, Nat.reduceEqDiff, Nat.reduceLT, Nat.reduceLeDiff, Nat.reduceBEq, Nat.reduceBNe, reduceIte, Int.reduceEq, Int.reduceLT, Int.reduceLE, Int.reduceNe, Int.reduceToNat]
  refine w_callsP (JW m c (l) (enc (i8N a.d) 1)) (JpW m c (l) (enc (i8N a.d) 1)) [4] [.ptr c 0, p, p, pAdd 0 p, .tup []] (by kernel_rfl) rfl ?_ ?_ ?_
  · refine okN_early 0 rfl rfl rfl rfl (fun i M' hi h => by
      show Option.map (Res.val · M') (loadV Try.prog M' 69 (.ptr k 0)) = _
      rw [JW0 h hi, ld69, loadK_ptr, hk]
      rfl) ?_
    refine okN_pure rfl rfl rfl (fun _ _ _ => rfl) ?_
    refine okN_pure rfl rfl rfl (fun _ M' _ => by
      show (bif nonnil p then some (Res.val p M') else none) = _
      rw [hnn]
      rfl) ?_
    refine okN_pure rfl rfl rfl (fun _ M' _ => by
      show Option.map (Res.val · M') (faddrV Try.prog 123 0 p) = _
      rw [fa123_0, f0]
      rfl) ?_
    refine okN_call rfl (show calleeV (evO _) _ = some (52, [.ptr c 0, pAdd 0 p, .int .i64 1]) by kernel_rfl) rfl rfl (fun m' h => callD_j (snd52 hc t0 a1 a2) en52 h) ?_
    exact okN_nil
  · rintro m1 ⟨k1, c1⟩
    have hk1 := k1.2 _ _ _ hkc hk
    simp -implicitDefEqProofs only [sims.1, fx.1, keeps.1, tick_on, calleeK, extractV, oneV, faddrK, nonnil, b_shr, b_shl, fieldK, Nat.reduceAdd, Nat.reduceMul, Nat.reduceSub, Nat.reduceEqDiff, Nat.reduceLT, Nat.reduceLeDiff, Nat.reduceBEq, Nat.reduceBNe, reduceIte, Int.reduceEq, Int.reduceLT, Int.reduceLE, Int.reduceNe, Int.reduceToNat, putAll]
    refine w_callsP (JW m1 c (l ++ enc (i8N a.d) 1) (enc (i8N a.f) 1)) (JpW m1 c (l ++ enc (i8N a.d) 1) (enc (i8N a.f) 1)) [4] [.ptr c 0, p, p, pAdd 1 p, .tup []] (by kernel_rfl) rfl ?_ ?_ ?_
    · refine okN_early 0 rfl rfl rfl rfl (fun i M' hi h => by
        show Option.map (Res.val · M') (loadV Try.prog M' 69 (.ptr k 0)) = _
        rw [JW0 h hi, ld69, loadK_ptr, hk1]
        rfl) ?_
      refine okN_pure rfl rfl rfl (fun _ _ _ => rfl) ?_
      refine okN_pure rfl rfl rfl (fun _ M' _ => by
        show (bif nonnil p then some (Res.val p M') else none) = _
        rw [hnn]
        rfl) ?_
      refine okN_pure rfl rfl rfl (fun _ M' _ => by
        show Option.map (Res.val · M') (faddrV Try.prog 123 1 p) = _
        rw [fa123_1, f1]
        rfl) ?_
      refine okN_call rfl (show calleeV (evO _) _ = some (52, [.ptr c 0, pAdd 1 p, .int .i64 1]) by kernel_rfl) rfl rfl (fun m' h => callD_j (snd52 c1 (t1.keep k1) a3 a4) en52 h) ?_
      exact okN_nil
    · rintro m2 ⟨k2, c2⟩
      have hk2 := k2.2 _ _ _ hkc hk1
      simp -implicitDefEqProofs only [sims.1, fx.1, keeps.1, tick_on, calleeK, extractV, oneV, faddrK, nonnil, b_shr, b_shl, fieldK, Nat.reduceAdd, Nat.reduceMul, Nat.reduceSub, Nat.reduceEqDiff, Nat.reduceLT, Nat.reduceLeDiff, Nat.reduceBEq, Nat.reduceBNe, reduceIte, Int.reduceEq, Int.reduceLT, Int.reduceLE, Int.reduceNe, Int.reduceToNat, putAll]
      refine w_callsP (JW m2 c (l ++ enc (i8N a.d) 1 ++ enc (i8N a.f) 1) (enc a.n 8)) (JpW m2 c (l ++ enc (i8N a.d) 1 ++ enc (i8N a.f) 1) (enc a.n 8)) [4] [.ptr c 0, p, p, pAdd 2 p, .tup []] (by kernel_rfl) rfl ?_ ?_ ?_
      · refine okN_early 0 rfl rfl rfl rfl (fun i M' hi h => by
          show Option.map (Res.val · M') (loadV Try.prog M' 69 (.ptr k 0)) = _
          rw [JW0 h hi, ld69, loadK_ptr, hk2]
          rfl) ?_
        refine okN_pure rfl rfl rfl (fun _ _ _ => rfl) ?_
        refine okN_pure rfl rfl rfl (fun _ M' _ => by
          show (bif nonnil p then some (Res.val p M') else none) = _
          rw [hnn]
          rfl) ?_
        refine okN_pure rfl rfl rfl (fun _ M' _ => by
          show Option.map (Res.val · M') (faddrV Try.prog 123 2 p) = _
          rw [fa123_2, f2]
          rfl) ?_
        refine okN_call rfl (show calleeV (evO _) _ = some (31, [.ptr c 0, pAdd 2 p, .int .i64 8]) by kernel_rfl) rfl rfl (fun m' h => callD_j (snd31 (n := 8) c2 (t2.keep (k1.trans k2)) (by omega) (by omega)) en31 h) ?_
        exact okN_nil
      · rintro m3 ⟨k3, c3⟩
        simp -implicitDefEqProofs only [sims.1, fx.1, keeps.1, tick_on, calleeK, extractV, oneV, faddrK, nonnil, b_shr, b_shl, fieldK, Nat.reduceAdd, Nat.reduceMul, Nat.reduceSub, Nat.reduceEqDiff, Nat.reduceLT, Nat.reduceLeDiff, Nat.reduceBEq, Nat.reduceBNe, reduceIte, Int.reduceEq, Int.reduceLT, Int.reduceLE, Int.reduceNe, Int.reduceToNat, putAll]
        refine .inl ⟨m3, rfl, k1.trans (k2.trans k3), ?_⟩
        simpa only [encA, List.append_assoc] using c3
      · rintro _ M ⟨rfl, kk, cc⟩
        refine .inr ⟨M, rfl, k1.trans (k2.trans kk), ?_⟩
        simp only [List.length_append, encA] at cc ⊢
        omega
    · rintro _ M ⟨rfl, kk, cc⟩
      refine .inr ⟨M, rfl, k1.trans kk, ?_⟩
      simp only [List.length_append, encA] at cc ⊢
      omega
  · rintro _ M ⟨rfl, kk, cc⟩
    refine .inr ⟨M, rfl, kk, ?_⟩
    simp only [List.length_append, encA] at cc ⊢
    omega
theorem encA_pos (a : Act) : 1 ≤ (encA a).length := by simp only [encA, List.length_append, enc_len]; omega
theorem snd71 {m : Mem} {c k : Nat} {p : V} {t : List V} {l : List Nat} {x : List Act} (hx : wfC x) (hc : Cd m c l) (hk : m[k]? = some (.var 69 [.ptr c 0])) (hp : Tg c m p (cpV x :: t)) : Snd Try.prog 71 [p, .ptr k 0] m (WQ c m l (encC x)) := by
  refine Snd_of_W fol rfl rfl (by kernel_rfl) (by kernel_rfl) ?_
  have hkc := hc.ne hk (by decide)
  simp -implicitDefEqProofs only [sims.1, fx.1, keeps.1, tick_on, calleeK, extractV, oneV, faddrK, nonnil, b_shr, b_shl, fieldK, Nat.reduceAdd, Nat.reduceMul, Nat.reduceSub, Nat.reduceEqDiff, Nat.reduceLT, Nat.reduceLeDiff, Nat.reduceBEq, Nat.reduceBNe, reduceIte, Int.reduceEq, Int.reduceLT, Int.reduceLE, Int.reduceNe, Int.reduceToNat, hk]
  refine callD_w (snd72 x acC encA hc hp en73 (fun m' l' a ha k1 c1 => snd73 (t := []) (hx.2 a ha) c1 (k1.2 _ _ _ hkc hk) (.inl (by rw [List.append_nil]))) (fun a _ => encA_pos a) hx.1) en72 ?_ ?_
  · intro m1 k1 c1
    simp -implicitDefEqProofs only [sims.1, fx.1, keeps.1, tick_on, calleeK, extractV, oneV, faddrK, nonnil, b_shr, b_shl, fieldK, Nat.reduceAdd, Nat.reduceMul, Nat.reduceSub, Nat.reduceEqDiff, Nat.reduceLT, Nat.reduceLeDiff, Nat.reduceBEq, Nat.reduceBNe, reduceIte, Int.reduceEq, Int.reduceLT, Int.reduceLE, Int.reduceNe, Int.reduceToNat]
    exact .inl ⟨m1, rfl, k1, c1⟩
  · intro m1 k1 c1
    exact .inr ⟨m1, rfl, k1, c1⟩
theorem encC_pos (x : List Act) : 1 ≤ (encC x).length := by simp only [encC, List.length_append, enc_len]; omega
theorem snd70c {m : Mem} {c k : Nat} {p : V} {t : List V} {l : List Nat} {x : List (List Act)} (hx : wfL x) (hc : Cd m c l) (hk : m[k]? = some (.var 69 [.ptr c 0])) (hp : Tg c m p (cpsV x :: t)) : Snd Try.prog 70 [.ptr c 0, p, .fn 71 [] [.ptr k 0]] m (WQ c m l (encL x)) := by
  have hkc := hc.ne hk (by decide)
  exact snd70 x (fun c => [cpV c]) encC hc hp en71 (fun m' l' a ha k1 c1 => snd71 (t := []) (hx.2 a ha) c1 (k1.2 _ _ _ hkc hk) (.inl rfl)) (fun a _ => encC_pos a) hx.1
theorem r32w (x : Int) (h1 : -2147483648 ≤ x) (h2 : x ≤ 2147483647) : IntKind.u32.wrap (IntKind.i32.wrap x) = (r32 x : Int) ∧ IntKind.i64.wrap (IntKind.i32.wrap (r32 x : Int)) = x := by
  unfold r32
  simp [IntKind.wrap, IntKind.bits, IntKind.signed]
  omega
set_option maxHeartbeats 2000000 in
theorem snd53 {m : Mem} {c : Nat} {p : V} {t : List V} {l : List Nat} {r : Ru} (hr : wfR r) (hrk : rkOK r) (hc : Cd m c l) (hp : Tg c m p (ruC r ++ t)) : Snd Try.prog 53 [.ptr c 0, p] m (WQ c m l (encR r)) := by
  refine Snd_of_W fol rfl rfl (by kernel_rfl) (by kernel_rfl) ?_
  have hl : 25 ≤ (ruC r ++ t).length := by simp [ruC, mC, cl]; omega
  have nb : newV 69 m (.ptr c 0) = some (.ptr m.length 0, m ++ [.var 69 [.ptr c 0]]) := newV_one rfl
  have hnn := hp.nn
  have hnn' := hnn
  simp only [nonnil] at hnn'
  obtain ⟨f0, t0⟩ := hp.fa (o := 0) (by omega)
  obtain ⟨f1, t1⟩ := hp.fa (o := 1) (by omega)
  obtain ⟨f2, t2⟩ := hp.fa (o := 23) (by omega)
  obtain ⟨f3, t3⟩ := hp.fa (o := 24) (by omega)
  have f0' := f0
  simp only [faddrK, Nat.add_zero] at f0'
  have t0 : Tg c m (pAdd 0 p) (.int .i64 r.rank :: ((mC r.w ++ [cpsV r.l, .int .u64 (r.ck : Int)]) ++ t)) := t0
  have t1 : Tg c m (pAdd 1 p) (mC r.w ++ (cpsV r.l :: .int .u64 (r.ck : Int) :: t)) := t1
  have t2 : Tg c m (pAdd 23 p) (cpsV r.l :: (.int .u64 (r.ck : Int) :: t)) := t2
  have t3 : Tg c m (pAdd 24 p) (.int .u64 (r.ck : Int) :: t) := t3
  obtain ⟨w1, w2⟩ := r32w r.rank hrk.1 hrk.2
  have hlt := hc.lt
  have hs : ∀ (b b' : B), (m ++ [b, b'])[m.length]? = some b := fun b b' => by simp
  have hs2 : ∀ (b b' : B), (m ++ [b, b'])[m.length + 1]? = some b' := fun b b' => by simp
  have hap : ∀ (b b' : B), m ++ [b] ++ [b'] = m ++ [b, b'] := fun b b' => by simp
  have hset : ∀ b b' b'' : B, (m ++ [b, b']).set (m.length + 1) b'' = m ++ [b, b''] := fun b b' b'' => by simp
  have ld0 : ∀ ex, loadK false 1 (m ++ ex) (pAdd 0 p) = some (.int .i64 r.rank) := fun ex => (t0.keep (Kv.app hc ex)).load1
  simp -implicitDefEqProofs only [sims.1, fx.1, keeps.1, tick_on, calleeK, extractV, oneV, faddrK, nonnil, b_shr, b_shl, fieldK, Nat.reduceAdd, Nat.reduceMul, Nat.reduceSub, Nat.reduceEqDiff, Nat.reduceLT, Nat.reduceLeDiff, Nat.reduceBEq, Nat.reduceBNe, reduceIte, Int.reduceEq, Int.reduceLT, Int.reduceLE, Int.reduceNe, Int.reduceToNat, nb, hnn', f0', ld0, w1, hap, List.length_append, hs, hs2, hset]
  refine callD_w (snd22 (x := r32 r.rank) (hc.app _) (Tg.var (q := m.length + 1) (hs2 _ _) (by omega)) (by unfold r32; omega)) en22 ?_ ?_
  · intro m1 k1 c1
    have hk := (Kv.app hc _).trans k1
    have q1 := k1.2 _ _ _ (by omega) (hs _ _)
    have q2 := k1.2 _ _ _ (by omega) (hs2 _ _)
    have st := (t0.keep hk).still
    simp -implicitDefEqProofs only [sims.1, fx.1, keeps.1, tick_on, calleeK, extractV, oneV, faddrK, nonnil, b_shr, b_shl, fieldK, Nat.reduceAdd, Nat.reduceMul, Nat.reduceSub, Nat.reduceEqDiff, Nat.reduceLT, Nat.reduceLeDiff, Nat.reduceBEq, Nat.reduceBNe, reduceIte, Int.reduceEq, Int.reduceLT, Int.reduceLE, Int.reduceNe, Int.reduceToNat, q2, w2, hnn', f0', st]
    refine w_callsP (JW m1 c (l ++ enc (r32 r.rank) 4) (enc r.ck 8)) (JpW m1 c (l ++ enc (r32 r.rank) 4) (enc r.ck 8)) [4] [.ptr c 0, p, p, pAdd 24 p, .tup []] (by kernel_rfl) rfl ?_ ?_ ?_
    · refine okN_early 0 rfl rfl rfl rfl (fun i M' hi h => by
        show Option.map (Res.val · M') (loadV Try.prog M' 69 (.ptr m.length 0)) = _
        rw [JW0 h hi, ld69, loadK_ptr, q1]
        rfl) ?_
      refine okN_pure rfl rfl rfl (fun _ _ _ => rfl) ?_
      refine okN_pure rfl rfl rfl (fun _ M' _ => by
        show (bif nonnil p then some (Res.val p M') else none) = _
        rw [hnn]
        rfl) ?_
      refine okN_pure rfl rfl rfl (fun _ M' _ => by
        show Option.map (Res.val · M') (faddrV Try.prog 31 3 p) = _
        rw [fa31_3, f3]
        rfl) ?_
      refine okN_call rfl (show calleeV (evO _) _ = some (31, [.ptr c 0, pAdd 24 p, .int .i64 8]) by kernel_rfl) rfl rfl (fun m' h => callD_j (snd31 (n := 8) c1 (t3.keep hk) (by omega) (by omega)) en31 h) ?_
      exact okN_nil
    · rintro m2 ⟨k2, c2⟩
      have q12 := k2.2 _ _ _ (by omega) q1
      have hk2 := hk.trans k2
      simp -implicitDefEqProofs only [sims.1, fx.1, keeps.1, tick_on, calleeK, extractV, oneV, faddrK, nonnil, b_shr, b_shl, fieldK, Nat.reduceAdd, Nat.reduceMul, Nat.reduceSub, Nat.reduceEqDiff, Nat.reduceLT, Nat.reduceLeDiff, Nat.reduceBEq, Nat.reduceBNe, reduceIte, Int.reduceEq, Int.reduceLT, Int.reduceLE, Int.reduceNe, Int.reduceToNat, putAll]
      refine w_callsP (JW m2 c (l ++ enc (r32 r.rank) 4 ++ enc r.ck 8) (encM r.w)) (JpW m2 c (l ++ enc (r32 r.rank) 4 ++ enc r.ck 8) (encM r.w)) [4] [.ptr c 0, p, p, pAdd 1 p, .tup []] (by kernel_rfl) rfl ?_ ?_ ?_
      · refine okN_early 0 rfl rfl rfl rfl (fun i M' hi h => by
          show Option.map (Res.val · M') (loadV Try.prog M' 69 (.ptr m.length 0)) = _
          rw [JW0 h hi, ld69, loadK_ptr, q12]
          rfl) ?_
        refine okN_pure rfl rfl rfl (fun _ _ _ => rfl) ?_
        refine okN_pure rfl rfl rfl (fun _ M' _ => by
          show (bif nonnil p then some (Res.val p M') else none) = _
          rw [hnn]
          rfl) ?_
        refine okN_pure rfl rfl rfl (fun _ M' _ => by
          show Option.map (Res.val · M') (faddrV Try.prog 31 1 p) = _
          rw [fa31_1, f1]
          rfl) ?_
        refine okN_call rfl (show calleeV (evO _) _ = some (69, [.ptr c 0, pAdd 1 p]) by kernel_rfl) rfl rfl (fun m' h => callD_j (snd69 hr.2.1 c2 (t1.keep hk2)) en69 h) ?_
        exact okN_nil
      · rintro m3 ⟨k3, c3⟩
        have q13 := k3.2 _ _ _ (by omega) q12
        have hk3 := hk2.trans k3
        simp -implicitDefEqProofs only [sims.1, fx.1, keeps.1, tick_on, calleeK, extractV, oneV, faddrK, nonnil, b_shr, b_shl, fieldK, Nat.reduceAdd, Nat.reduceMul, Nat.reduceSub, Nat.reduceEqDiff, Nat.reduceLT, Nat.reduceLeDiff, Nat.reduceBEq, Nat.reduceBNe, reduceIte, Int.reduceEq, Int.reduceLT, Int.reduceLE, Int.reduceNe, Int.reduceToNat, putAll]
        refine w_callsP (JW m3 c (l ++ enc (r32 r.rank) 4 ++ enc r.ck 8 ++ encM r.w) (encL r.l)) (JpW m3 c (l ++ enc (r32 r.rank) 4 ++ enc r.ck 8 ++ encM r.w) (encL r.l)) [5] [.ptr c 0, p, p, pAdd 23 p, .fn 71 [] [.ptr m.length 0], .tup []] (by kernel_rfl) rfl ?_ ?_ ?_
        · refine okN_early 0 rfl rfl rfl rfl (fun i M' hi h => by
            show Option.map (Res.val · M') (loadV Try.prog M' 69 (.ptr m.length 0)) = _
            rw [JW0 h hi, ld69, loadK_ptr, q13]
            rfl) ?_
          refine okN_pure rfl rfl rfl (fun _ _ _ => rfl) ?_
          refine okN_pure rfl rfl rfl (fun _ M' _ => by
            show (bif nonnil p then some (Res.val p M') else none) = _
            rw [hnn]
            rfl) ?_
          refine okN_pure rfl rfl rfl (fun _ M' _ => by
            show Option.map (Res.val · M') (faddrV Try.prog 31 2 p) = _
            rw [fa31_2, f2]
            rfl) ?_
          refine okN_pure rfl rfl rfl (fun _ _ _ => rfl) ?_
          refine okN_call rfl (show calleeV (evO _) _ = some (70, [.ptr c 0, pAdd 23 p, .fn 71 [] [.ptr m.length 0]]) by kernel_rfl) rfl rfl (fun m' h => callD_j (snd70c hr.2.2.1 c3 q13 (t2.keep hk3)) en70 h) ?_
          exact okN_nil
        · rintro m4 ⟨k4, c4⟩
          simp -implicitDefEqProofs only [sims.1, fx.1, keeps.1, tick_on, calleeK, extractV, oneV, faddrK, nonnil, b_shr, b_shl, fieldK, Nat.reduceAdd, Nat.reduceMul, Nat.reduceSub, Nat.reduceEqDiff, Nat.reduceLT, Nat.reduceLeDiff, Nat.reduceBEq, Nat.reduceBNe, reduceIte, Int.reduceEq, Int.reduceLT, Int.reduceLE, Int.reduceNe, Int.reduceToNat, putAll]
          refine .inl ⟨m4, rfl, hk3.trans k4, ?_⟩
          simpa only [encR, List.append_assoc] using c4
        · rintro _ M ⟨rfl, kk, cc⟩
          refine .inr ⟨M, rfl, hk3.trans kk, ?_⟩
          simp only [List.length_append, encR] at cc ⊢
          omega
      · rintro _ M ⟨rfl, kk, cc⟩
        refine .inr ⟨M, rfl, hk2.trans kk, ?_⟩
        simp only [List.length_append, encR] at cc ⊢
        omega
    · rintro _ M ⟨rfl, kk, cc⟩
      refine .inr ⟨M, rfl, hk.trans kk, ?_⟩
      simp only [List.length_append, encR] at cc ⊢
      omega
  · intro m1 k1 c1
    refine .inr ⟨m1, rfl, (Kv.app hc _).trans k1, ?_⟩
    simp only [List.length_append, encR] at c1 ⊢
    omega
theorem encR_pos (r : Ru) : 1 ≤ (encR r).length := by simp only [encR, List.length_append, enc_len]; omega
theorem encH_pos (h : He) : 1 ≤ (encH h).length := by have := encR_pos h.r; simp only [encH, List.length_append, enc_len]; omega
set_option maxHeartbeats 1000000 in
theorem snd56 {m : Mem} {c k : Nat} {p : V} {t : List V} {l : List Nat} {h : He} (hh : wfH h) (hrk : rkOK h.r) (hc : Cd m c l) (hk : m[k]? = some (.var 69 [.ptr c 0])) (hp : Tg c m p (heC h ++ t)) : Snd Try.prog 56 [p, .ptr k 0] m (WQ c m l (encH h)) := by
  refine Snd_of_W fol rfl rfl (by kernel_rfl) (by kernel_rfl) ?_
  have hkc := hc.ne hk (by decide)
  have hnn := hp.nn
  have hl : 27 ≤ (heC h ++ t).length := by simp [heC, ruC, mC, cl]; omega
  obtain ⟨f0, t0⟩ := hp.fa (o := 0) (by omega)
  obtain ⟨f1, t1⟩ := hp.fa (o := 25) (by omega)
  obtain ⟨g0, u0⟩ := t1.fa (o := 0) (by rw [List.length_drop]; omega)
  obtain ⟨g1, u1⟩ := t1.fa (o := 1) (by rw [List.length_drop]; omega)
  have t0 : Tg c m (pAdd 0 p) (ruC h.r ++ (.int .u64 (h.p : Int) :: .int .u64 (h.b : Int) :: t)) := t0
  have u0 : Tg c m (pAdd 0 (pAdd 25 p)) (.int .u64 (h.p : Int) :: (.int .u64 (h.b : Int) :: t)) := u0
  have u1 : Tg c m (pAdd 1 (pAdd 25 p)) (.int .u64 (h.b : Int) :: t) := u1
  obtain ⟨a1, a2, a3⟩ := hh
  simp -implicitDefEqProofs only [sims.1, fx.1, keeps.1, tick_on, calleeK, extractV, oneV, faddrK, nonnil, b_shr, b_shl, fieldK, Nat.reduceAdd, Nat.reduceMul, Nat.reduceSub, Nat.reduceEqDiff, Nat.reduceLT, Nat.reduceLeDiff, Nat.reduceBEq, Nat.reduceBNe, reduceIte, Int.reduceEq, Int.reduceLT, Int.reduceLE, Int.reduceNe, Int.reduceToNat]
  refine w_callsP (JW m c (l) (encR h.r)) (JpW m c (l) (encR h.r)) [4] [.ptr c 0, p, p, pAdd 0 p, .tup []] (by kernel_rfl) rfl ?_ ?_ ?_
  · refine okN_early 0 rfl rfl rfl rfl (fun i M' hi h => by
      show Option.map (Res.val · M') (loadV Try.prog M' 69 (.ptr k 0)) = _
      rw [JW0 h hi, ld69, loadK_ptr, hk]
      rfl) ?_
    refine okN_pure rfl rfl rfl (fun _ _ _ => rfl) ?_
    refine okN_pure rfl rfl rfl (fun _ M' _ => by
      show (bif nonnil p then some (Res.val p M') else none) = _
      rw [hnn]
      rfl) ?_
    refine okN_pure rfl rfl rfl (fun _ M' _ => by
      show Option.map (Res.val · M') (faddrV Try.prog 59 0 p) = _
      rw [fa59_0, f0]
      rfl) ?_
    refine okN_call rfl (show calleeV (evO _) _ = some (53, [.ptr c 0, pAdd 0 p]) by kernel_rfl) rfl rfl (fun m' h => callD_j (snd53 a1 hrk hc t0) en53 h) ?_
    exact okN_nil
  · rintro m1 ⟨k1, c1⟩
    have hk1 := k1.2 _ _ _ hkc hk
    simp -implicitDefEqProofs only [sims.1, fx.1, keeps.1, tick_on, calleeK, extractV, oneV, faddrK, nonnil, b_shr, b_shl, fieldK, Nat.reduceAdd, Nat.reduceMul, Nat.reduceSub, Nat.reduceEqDiff, Nat.reduceLT, Nat.reduceLeDiff, Nat.reduceBEq, Nat.reduceBNe, reduceIte, Int.reduceEq, Int.reduceLT, Int.reduceLE, Int.reduceNe, Int.reduceToNat, putAll]
    refine w_callsP (JW m1 c (l ++ encR h.r) (enc h.p 8)) (JpW m1 c (l ++ encR h.r) (enc h.p 8)) [5] [.ptr c 0, p, p, pAdd 25 p, pAdd 0 (pAdd 25 p), .tup []] (by kernel_rfl) rfl ?_ ?_ ?_
    · refine okN_early 0 rfl rfl rfl rfl (fun i M' hi h => by
        show Option.map (Res.val · M') (loadV Try.prog M' 69 (.ptr k 0)) = _
        rw [JW0 h hi, ld69, loadK_ptr, hk1]
        rfl) ?_
      refine okN_pure rfl rfl rfl (fun _ _ _ => rfl) ?_
      refine okN_pure rfl rfl rfl (fun _ M' _ => by
        show (bif nonnil p then some (Res.val p M') else none) = _
        rw [hnn]
        rfl) ?_
      refine okN_pure rfl rfl rfl (fun _ M' _ => by
        show Option.map (Res.val · M') (faddrV Try.prog 59 1 p) = _
        rw [fa59_1, f1]
        rfl) ?_
      refine okN_pure rfl rfl rfl (fun _ M' _ => by
        show Option.map (Res.val · M') (faddrV Try.prog 57 0 (pAdd 25 p)) = _
        rw [fa57_0, g0]
        rfl) ?_
      refine okN_call rfl (show calleeV (evO _) _ = some (31, [.ptr c 0, pAdd 0 (pAdd 25 p), .int .i64 8]) by kernel_rfl) rfl rfl (fun m' h => callD_j (snd31 (n := 8) c1 (u0.keep k1) (by omega) (by omega)) en31 h) ?_
      exact okN_nil
    · rintro m2 ⟨k2, c2⟩
      have hk2 := k2.2 _ _ _ hkc hk1
      simp -implicitDefEqProofs only [sims.1, fx.1, keeps.1, tick_on, calleeK, extractV, oneV, faddrK, nonnil, b_shr, b_shl, fieldK, Nat.reduceAdd, Nat.reduceMul, Nat.reduceSub, Nat.reduceEqDiff, Nat.reduceLT, Nat.reduceLeDiff, Nat.reduceBEq, Nat.reduceBNe, reduceIte, Int.reduceEq, Int.reduceLT, Int.reduceLE, Int.reduceNe, Int.reduceToNat, putAll]
      refine w_callsP (JW m2 c (l ++ encR h.r ++ enc h.p 8) (enc h.b 8)) (JpW m2 c (l ++ encR h.r ++ enc h.p 8) (enc h.b 8)) [5] [.ptr c 0, p, p, pAdd 25 p, pAdd 1 (pAdd 25 p), .tup []] (by kernel_rfl) rfl ?_ ?_ ?_
      · refine okN_early 0 rfl rfl rfl rfl (fun i M' hi h => by
          show Option.map (Res.val · M') (loadV Try.prog M' 69 (.ptr k 0)) = _
          rw [JW0 h hi, ld69, loadK_ptr, hk2]
          rfl) ?_
        refine okN_pure rfl rfl rfl (fun _ _ _ => rfl) ?_
        refine okN_pure rfl rfl rfl (fun _ M' _ => by
          show (bif nonnil p then some (Res.val p M') else none) = _
          rw [hnn]
          rfl) ?_
        refine okN_pure rfl rfl rfl (fun _ M' _ => by
          show Option.map (Res.val · M') (faddrV Try.prog 59 1 p) = _
          rw [fa59_1, f1]
          rfl) ?_
        refine okN_pure rfl rfl rfl (fun _ M' _ => by
          show Option.map (Res.val · M') (faddrV Try.prog 57 1 (pAdd 25 p)) = _
          rw [fa57_1, g1]
          rfl) ?_
        refine okN_call rfl (show calleeV (evO _) _ = some (31, [.ptr c 0, pAdd 1 (pAdd 25 p), .int .i64 8]) by kernel_rfl) rfl rfl (fun m' h => callD_j (snd31 (n := 8) c2 (u1.keep (k1.trans k2)) (by omega) (by omega)) en31 h) ?_
        exact okN_nil
      · rintro m3 ⟨k3, c3⟩
        simp -implicitDefEqProofs only [sims.1, fx.1, keeps.1, tick_on, calleeK, extractV, oneV, faddrK, nonnil, b_shr, b_shl, fieldK, Nat.reduceAdd, Nat.reduceMul, Nat.reduceSub, Nat.reduceEqDiff, Nat.reduceLT, Nat.reduceLeDiff, Nat.reduceBEq, Nat.reduceBNe, reduceIte, Int.reduceEq, Int.reduceLT, Int.reduceLE, Int.reduceNe, Int.reduceToNat, putAll]
        refine .inl ⟨m3, rfl, k1.trans (k2.trans k3), ?_⟩
        simpa only [encH, List.append_assoc] using c3
      · rintro _ M ⟨rfl, kk, cc⟩
        refine .inr ⟨M, rfl, k1.trans (k2.trans kk), ?_⟩
        simp only [List.length_append, encH] at cc ⊢
        omega
    · rintro _ M ⟨rfl, kk, cc⟩
      refine .inr ⟨M, rfl, k1.trans kk, ?_⟩
      simp only [List.length_append, encH] at cc ⊢
      omega
  · rintro _ M ⟨rfl, kk, cc⟩
    refine .inr ⟨M, rfl, kk, ?_⟩
    simp only [List.length_append, encH] at cc ⊢
    omega
end Go.Proofs.Ytjjenpdjmcmgbaa
