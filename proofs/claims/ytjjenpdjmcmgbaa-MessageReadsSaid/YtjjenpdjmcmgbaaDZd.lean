/- Widths; a match, written. No condition. -/
import Derived.Test.YtjjenpdjmcmgbaaDZc
namespace Go.Proofs.Ytjjenpdjmcmgbaa
open Go Ab
set_option linter.unusedSimpArgs false
set_option linter.unusedVariables false
set_option maxRecDepth 20000
def wid : Nat → Nat
  | 0 => 48 | 1 => 48 | 2 => 16 | 3 => 12 | 4 => 32 | 5 => 32 | 6 => 8 | 7 => 16 | 8 => 16 | 9 => 16 | 10 => 16 | _ => 0
/-- In how many bytes a field stands. -/
def sz (j : Nat) : Nat := (wid j + 7) / 8
theorem ans74 (j : Nat) (h : j < 11) : Ans Try.prog 74 [.int .i8 (j : Int)] (.int .i64 (wid j : Int)) := by
  refine Snd_of_W fol rfl rfl (by kernel_rfl) (by kernel_rfl) ?_
  match j, h with
  | 0, _ | 1, _ | 2, _ | 3, _ | 4, _ | 5, _ | 6, _ | 7, _ | 8, _ | 9, _ | 10, _ =>
    simp -implicitDefEqProofs only [sims.1, fx.1, keeps.1, tick_on, Nat.reduceEqDiff, Int.reduceEq, Int.cast_ofNat_Int]
    exact ans_ret rfl
  | n + 11, h => omega
theorem bu139 : buildV Try.prog 139 [(0, .int .i64 48), (1, .int .i64 48), (2, .int .i64 16), (3, .int .i64 12), (4, .int .i64 32), (5, .int .i64 32), (6, .int .i64 8), (7, .int .i64 16), (8, .int .i64 16), (9, .int .i64 16), (10, .int .i64 16)] = some (.agg (cl .i64 11 fun i => (wid i : Int))) := by kernel_rfl
theorem ans76 : Ans Try.prog 76 [] (.agg (cl .i64 11 fun i => (wid i : Int))) := by
  refine Snd_of_W fol rfl rfl (by kernel_rfl) (by kernel_rfl) ?_
  simp -implicitDefEqProofs only [sims.1, fx.1, keeps.1, tick_on, Nat.reduceEqDiff, Nat.reduceLeDiff, bu139, storeK_agg, splice_all, partK_all]
  exact ans_ret rfl
theorem ans75 (j : Nat) (h : j < 11) : Ans Try.prog 75 [.int .i8 (j : Int)] (.int .i64 (wid j : Int)) := by
  refine Snd_of_W fol rfl rfl (by kernel_rfl) (by kernel_rfl) ?_
  have h1 : decide ((j : Int) < 0) = false := by simp
  have h2 : decide ((11 : Int) ≤ (j : Int)) = false := by simp; omega
  simp -implicitDefEqProofs only [sims.1, keeps.1, tick_on, calleeK, Nat.reduceEqDiff, h1, h2]
  refine callD_ans ans76 en76 rfl nfs_cl ?_
  simp -implicitDefEqProofs only [sims.1, fx.1, keeps.1, tick_on, Nat.reduceEqDiff, h, cl_get]
  exact ans_ret rfl
theorem szq {j : Nat} (h : j < 11) : IntKind.i64.wrap ((IntKind.i64.wrap ((wid j : Int) + 7)).tdiv 8) = (sz j : Int) := by
  match j, h with
  | 0, _ | 1, _ | 2, _ | 3, _ | 4, _ | 5, _ | 6, _ | 7, _ | 8, _ | 9, _ | 10, _ => rfl
  | n + 11, h => omega
theorem sz_ok {j : Nat} (h : j < 11) : 0 < sz j ∧ sz j ≤ 6 ∧ wid j ≤ 8 * sz j := by
  match j, h with
  | 0, _ | 1, _ | 2, _ | 3, _ | 4, _ | 5, _ | 6, _ | 7, _ | 8, _ | 9, _ | 10, _ => exact ⟨by decide, by decide, by decide⟩
  | n + 11, h => omega
def mC (w : Nat → Nat) : List V := cl .u64 22 fun i => (w i : Int)
def U64 (n : Nat) (a : Nat → Nat) : Prop := ∀ i, i < n → a i < 18446744073709551616
/-- Which fields a match asks for. -/
def bitsN (w : Nat → Nat) : Nat → Nat
  | 0 => 0
  | j + 1 => bitsN w j + (if w (11 + j) = 0 then 0 else 2 ^ j)
theorem bitsN_lt (w : Nat → Nat) : ∀ j, bitsN w j < 2 ^ j
  | 0 => by simp [bitsN]
  | j + 1 => by
    have := bitsN_lt w j
    simp only [bitsN]
    rw [Nat.pow_succ]
    split <;> omega
theorem bitsN_at (w : Nat → Nat) (f : Nat) : ∀ j, f < j → bitsN w j / 2 ^ f % 2 = if w (11 + f) = 0 then 0 else 1
  | 0, h => by omega
  | j + 1, h => by
    have hp : 0 < 2 ^ f := Nat.two_pow_pos f
    rcases Nat.lt_or_ge f j with hf | hf
    · have ih := bitsN_at w f j hf
      have e : (if w (11 + j) = 0 then 0 else 2 ^ j) = 2 ^ f * ((if w (11 + j) = 0 then 0 else 2 ^ (j - f - 1)) * 2) := by
        split
        · simp
        · rw [← Nat.pow_succ, ← Nat.pow_add]
          congr 1
          omega
      simp only [bitsN]
      rw [e, Nat.add_mul_div_left _ _ hp, Nat.add_mul_mod_self_right, ih]
    · obtain rfl : f = j := by omega
      have hlt := bitsN_lt w f
      simp only [bitsN]
      split
      · rw [Nat.add_zero, Nat.div_eq_of_lt hlt]
      · rw [Nat.add_div_right _ hp, Nat.div_eq_of_lt hlt]
def encF (w : Nat → Nat) (f : Nat) : List Nat := if w (11 + f) = 0 then [] else enc (w f) (sz f) ++ enc (w (11 + f)) (sz f)
def encM (w : Nat → Nat) : List Nat := enc (bitsN w 11) 2 ++ (List.range 11).flatMap (encF w)
theorem or_bit (a j : Nat) (ha : a < 2 ^ j) (hj : j < 11) : bits .or .u64 (a : Int) ((2 ^ j : Nat) : Int) = ((a + 2 ^ j : Nat) : Int) := by
  have h2 : 2 ^ j ≤ 2 ^ 11 := Nat.pow_le_pow_right (by omega) (by omega)
  rw [bits_or_u64_nat _ _ (by omega) (by omega)]
  congr 1
  have := Nat.shiftLeft_add_eq_or_of_lt (i := j) (b := a) ha 1
  rw [Nat.shiftLeft_eq, Nat.one_mul] at this
  rw [Nat.or_comm, ← this, Nat.add_comm]
theorem shl1 (j : Nat) (hj : j < 11) : IntKind.u64.wrap (1 * 2 ^ (min j IntKind.u64.bits)) = ((2 ^ j : Nat) : Int) := by
  match j, hj with
  | 0, _ | 1, _ | 2, _ | 3, _ | 4, _ | 5, _ | 6, _ | 7, _ | 8, _ | 9, _ | 10, _ => rfl
  | n + 11, h => omega
theorem and1 (x : Nat) (hx : x < 18446744073709551616) : bits .and .u64 (x : Int) 1 = ((x % 2 : Nat) : Int) := by
  have h := bits_and_u64_nat x 1 hx (by omega)
  rw [show ((1 : Nat) : Int) = 1 from rfl] at h
  rw [h, show (1 : Nat) = 2 ^ 1 - 1 from rfl, Nat.and_two_pow_sub_one_eq_mod]
theorem eqC0 (n : Nat) : decide ((n : Int) = 0) = decide (n = 0) := by rw [Bool.eq_iff_iff]; simp
theorem lt11 (j : Nat) : decide ((j : Int) < 11) = decide (j < 11) := by rw [Bool.eq_iff_iff]; simp; omega
theorem w8j (j : Nat) (h : j < 11) : IntKind.i8.wrap (j : Int) = (j : Int) := by simp [IntKind.wrap, IntKind.bits, IntKind.signed]; omega
theorem mC_at (w : Nat → Nat) (t : List V) {j : Nat} (hj : j < 22) : ∃ t', (mC w ++ t).drop j = .int .u64 (w j : Int) :: t' := by
  have hl : (mC w).length = 22 := by simp [mC, cl]
  have h1 : (mC w ++ t)[j]? = some (.int .u64 (w j : Int)) := by
    rw [List.getElem?_append_left (by omega)]
    simp [mC, cl, hj]
  have hlt : j < (mC w ++ t).length := (List.getElem?_eq_some_iff.1 h1).1
  refine ⟨(mC w ++ t).drop (j + 1), ?_⟩
  rw [List.drop_eq_getElem_cons hlt]
  congr 1
  rw [List.getElem?_eq_getElem hlt] at h1
  exact Option.some.inj h1
theorem mC_len (w : Nat → Nat) (t : List V) : 22 ≤ (mC w ++ t).length := by simp [mC, cl]
theorem mC_msk (w : Nat → Nat) (t : List V) : ((mC w ++ t).drop 11).take 11 = cl .u64 11 fun i => (w (11 + i) : Int) := by
  simp [mC, cl, List.range, List.range.loop]
def loopM1 (w : Nat → Nat) (c n : Nat) (p : V) (j : Nat) : List (Nat × V) := [(12, .agg (cl .u64 11 fun i => (w (11 + i) : Int))), (13, .int .i64 (j : Int)), (4, .ptr n 0), (0, .ptr c 0), (1, p)]
def loopM2 (c n : Nat) (p : V) (j : Nat) : List (Nat × V) := [(4, .ptr n 0), (0, .ptr c 0), (1, p), (32, .int .i64 (j : Int))]
set_option maxHeartbeats 2000000 in
theorem snd69 {m : Mem} {c : Nat} {p : V} {t : List V} {l : List Nat} {w : Nat → Nat} (hw : U64 22 w) (hc : Cd m c l) (hp : Tg c m p (mC w ++ t)) : Snd Try.prog 69 [.ptr c 0, p] m (WQ c m l (encM w)) := by
  refine Snd_of_W fol rfl rfl (by kernel_rfl) (by kernel_rfl) ?_
  have hnn := hp.nn
  have hlen := mC_len w t
  obtain ⟨f0, hp0⟩ := hp.fa (o := 0) (by omega)
  obtain ⟨f11, hp11⟩ := hp.fa (o := 11) (by omega)
  have ld := hp11.loadA (s := 11) (by rw [List.length_drop]; omega)
  rw [mC_msk] at ld
  simp only [nonnil] at hnn
  simp only [faddrK, Nat.add_zero] at f0 f11
  have hlt := hc.lt
  have hs : ∀ (b : B), (m ++ [b])[m.length]? = some b := fun b => by simp
  have hset : ∀ b b' : B, (m ++ [b]).set m.length b' = m ++ [b'] := fun b b' => by simp
  have ldm : ∀ b, loadK true 11 (m ++ [b]) (pAdd 11 p) = some (.agg (cl .u64 11 fun i => (w (11 + i) : Int))) := fun b => by
    have := (hp11.keep (Kv.app hc [b])).loadA (s := 11) (by rw [List.length_drop]; omega)
    rwa [mC_msk] at this
  simp -implicitDefEqProofs only [sims.1, fx.1, keeps.1, tick_on, faddrK, nonnil, Nat.reduceEqDiff, Nat.reduceLT, hs, hset, hnn, f11, ldm]
  refine W_loopM (loopM1 w c m.length p) (fun j M => j ≤ 11 ∧ M = m ++ [.var 24 [.int .u64 (bitsN w j : Int)]]) (fun j => 12 - j) 0 (by kernel_rfl) ⟨by omega, rfl⟩ ?_
  rintro j M ⟨h1, rfl⟩
  rcases Nat.lt_or_ge j 11 with hj | hj
  · have c1 : decide (j < 11) = true := by simpa using hj
    have c2 := eqC0 (w (11 + j))
    have n1 : ¬ ((j : Int) < 0) := by omega
    have w1 := wrapU j (by omega)
    have w2 := add1N j (by omega)
    have s1 := shl1 j hj
    have o1 := or_bit (bitsN w j) j (bitsN_lt w j) hj
    cases e : decide (w (11 + j) = 0)
    · rw [e] at c2
      have e' : ¬ w (11 + j) = 0 := by simpa using e
      simp -implicitDefEqProofs only [sims.1, fx.1, keeps.1, tick_on, b_shl, Nat.reduceEqDiff, Nat.reduceLT, loopM1, lt11, hj, cl_get, c2, hs, hset, w1, n1, s1, o1, w2, Int.toNat_natCast]
      exact ⟨j + 1, by kernel_rfl, ⟨by omega, by simp only [bitsN, if_neg e']⟩, by omega⟩
    · rw [e] at c2
      have e' : w (11 + j) = 0 := by simpa using e
      simp -implicitDefEqProofs only [sims.1, fx.1, keeps.1, tick_on, Nat.reduceEqDiff, loopM1, lt11, hj, cl_get, c2, w2]
      exact ⟨j + 1, by kernel_rfl, ⟨by omega, by simp only [bitsN, if_pos e', Nat.add_zero]⟩, by omega⟩
  · obtain rfl : j = 11 := by omega
    have c1 : decide ((11 : Int) < 11) = false := rfl
    simp -implicitDefEqProofs only [sims.1, keeps.1, tick_on, calleeK, Nat.reduceEqDiff, Int.reduceLT, loopM1, Int.cast_ofNat_Int]
    have s11 := shrW (bitsN w 11) 11 (by omega)
    have hb := bitsN_lt w 11
    have d11 : bitsN w 11 / 2 ^ 11 = 0 := Nat.div_eq_of_lt hb
    rw [d11] at s11
    refine callD_w (snd31 (n := 2) (hc.app _) (Tg.var (q := m.length) (hs _) (by omega)) (by omega) (by omega)) en31 ?_ ?_
    · intro m1 k1 c1
      have hq := k1.2 m.length 24 _ (by omega) (hs _)
      have hk := (Kv.app hc _).trans k1
      simp -implicitDefEqProofs only [sims.1, fx.1, keeps.1, tick_on, b_shr, Nat.reduceEqDiff, Int.reduceLT, Int.reduceToNat, hq, s11, Int.cast_ofNat_Int]
      refine W_loopM (loopM2 c m.length p) (fun j M => j ≤ 11 ∧ Kv c m M ∧ M[m.length]? = some (.var 24 [.int .u64 (bitsN w 11 : Int)]) ∧ Cd M c (l ++ enc (bitsN w 11) 2 ++ (List.range j).flatMap (encF w))) (fun j => 12 - j) 0 (by kernel_rfl) ⟨by omega, hk, hq, by simpa using c1⟩ ?_
      rintro j M ⟨h1, h2, h3, h4⟩
      rcases Nat.lt_or_ge j 11 with hj | hj
      · have c1 : decide (j < 11) = true := by simpa using hj
        have hbit := bitsN_at w j 11 hj
        have n1 : ¬ ((j : Int) < 0) := by omega
        have w1 := wrapU j (by omega)
        have w2 := add1N j (by omega)
        have w3 := w8j j hj
        have s1 := shrW (bitsN w 11) j (by omega)
        have hb2 : bitsN w 11 / 2 ^ j < 18446744073709551616 := Nat.lt_of_le_of_lt (Nat.div_le_self _ _) (by omega)
        have a1 := and1 _ hb2
        rw [hbit] at a1
        have hnext : (List.range (j + 1)).flatMap (encF w) = (List.range j).flatMap (encF w) ++ encF w j := by rw [List.range_succ, List.flatMap_append]; simp
        by_cases e : w (11 + j) = 0
        · rw [if_pos e] at a1
          simp -implicitDefEqProofs only [sims.1, fx.1, keeps.1, tick_on, b_shr, Nat.reduceEqDiff, loopM2, lt11, c1, h3, w1, n1, s1, a1, w2, Int.toNat_natCast, Int.cast_ofNat_Int]
          refine ⟨j + 1, by kernel_rfl, ⟨by omega, h2, by first | exact h3 | trivial, ?_⟩, by omega⟩
          rw [hnext]
          simpa [encF, e] using h4
        · rw [if_neg e] at a1
          have q1 := szq hj
          obtain ⟨z1, z2, _⟩ := sz_ok hj
          obtain ⟨i1, t1⟩ := hp0.ia (k := .i64) hj (by rw [List.length_drop]; omega)
          obtain ⟨i2, t2⟩ := hp11.ia (k := .i64) hj (by rw [List.length_drop]; omega)
          obtain ⟨u1, v1⟩ := mC_at w t (j := j) (by omega)
          obtain ⟨u2, v2⟩ := mC_at w t (j := 11 + j) (by omega)
          rw [List.drop_drop, Nat.zero_add, v1] at t1
          rw [List.drop_drop, v2] at t2
          simp -implicitDefEqProofs only [sims.1, fx.1, keeps.1, tick_on, calleeK, b_shr, Nat.reduceEqDiff, Int.reduceEq, loopM2, lt11, c1, h3, w1, n1, s1, a1, w3, Int.toNat_natCast, Int.cast_ofNat_Int]
          refine callD_ans (ans75 j hj) en75 rfl rfl ?_
          simp -implicitDefEqProofs only [sims.1, fx.1, keeps.1, tick_on, calleeK, faddrK, nonnil, Nat.reduceEqDiff, Int.reduceEq, q1, hnn, f0, i1]
          refine callD_w (snd31 (n := sz j) h4 (t1.keep h2) z1 (by omega)) en31 ?_ ?_
          · intro m2 k2 c2
            simp -implicitDefEqProofs only [sims.1, fx.1, keeps.1, tick_on, calleeK, faddrK, nonnil, Nat.reduceEqDiff, hnn, f11, i2]
            refine callD_w (snd31 (n := sz j) c2 (t2.keep (h2.trans k2)) z1 (by omega)) en31 ?_ ?_
            · intro m3 k3 c3
              have hk3 := h2.trans (k2.trans k3)
              have ld3 := (t2.keep hk3).load1 (s := 1)
              have e2 := eqC0 (w (11 + j))
              have e3 : decide (w (11 + j) = 0) = false := by simpa using e
              rw [e3] at e2
              simp -implicitDefEqProofs only [sims.1, fx.1, keeps.1, tick_on, faddrK, nonnil, Nat.reduceEqDiff, hnn, f11, i2, ld3, e2, w2]
              have hq3 := k3.2 _ _ _ (by omega) (k2.2 m.length 24 _ (by omega) h3)
              refine ⟨j + 1, by kernel_rfl, ⟨by omega, hk3, by first | exact hq3 | trivial, ?_⟩, by omega⟩
              rw [hnext]
              simpa [encF, e] using c3
            · intro m3 k3 c3
              refine .inr ⟨m3, rfl, h2.trans (k2.trans k3), ?_⟩
              have h5 := flat_le (g := encF w) (List.range 11) (j + 1)
              rw [List.take_range, Nat.min_eq_left (by omega), hnext] at h5
              simp only [encF, if_neg e, List.length_append, encM] at c3 h5 ⊢
              omega
          · intro m2 k2 c2
            refine .inr ⟨m2, rfl, h2.trans k2, ?_⟩
            have h5 := flat_le (g := encF w) (List.range 11) (j + 1)
            rw [List.take_range, Nat.min_eq_left (by omega), hnext] at h5
            simp only [encF, if_neg e, List.length_append, encM] at c2 h5 ⊢
            omega
      · obtain rfl : j = 11 := by omega
        have c1 : decide ((11 : Int) < 11) = false := rfl
        simp -implicitDefEqProofs only [sims.1, keeps.1, tick_on, Nat.reduceEqDiff, Int.reduceLT, loopM2, Int.cast_ofNat_Int]
        rw [List.append_assoc] at h4
        exact .inl ⟨M, rfl, h2, h4⟩
    · intro m1 k1 c1
      refine .inr ⟨m1, rfl, (Kv.app hc _).trans k1, ?_⟩
      simp only [List.length_append, encM] at c1 ⊢
      omega
end Go.Proofs.Ytjjenpdjmcmgbaa
