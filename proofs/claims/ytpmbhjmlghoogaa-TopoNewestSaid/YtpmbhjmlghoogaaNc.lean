/- The sum of bytes. No condition. -/
import Derived.Test.YtpmbhjmlghoogaaNb
import Derived.Laws.BitsLemmas
namespace Go.Proofs.Ytpmbhjmlghoogaa
open Go Ab
set_option linter.unusedSimpArgs false
set_option linter.unusedVariables false
set_option maxRecDepth 20000

def wgt (i : Nat) : Nat := if i % 2 = 0 then 256 else 1
def psum (l : List Nat) : Nat → Nat
  | 0 => 0
  | j + 1 => psum l j + l.getD j 0 * wgt j
def foldS (n : Nat) : Nat := if h : n < 65536 then n else foldS (n / 65536 + n % 65536)
termination_by n
decreasing_by omega
def sumR (l : List Nat) : Nat := 65535 - foldS (psum l l.length)
theorem wgt_le (i : Nat) : wgt i ≤ 256 := by unfold wgt; split <;> omega
theorem psum_le {l : List Nat} (hb : ∀ b ∈ l, b < 256) : ∀ j, psum l j ≤ 65280 * j
  | 0 => by simp [psum]
  | j + 1 => by
    have ih := psum_le hb j
    have h1 : l.getD j 0 ≤ 255 := by
      rcases Nat.lt_or_ge j l.length with h | h
      · have := hb _ (List.getElem_mem h)
        simp [List.getD, h]; omega
      · simp [List.getD, List.getElem?_eq_none h]
    have h2 := Nat.mul_le_mul h1 (wgt_le j)
    simp only [psum]
    omega
theorem foldS_lt (n : Nat) : foldS n < 65536 := by
  induction n using Nat.strongRecOn with
  | _ n ih =>
    unfold foldS
    split
    · assumption
    · exact ih _ (by omega)
theorem foldS_small {n : Nat} (h : n < 65536) : foldS n = n := by unfold foldS; rw [dif_pos h]
theorem foldS_step {n : Nat} (h : ¬ n < 65536) : foldS (n / 65536 + n % 65536) = foldS n := by conv => rhs; unfold foldS; rw [dif_neg h]

theorem and1 (i : Nat) (h : i < 9223372036854775807) : bits .and .i64 (i : Int) 1 = ((i % 2 : Nat) : Int) := by
  have := bits_mask .i64 63 (by decide) (fun n h0 h1 => by rw [IntKind.wrap_i64]; omega) 1 (by omega) (i : Int) (by omega) (by omega)
  simpa using this
theorem and16 (x : Nat) (h : x < 18446744073709551616) : bits .and .u64 (x : Int) 65535 = ((x % 65536 : Nat) : Int) := by
  have := bits_mask .u64 64 (by decide) (fun n h0 h1 => by rw [IntKind.wrap_u64]; omega) 16 (by omega) (x : Int) (by omega) (by omega)
  simpa using this
theorem shr16 (x : Nat) : (x : Int).fdiv (2 ^ (min 16 IntKind.u64.bits)) = ((x / 65536 : Nat) : Int) := by
  have : (2 : Int) ^ (min 16 IntKind.u64.bits) = 65536 := by decide
  rw [this, Int.fdiv_eq_ediv_of_nonneg _ (by omega)]
  omega
theorem wrapU (x : Nat) (h : x < 18446744073709551616) : IntKind.u64.wrap (x : Int) = (x : Int) := by rw [IntKind.wrap_u64]; omega
theorem wrapU2 (x y : Nat) (h : x + y < 18446744073709551616) : IntKind.u64.wrap ((x : Int) + (y : Int)) = ((x + y : Nat) : Int) := by rw [IntKind.wrap_u64]; omega
theorem wrapS (x : Nat) (h : x < 65536) : IntKind.u16.wrap (x : Int) = (x : Int) := by simp [IntKind.wrap, IntKind.bits, IntKind.signed]; omega
theorem compl16 (x : Nat) (h : x < 65536) : bits .xor .u16 65535 (x : Int) = ((65535 - x : Nat) : Int) := by
  have h2 : (BitVec.ofInt 16 (x : Int)).toNat = x := by
    rw [BitVec.ofInt_natCast, BitVec.toNat_ofNat]; exact Nat.mod_eq_of_lt (by omega)
  show IntKind.u16.wrap ((BitVec.ofInt 16 65535 ^^^ BitVec.ofInt 16 (x : Int)).toNat : Int) = _
  have h1 : BitVec.ofInt 16 65535 = BitVec.allOnes 16 := by decide
  rw [h1, BitVec.allOnes_xor, BitVec.toNat_not, h2]
  have : (2 ^ 16 - 1 - x : Nat) = 65535 - x := by omega
  rw [this]
  exact wrapS _ (by omega)
theorem uxor (n : Int) : unV .xor (.int .u16 n) = some (.int .u16 (bits .xor .u16 65535 n)) := rfl
theorem wa0 : IntKind.i64.wrap (1 - 0) = 1 := by kernel_rfl
theorem wa1 : IntKind.i64.wrap (1 - 1) = 0 := by kernel_rfl
theorem wm0 : IntKind.i64.wrap (8 * 1) = 8 := by kernel_rfl
theorem wm1 : IntKind.i64.wrap (8 * 0) = 0 := by kernel_rfl
theorem wu8 : IntKind.u64.wrap 8 = 8 := by kernel_rfl
theorem wu0 : IntKind.u64.wrap 0 = 0 := by kernel_rfl
theorem shl0 (x : Nat) (h : x < 256) : IntKind.u64.wrap ((x : Int) * 2 ^ (min 0 IntKind.u64.bits)) = (x : Int) := by
  simp [IntKind.wrap, IntKind.bits, IntKind.signed]; omega

set_option maxHeartbeats 1000000 in
theorem ans60 (l : List Nat) (hb : ∀ b ∈ l, b < 256) (hl : l.length < 281474976710656) : Ans Try.prog 60 [byV l] (.int .u16 (sumR l : Int)) := by
  refine Snd_of_W fol rfl rfl (by kernel_rfl) (by kernel_rfl) ?_
  simp -implicitDefEqProofs only [sims.1, fx.1, tick_on, calleeK, List.getElem?_toArray, extractV, oneV, faddrK, nonnil, b_shr, b_shl, eq_self, beq_self_eq_true, fieldK, Option.bind_some, Option.map_some, Option.bind_none, Option.map_none, List.map_cons, List.map_nil, List.getD_cons_zero, List.getD_cons_succ, List.getD_nil, List.length_nil, List.length_cons, List.length_set, List.nil_append, List.cons_append, List.append_nil, List.getElem?_cons_zero, List.getElem?_cons_succ, List.getElem?_nil, List.set_cons_zero, List.set_cons_succ, Nat.reduceAdd, Nat.zero_add, Nat.add_zero, Nat.mul_one, Nat.mul_zero, Nat.zero_mul, Nat.reduceMul, Nat.reduceSub, Nat.reduceEqDiff, Nat.reduceLT, Nat.reduceLeDiff, Nat.reduceBEq, Nat.reduceBNe, Nat.succ_ne_self, reduceIte, if_true, if_false, ite_self, decide_true, decide_false, Bool.not_true, Bool.not_false, Bool.and_true, Bool.true_and, Bool.and_false, Bool.false_and, Bool.or_true, Bool.true_or, Bool.or_false, Bool.false_or, cond_true, cond_false, Int.reduceEq, Int.reduceLT, Int.reduceLE, Int.reduceNe, Int.reduceToNat, len_by]
  refine W_loop (fun j : Nat => (mkEnv [(7, .int .i64 (l.length : Int)), (6, byV l), (8, .int .i64 (j : Int)), (3, .int .u64 (psum l j : Int))], [])) (fun j => j ≤ l.length) (fun j => l.length + 1 - j) 0
    (canon_nil [.int .i64 (l.length : Int), byV l, .int .i64 0, .int .u64 0] (by kernel_rfl) (by simp only [nfs, nf_by]; rfl) (by kernel_rfl)) (by omega) ?_
  intro j h1
  have hle := psum_le hb j
  rcases Nat.lt_or_ge j l.length with hj | hj
  · have c1 : decide (j < l.length) = true := by simpa using hj
    have w1 := wrap_i64s j (by omega)
    have io : ∀ {kk : IntKind}, iaddrS 1 (byV l) (.int kk (j : Int)) = some (.ip (byC l[j])) := fun {kk} => ia_by hj
    have hbj := hb _ (List.getElem_mem hj)
    have a1 := and1 j (by omega)
    have x2 := wrapB _ hbj
    have hg : l.getD j 0 = l[j] := by simp [List.getD, hj]
    rcases Nat.mod_two_eq_zero_or_one j with hp | hp
    · have x3 := shl8 l[j] (by omega)
      have x4 := wrapU2 (psum l j) (l[j] * 256) (by omega)
      have hps : psum l j + l[j] * 256 = psum l (j + 1) := by show _ = psum l j + l.getD j 0 * wgt j; rw [hg]; simp [wgt, hp]
      rw [hp] at a1
      rw [hps] at x4
      simp -implicitDefEqProofs only [sims.1, fx.1, tick_on, calleeK, List.getElem?_toArray, extractV, oneV, faddrK, nonnil, b_shr, b_shl, eq_self, beq_self_eq_true, fieldK, Option.bind_some, Option.map_some, Option.bind_none, Option.map_none, List.map_cons, List.map_nil, List.getD_cons_zero, List.getD_cons_succ, List.getD_nil, List.length_nil, List.length_cons, List.length_set, List.nil_append, List.cons_append, List.append_nil, List.getElem?_cons_zero, List.getElem?_cons_succ, List.getElem?_nil, List.set_cons_zero, List.set_cons_succ, Nat.reduceAdd, Nat.zero_add, Nat.add_zero, Nat.mul_one, Nat.mul_zero, Nat.zero_mul, Nat.reduceMul, Nat.reduceSub, Nat.reduceEqDiff, Nat.reduceLT, Nat.reduceLeDiff, Nat.reduceBEq, Nat.reduceBNe, Nat.succ_ne_self, reduceIte, if_true, if_false, ite_self, decide_true, decide_false, Bool.not_true, Bool.not_false, Bool.and_true, Bool.true_and, Bool.and_false, Bool.false_and, Bool.or_true, Bool.true_or, Bool.or_false, Bool.false_or, cond_true, cond_false, Int.reduceEq, Int.reduceLT, Int.reduceLE, Int.reduceNe, Int.reduceToNat, ltNat, c1, io, by0, x2, a1, Int.natCast_zero, wa0, wm0, wu8, x3, x4, w1]
      exact ⟨j + 1, canon_nil [.int .i64 (l.length : Int), byV l, .int .i64 ((j + 1 : Nat) : Int), .int .u64 (psum l (j + 1) : Int)] (by kernel_rfl) (by simp only [nfs, nf_by]; rfl) (by kernel_rfl), by omega, by omega⟩
    · have x3 := shl0 l[j] hbj
      have x4 := wrapU2 (psum l j) l[j] (by omega)
      have hps : psum l j + l[j] = psum l (j + 1) := by show _ = psum l j + l.getD j 0 * wgt j; rw [hg]; simp [wgt, hp]
      rw [hp] at a1
      rw [hps] at x4
      simp -implicitDefEqProofs only [sims.1, fx.1, tick_on, calleeK, List.getElem?_toArray, extractV, oneV, faddrK, nonnil, b_shr, b_shl, eq_self, beq_self_eq_true, fieldK, Option.bind_some, Option.map_some, Option.bind_none, Option.map_none, List.map_cons, List.map_nil, List.getD_cons_zero, List.getD_cons_succ, List.getD_nil, List.length_nil, List.length_cons, List.length_set, List.nil_append, List.cons_append, List.append_nil, List.getElem?_cons_zero, List.getElem?_cons_succ, List.getElem?_nil, List.set_cons_zero, List.set_cons_succ, Nat.reduceAdd, Nat.zero_add, Nat.add_zero, Nat.mul_one, Nat.mul_zero, Nat.zero_mul, Nat.reduceMul, Nat.reduceSub, Nat.reduceEqDiff, Nat.reduceLT, Nat.reduceLeDiff, Nat.reduceBEq, Nat.reduceBNe, Nat.succ_ne_self, reduceIte, if_true, if_false, ite_self, decide_true, decide_false, Bool.not_true, Bool.not_false, Bool.and_true, Bool.true_and, Bool.and_false, Bool.false_and, Bool.or_true, Bool.true_or, Bool.or_false, Bool.false_or, cond_true, cond_false, Int.reduceEq, Int.reduceLT, Int.reduceLE, Int.reduceNe, Int.reduceToNat, ltNat, c1, io, by0, x2, a1, Int.natCast_one, wa1, wm1, wu0, x3, x4, w1]
      exact ⟨j + 1, canon_nil [.int .i64 (l.length : Int), byV l, .int .i64 ((j + 1 : Nat) : Int), .int .u64 (psum l (j + 1) : Int)] (by kernel_rfl) (by simp only [nfs, nf_by]; rfl) (by kernel_rfl), by omega, by omega⟩
  obtain rfl : j = l.length := by omega
  have c1 : decide (l.length < l.length) = false := by simp
  simp -implicitDefEqProofs only [sims.1, fx.1, tick_on, calleeK, List.getElem?_toArray, extractV, oneV, faddrK, nonnil, b_shr, b_shl, eq_self, beq_self_eq_true, fieldK, Option.bind_some, Option.map_some, Option.bind_none, Option.map_none, List.map_cons, List.map_nil, List.getD_cons_zero, List.getD_cons_succ, List.getD_nil, List.length_nil, List.length_cons, List.length_set, List.nil_append, List.cons_append, List.append_nil, List.getElem?_cons_zero, List.getElem?_cons_succ, List.getElem?_nil, List.set_cons_zero, List.set_cons_succ, Nat.reduceAdd, Nat.zero_add, Nat.add_zero, Nat.mul_one, Nat.mul_zero, Nat.zero_mul, Nat.reduceMul, Nat.reduceSub, Nat.reduceEqDiff, Nat.reduceLT, Nat.reduceLeDiff, Nat.reduceBEq, Nat.reduceBNe, Nat.succ_ne_self, reduceIte, if_true, if_false, ite_self, decide_true, decide_false, Bool.not_true, Bool.not_false, Bool.and_true, Bool.true_and, Bool.and_false, Bool.false_and, Bool.or_true, Bool.true_or, Bool.or_false, Bool.false_or, cond_true, cond_false, Int.reduceEq, Int.reduceLT, Int.reduceLE, Int.reduceNe, Int.reduceToNat, ltNat, c1]
  refine W_loop (fun x : Nat => (mkEnv [(3, .int .u64 (x : Int))], [])) (fun x => x < 18446744073709551616 ∧ foldS x = foldS (psum l l.length)) (fun x => x) (psum l l.length)
    (canon_nil [.int .u64 (psum l l.length : Int)] (by kernel_rfl) rfl (by kernel_rfl)) ⟨by omega, rfl⟩ ?_
  rintro x ⟨g1, g2⟩
  have s1 := shr16 x
  by_cases hx : x < 65536
  · have d1 : decide (((x / 65536 : Nat) : Int) = 0) = true := by simp; omega
    have e1 := wrapS x hx
    have e2 := compl16 x hx
    simp -implicitDefEqProofs only [sims.1, fx.1, tick_on, calleeK, List.getElem?_toArray, extractV, oneV, faddrK, nonnil, b_shr, b_shl, eq_self, beq_self_eq_true, fieldK, Option.bind_some, Option.map_some, Option.bind_none, Option.map_none, List.map_cons, List.map_nil, List.getD_cons_zero, List.getD_cons_succ, List.getD_nil, List.length_nil, List.length_cons, List.length_set, List.nil_append, List.cons_append, List.append_nil, List.getElem?_cons_zero, List.getElem?_cons_succ, List.getElem?_nil, List.set_cons_zero, List.set_cons_succ, Nat.reduceAdd, Nat.zero_add, Nat.add_zero, Nat.mul_one, Nat.mul_zero, Nat.zero_mul, Nat.reduceMul, Nat.reduceSub, Nat.reduceEqDiff, Nat.reduceLT, Nat.reduceLeDiff, Nat.reduceBEq, Nat.reduceBNe, Nat.succ_ne_self, reduceIte, if_true, if_false, ite_self, decide_true, decide_false, Bool.not_true, Bool.not_false, Bool.and_true, Bool.true_and, Bool.and_false, Bool.false_and, Bool.or_true, Bool.true_or, Bool.or_false, Bool.false_or, cond_true, cond_false, Int.reduceEq, Int.reduceLT, Int.reduceLE, Int.reduceNe, Int.reduceToNat, s1, d1, e1, uxor, e2]
    rw [show sumR l = 65535 - x from by unfold sumR; rw [← g2, foldS_small hx]]
    exact ans_ret rfl
  · have d1 : decide (((x / 65536 : Nat) : Int) = 0) = false := by simp; omega
    have a1 := and16 x g1
    have x4 := wrapU2 (x / 65536) (x % 65536) (by omega)
    simp -implicitDefEqProofs only [sims.1, fx.1, tick_on, calleeK, List.getElem?_toArray, extractV, oneV, faddrK, nonnil, b_shr, b_shl, eq_self, beq_self_eq_true, fieldK, Option.bind_some, Option.map_some, Option.bind_none, Option.map_none, List.map_cons, List.map_nil, List.getD_cons_zero, List.getD_cons_succ, List.getD_nil, List.length_nil, List.length_cons, List.length_set, List.nil_append, List.cons_append, List.append_nil, List.getElem?_cons_zero, List.getElem?_cons_succ, List.getElem?_nil, List.set_cons_zero, List.set_cons_succ, Nat.reduceAdd, Nat.zero_add, Nat.add_zero, Nat.mul_one, Nat.mul_zero, Nat.zero_mul, Nat.reduceMul, Nat.reduceSub, Nat.reduceEqDiff, Nat.reduceLT, Nat.reduceLeDiff, Nat.reduceBEq, Nat.reduceBNe, Nat.succ_ne_self, reduceIte, if_true, if_false, ite_self, decide_true, decide_false, Bool.not_true, Bool.not_false, Bool.and_true, Bool.true_and, Bool.and_false, Bool.false_and, Bool.or_true, Bool.true_or, Bool.or_false, Bool.false_or, cond_true, cond_false, Int.reduceEq, Int.reduceLT, Int.reduceLE, Int.reduceNe, Int.reduceToNat, s1, d1, a1, x4]
    exact ⟨x / 65536 + x % 65536, canon_nil [.int .u64 ((x / 65536 + x % 65536 : Nat) : Int)] (by kernel_rfl) rfl (by kernel_rfl), ⟨by omega, by rw [foldS_step hx]; exact g2⟩, by omega⟩
end Go.Proofs.Ytpmbhjmlghoogaa
