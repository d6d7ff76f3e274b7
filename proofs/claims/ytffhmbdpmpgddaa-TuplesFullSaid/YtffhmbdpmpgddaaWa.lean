/- Matches: widths, Check and Hits, as both packages tell them. No condition. -/
import Derived.Test.YtffhmbdpmpgddaaKp
import Derived.Test.YtffhmbdpmpgddaaFx
import Derived.Test.YtffhmbdpmpgddaaSg0
namespace Go.Proofs.Ytffhmbdpmpgddaa
open Go Ab
set_option linter.unusedSimpArgs false
set_option linter.unusedVariables false
set_option maxRecDepth 20000



def wid : Nat → Nat
  | 0 => 48 | 1 => 48 | 2 => 16 | 3 => 12 | 4 => 32 | 5 => 32 | 6 => 8 | 7 => 16 | 8 => 16 | 9 => 16 | 10 => 16 | _ => 0

theorem ans38 (j : Nat) (h : j < 11) : Ans Try.prog 38 [.int .i8 (j : Int)] (.int .i64 (wid j : Int)) := by
  refine Snd_of_W fol rfl rfl (by kernel_rfl) (by kernel_rfl) ?_
  match j, h with
  | 0, _ | 1, _ | 2, _ | 3, _ | 4, _ | 5, _ | 6, _ | 7, _ | 8, _ | 9, _ | 10, _ =>
    simp -implicitDefEqProofs only [sims.1, fx.1, keeps.1, tick_on, calleeK, extractV, oneV, faddrK, nonnil, b_shr, b_shl, fieldK, Nat.reduceAdd, Nat.reduceMul, Nat.reduceSub, Nat.reduceEqDiff, Nat.reduceLT, Nat.reduceLeDiff, Nat.reduceBEq, Nat.reduceBNe, reduceIte, Int.reduceEq, Int.reduceLT, Int.reduceLE, Int.reduceNe, Int.reduceToNat, Int.cast_ofNat_Int]
    exact ans_ret rfl
  | n + 11, h => omega

theorem bu84 : buildV Try.prog 84 [(0, .int .i64 48), (1, .int .i64 48), (2, .int .i64 16), (3, .int .i64 12), (4, .int .i64 32), (5, .int .i64 32), (6, .int .i64 8), (7, .int .i64 16), (8, .int .i64 16), (9, .int .i64 16), (10, .int .i64 16)] = some (.agg (cl .i64 11 fun i => (wid i : Int))) := by kernel_rfl

theorem ans40 : Ans Try.prog 40 [] (.agg (cl .i64 11 fun i => (wid i : Int))) := by
  refine Snd_of_W fol rfl rfl (by kernel_rfl) (by kernel_rfl) ?_
  simp -implicitDefEqProofs only [sims.1, fx.1, keeps.1, tick_on, calleeK, extractV, oneV, faddrK, nonnil, b_shr, b_shl, fieldK, Nat.reduceAdd, Nat.reduceMul, Nat.reduceSub, Nat.reduceEqDiff, Nat.reduceLT, Nat.reduceLeDiff, Nat.reduceBEq, Nat.reduceBNe, reduceIte, Int.reduceEq, Int.reduceLT, Int.reduceLE, Int.reduceNe, Int.reduceToNat, bu84, storeK_agg, splice_all, partK_all]
  exact ans_ret rfl

theorem ans33 (j : Nat) (h : j < 11) : Ans Try.prog 33 [.int .i8 (j : Int)] (.int .i64 (wid j : Int)) := by
  refine Snd_of_W fol rfl rfl (by kernel_rfl) (by kernel_rfl) ?_
  have h1 : decide ((j : Int) < 0) = false := by simp
  have h2 : decide ((11 : Int) ≤ (j : Int)) = false := by simp; omega
  simp -implicitDefEqProofs only [sims.1, fx.1, keeps.1, tick_on, calleeK, extractV, oneV, faddrK, nonnil, b_shr, b_shl, fieldK, Nat.reduceAdd, Nat.reduceMul, Nat.reduceSub, Nat.reduceEqDiff, Nat.reduceLT, Nat.reduceLeDiff, Nat.reduceBEq, Nat.reduceBNe, reduceIte, Int.reduceEq, Int.reduceLT, Int.reduceLE, Int.reduceNe, Int.reduceToNat, h1, h2]
  refine callD_ans ans40 en40 rfl nfs_cl ?_
  simp -implicitDefEqProofs only [sims.1, fx.1, keeps.1, tick_on, calleeK, extractV, oneV, faddrK, nonnil, b_shr, b_shl, fieldK, Nat.reduceAdd, Nat.reduceMul, Nat.reduceSub, Nat.reduceEqDiff, Nat.reduceLT, Nat.reduceLeDiff, Nat.reduceBEq, Nat.reduceBNe, reduceIte, Int.reduceEq, Int.reduceLT, Int.reduceLE, Int.reduceNe, Int.reduceToNat, h, cl_get]
  exact ans_ret rfl


def mv (a : Nat → Nat) : V := .agg (cl .u64 22 fun i => (a i : Int))

def badAt (a : Nat → Nat) (j : Nat) : Bool := !decide (a (11 + j) / 2 ^ wid j = 0) || !decide (a j &&& (18446744073709551615 - a (11 + j)) = 0)
def chk (a : Nat → Nat) : Bool := (List.range 11).all fun j => !badAt a j
def U64 (n : Nat) (a : Nat → Nat) : Prop := ∀ i, i < n → a i < 18446744073709551616

theorem wid_le (j : Nat) : wid j ≤ 48 := by
  match j with
  | 0 | 1 | 2 | 3 | 4 | 5 | 6 | 7 | 8 | 9 | 10 => decide
  | n + 11 => exact Nat.zero_le 48

theorem bits_andNot_u64_nat (a b : Nat) (ha : a < 18446744073709551616) (hb : b < 18446744073709551616) :
    bits .andNot .u64 (a : Int) (b : Int) = ((a &&& (18446744073709551615 - b) : Nat) : Int) := by
  have e : a &&& (18446744073709551615 - b) < 18446744073709551616 := Nat.lt_of_le_of_lt Nat.and_le_left ha
  have h1 : (BitVec.ofInt 64 (a : Int)).toNat = a := by simp; omega
  have h2 : (BitVec.ofInt 64 (b : Int)).toNat = b := by simp; omega
  show IntKind.u64.wrap (((BitVec.ofInt 64 (a : Int) &&& ~~~BitVec.ofInt 64 (b : Int)).toNat : Nat) : Int) = _
  rw [IntKind.wrap_u64, BitVec.toNat_and, BitVec.toNat_not, h1, h2]
  have e3 : 2 ^ 64 - 1 - b = 18446744073709551615 - b := by omega
  rw [e3]
  omega

theorem shr_u64 {P : Program} {t : TypeId} {k : IntKind} (x s : Nat) (hs : s ≤ 64) : binV P .shr t (.int .u64 (x : Int)) (.int k (s : Int)) = some (.int .u64 ((x / 2 ^ s : Nat) : Int)) := by
  have e : min s 64 = s := by omega
  have e2 : ¬ (s : Int) < 0 := by omega
  simp only [binV, e2, if_false, Int.toNat_natCast, IntKind.bits, e]
  rw [Int.fdiv_eq_ediv_of_nonneg _ (by exact Int.pow_nonneg (by omega))]
  simp
theorem wrap_i8 (j : Nat) (h : j < 128) : IntKind.i8.wrap (j : Int) = (j : Int) := by
  simp [IntKind.wrap, IntKind.bits, IntKind.signed]; omega
theorem wrap_u64n (j : Nat) (h : j < 18446744073709551616) : IntKind.u64.wrap (j : Int) = (j : Int) := by rw [IntKind.wrap_u64]; omega
theorem wrap_i64s (j : Nat) (h : j < 9223372036854775807) : IntKind.i64.wrap ((j : Int) + 1) = ((j + 1 : Nat) : Int) := by
  simp [IntKind.wrap, IntKind.bits, IntKind.signed]; omega
theorem nat0 (n : Nat) : decide ((n : Int) = 0) = decide (n = 0) := by
  rw [Bool.eq_iff_iff]; simp
theorem ltc (j k : Nat) (h : j < k) : decide ((j : Int) < (k : Int)) = true := by simp; omega

theorem ans18 (a : Nat → Nat) (ha : U64 22 a) : Ans Try.prog 18 [mv a] (.int .i64 (if chk a then 0 else 20)) := by
  refine Snd_of_W fol rfl rfl (by kernel_rfl) (by kernel_rfl) ?_
  simp -implicitDefEqProofs only [sims.1, fx.1, keeps.1, tick_on, calleeK, extractV, oneV, faddrK, nonnil, b_shr, b_shl, fieldK, Nat.reduceAdd, Nat.reduceMul, Nat.reduceSub, Nat.reduceEqDiff, Nat.reduceLT, Nat.reduceLeDiff, Nat.reduceBEq, Nat.reduceBNe, reduceIte, Int.reduceEq, Int.reduceLT, Int.reduceLE, Int.reduceNe, Int.reduceToNat, mv, partK_cl, Nat.reduceLeDiff]
  refine W_loop (fun j : Nat => (mkEnv [(6, .agg (cl .u64 11 fun i => (a (11 + i) : Int))), (1, .ptr 0 0), (7, .int .i64 (j : Int))], [.var 29 (cl .u64 22 fun i => (a i : Int))]))
    (fun j => j ≤ 11 ∧ ∀ i, i < j → badAt a i = false) (fun j => 12 - j) 0 (by kernel_rfl) ⟨by omega, by omega⟩ ?_
  rintro j ⟨h1, h2⟩
  rcases Nat.lt_or_ge j 11 with hj | hj
  · have c1 : decide ((j : Int) < 11) = true := by simp; omega
    have c2 := wrap_i8 j (by omega)
    simp -implicitDefEqProofs only [sims.1, fx.1, keeps.1, tick_on, calleeK, extractV, oneV, faddrK, nonnil, b_shr, b_shl, fieldK, Nat.reduceAdd, Nat.reduceMul, Nat.reduceSub, Nat.reduceEqDiff, Nat.reduceLT, Nat.reduceLeDiff, Nat.reduceBEq, Nat.reduceBNe, reduceIte, Int.reduceEq, Int.reduceLT, Int.reduceLE, Int.reduceNe, Int.reduceToNat, c1, c2, hj, cl_get]
    refine callD_ans (ans33 j hj) en33 rfl rfl ?_
    have c3 := wrap_u64n (wid j) (by have := wid_le j; omega)
    have c4 : wid j ≤ 64 := by have := wid_le j; omega
    have c5 := bits_andNot_u64_nat (a j) (a (11 + j)) (ha j (by omega)) (ha (11 + j) (by omega))
    have c6 : j < 22 := by omega
    have c7 := wrap_i64s j (by omega)
    have bad : ∀ x y : Bool, decide (a (11 + j) / 2 ^ wid j = 0) = x → decide (a j &&& (18446744073709551615 - a (11 + j)) = 0) = y → badAt a j = (!x || !y) := by
      intro x y hx hy; unfold badAt; rw [hx, hy]
    have stop : badAt a j = true → (if chk a then 0 else 20 : Int) = 20 := by
      intro hb
      have : chk a = false := by
        unfold chk
        rw [List.all_eq_false]
        exact ⟨j, by simpa using hj, by simp [hb]⟩
      rw [this]; rfl
    cases e1 : decide (a (11 + j) / 2 ^ wid j = 0)
    · simp -implicitDefEqProofs only [sims.1, fx.1, keeps.1, tick_on, calleeK, extractV, oneV, faddrK, nonnil, b_shr, b_shl, fieldK, Nat.reduceAdd, Nat.reduceMul, Nat.reduceSub, Nat.reduceEqDiff, Nat.reduceLT, Nat.reduceLeDiff, Nat.reduceBEq, Nat.reduceBNe, reduceIte, Int.reduceEq, Int.reduceLT, Int.reduceLE, Int.reduceNe, Int.reduceToNat, c1, c2, c3, shr_u64 _ _ c4, hj, cl_get, nat0, e1]
      exact ans_ret (by rw [stop (by rw [bad _ _ e1 rfl]; rfl)])
    · cases e2 : decide (a j &&& (18446744073709551615 - a (11 + j)) = 0)
      · simp -implicitDefEqProofs only [sims.1, fx.1, keeps.1, tick_on, calleeK, extractV, oneV, faddrK, nonnil, b_shr, b_shl, fieldK, Nat.reduceAdd, Nat.reduceMul, Nat.reduceSub, Nat.reduceEqDiff, Nat.reduceLT, Nat.reduceLeDiff, Nat.reduceBEq, Nat.reduceBNe, reduceIte, Int.reduceEq, Int.reduceLT, Int.reduceLE, Int.reduceNe, Int.reduceToNat, c1, c2, c3, shr_u64 _ _ c4, hj, cl_get, nat0, e1, c5, c6, e2]
        exact ans_ret (by rw [stop (by rw [bad _ _ e1 e2]; rfl)])
      · simp -implicitDefEqProofs only [sims.1, fx.1, keeps.1, tick_on, calleeK, extractV, oneV, faddrK, nonnil, b_shr, b_shl, fieldK, Nat.reduceAdd, Nat.reduceMul, Nat.reduceSub, Nat.reduceEqDiff, Nat.reduceLT, Nat.reduceLeDiff, Nat.reduceBEq, Nat.reduceBNe, reduceIte, Int.reduceEq, Int.reduceLT, Int.reduceLE, Int.reduceNe, Int.reduceToNat, c1, c2, c3, shr_u64 _ _ c4, hj, cl_get, nat0, e1, c5, c6, c7, e2]
        refine ⟨j + 1, by kernel_rfl, ⟨by omega, fun i hi => ?_⟩, by omega⟩
        rcases Nat.lt_or_ge i j with h3 | h3
        · exact h2 i h3
        · have : i = j := by omega
          subst this
          rw [bad _ _ e1 e2]; rfl
  · have e : j = 11 := by omega
    subst e
    have c1 : decide (((11 : Nat) : Int) < 11) = false := by decide
    simp -implicitDefEqProofs only [sims.1, fx.1, keeps.1, tick_on, calleeK, extractV, oneV, faddrK, nonnil, b_shr, b_shl, fieldK, Nat.reduceAdd, Nat.reduceMul, Nat.reduceSub, Nat.reduceEqDiff, Nat.reduceLT, Nat.reduceLeDiff, Nat.reduceBEq, Nat.reduceBNe, reduceIte, Int.reduceEq, Int.reduceLT, Int.reduceLE, Int.reduceNe, Int.reduceToNat, c1]
    refine ans_ret ?_
    have : chk a = true := by
      unfold chk
      rw [List.all_eq_true]
      intro i hi
      rw [h2 i (by simpa using hi)]; rfl
    rw [this]; rfl


theorem ans27 (a : Nat → Nat) (ha : U64 22 a) : Ans Try.prog 27 [mv a] (.int .i64 (if chk a then 0 else 20)) := by
  refine Snd_of_W fol rfl rfl (by kernel_rfl) (by kernel_rfl) ?_
  simp -implicitDefEqProofs only [sims.1, fx.1, keeps.1, tick_on, calleeK, extractV, oneV, faddrK, nonnil, b_shr, b_shl, fieldK, Nat.reduceAdd, Nat.reduceMul, Nat.reduceSub, Nat.reduceEqDiff, Nat.reduceLT, Nat.reduceLeDiff, Nat.reduceBEq, Nat.reduceBNe, reduceIte, Int.reduceEq, Int.reduceLT, Int.reduceLE, Int.reduceNe, Int.reduceToNat, mv, partK_cl, Nat.reduceLeDiff]
  refine W_loop (fun j : Nat => (mkEnv [(1, .ptr 0 0), (3, .int .i64 (j : Int))], [.var 29 (cl .u64 22 fun i => (a i : Int))]))
    (fun j => j ≤ 11 ∧ ∀ i, i < j → badAt a i = false) (fun j => 12 - j) 0 (by kernel_rfl) ⟨by omega, by omega⟩ ?_
  rintro j ⟨h1, h2⟩
  rcases Nat.lt_or_ge j 11 with hj | hj
  · have c1 : decide ((j : Int) < 11) = true := by simp; omega
    have c2 := wrap_i8 j (by omega)
    have d1 : 11 + j < 22 := by omega
    simp -implicitDefEqProofs only [sims.1, fx.1, keeps.1, tick_on, calleeK, extractV, oneV, faddrK, nonnil, b_shr, b_shl, fieldK, Nat.reduceAdd, Nat.reduceMul, Nat.reduceSub, Nat.reduceEqDiff, Nat.reduceLT, Nat.reduceLeDiff, Nat.reduceBEq, Nat.reduceBNe, reduceIte, Int.reduceEq, Int.reduceLT, Int.reduceLE, Int.reduceNe, Int.reduceToNat, c1, c2, hj, cl_get]
    refine w_quiet ?_
    simp -implicitDefEqProofs only [sims.1, fx.1, keeps.1, tick_on, calleeK, extractV, oneV, faddrK, nonnil, b_shr, b_shl, fieldK, Nat.reduceAdd, Nat.reduceMul, Nat.reduceSub, Nat.reduceEqDiff, Nat.reduceLT, Nat.reduceLeDiff, Nat.reduceBEq, Nat.reduceBNe, reduceIte, Int.reduceEq, Int.reduceLT, Int.reduceLE, Int.reduceNe, Int.reduceToNat, c1, c2, hj, cl_get, d1]
    refine callQ_ans (ans38 j hj) en38 rfl rfl ?_
    have c3 := wrap_u64n (wid j) (by have := wid_le j; omega)
    have c4 : wid j ≤ 64 := by have := wid_le j; omega
    have c5 := bits_andNot_u64_nat (a j) (a (11 + j)) (ha j (by omega)) (ha (11 + j) (by omega))
    have c6 : j < 22 := by omega
    have c7 := wrap_i64s j (by omega)
    have bad : ∀ x y : Bool, decide (a (11 + j) / 2 ^ wid j = 0) = x → decide (a j &&& (18446744073709551615 - a (11 + j)) = 0) = y → badAt a j = (!x || !y) := by
      intro x y hx hy; unfold badAt; rw [hx, hy]
    have stop : badAt a j = true → (if chk a then 0 else 20 : Int) = 20 := by
      intro hb
      have : chk a = false := by
        unfold chk
        rw [List.all_eq_false]
        exact ⟨j, by simpa using hj, by simp [hb]⟩
      rw [this]; rfl
    cases e1 : decide (a (11 + j) / 2 ^ wid j = 0)
    · simp -implicitDefEqProofs only [sims.1, fx.1, keeps.1, tick_on, calleeK, extractV, oneV, faddrK, nonnil, b_shr, b_shl, fieldK, Nat.reduceAdd, Nat.reduceMul, Nat.reduceSub, Nat.reduceEqDiff, Nat.reduceLT, Nat.reduceLeDiff, Nat.reduceBEq, Nat.reduceBNe, reduceIte, Int.reduceEq, Int.reduceLT, Int.reduceLE, Int.reduceNe, Int.reduceToNat, c1, c2, c3, shr_u64 _ _ c4, hj, cl_get, d1, nat0, e1]
      exact ans_ret (by rw [stop (by rw [bad _ _ e1 rfl]; rfl)])
    · cases e2 : decide (a j &&& (18446744073709551615 - a (11 + j)) = 0)
      · simp -implicitDefEqProofs only [sims.1, fx.1, keeps.1, tick_on, calleeK, extractV, oneV, faddrK, nonnil, b_shr, b_shl, fieldK, Nat.reduceAdd, Nat.reduceMul, Nat.reduceSub, Nat.reduceEqDiff, Nat.reduceLT, Nat.reduceLeDiff, Nat.reduceBEq, Nat.reduceBNe, reduceIte, Int.reduceEq, Int.reduceLT, Int.reduceLE, Int.reduceNe, Int.reduceToNat, c1, c2, c3, shr_u64 _ _ c4, hj, cl_get, d1, nat0, e1, c5, c6, e2]
        exact ans_ret (by rw [stop (by rw [bad _ _ e1 e2]; rfl)])
      · simp -implicitDefEqProofs only [sims.1, fx.1, keeps.1, tick_on, calleeK, extractV, oneV, faddrK, nonnil, b_shr, b_shl, fieldK, Nat.reduceAdd, Nat.reduceMul, Nat.reduceSub, Nat.reduceEqDiff, Nat.reduceLT, Nat.reduceLeDiff, Nat.reduceBEq, Nat.reduceBNe, reduceIte, Int.reduceEq, Int.reduceLT, Int.reduceLE, Int.reduceNe, Int.reduceToNat, c1, c2, c3, shr_u64 _ _ c4, hj, cl_get, d1, nat0, e1, c5, c6, c7, e2]
        refine ⟨j + 1, by kernel_rfl, ⟨by omega, fun i hi => ?_⟩, by omega⟩
        rcases Nat.lt_or_ge i j with h3 | h3
        · exact h2 i h3
        · have : i = j := by omega
          subst this
          rw [bad _ _ e1 e2]; rfl
  · have e : j = 11 := by omega
    subst e
    have c1 : decide (((11 : Nat) : Int) < 11) = false := by decide
    simp -implicitDefEqProofs only [sims.1, fx.1, keeps.1, tick_on, calleeK, extractV, oneV, faddrK, nonnil, b_shr, b_shl, fieldK, Nat.reduceAdd, Nat.reduceMul, Nat.reduceSub, Nat.reduceEqDiff, Nat.reduceLT, Nat.reduceLeDiff, Nat.reduceBEq, Nat.reduceBNe, reduceIte, Int.reduceEq, Int.reduceLT, Int.reduceLE, Int.reduceNe, Int.reduceToNat, c1]
    refine ans_ret ?_
    have : chk a = true := by
      unfold chk
      rw [List.all_eq_true]
      intro i hi
      rw [h2 i (by simpa using hi)]; rfl
    rw [this]; rfl
theorem chk_int (c : Bool) : decide ((if c = true then (0 : Int) else 20) = 0) = c := by cases c <;> rfl
theorem xor_lt (a b : Nat) (ha : a < 18446744073709551616) (hb : b < 18446744073709551616) : a ^^^ b < 18446744073709551616 := Nat.xor_lt_two_pow (n := 64) ha hb
theorem and_lt (a b : Nat) (ha : a < 18446744073709551616) : a &&& b < 18446744073709551616 := Nat.lt_of_le_of_lt Nat.and_le_left ha

theorem all_of {n : Nat} {p : Nat → Bool} (h : ∀ i, i < n → p i = true) : (List.range n).all p = true := by
  rw [List.all_eq_true]; intro i hi; exact h i (by simpa using hi)
theorem all_not {n : Nat} {p : Nat → Bool} (i : Nat) (hi : i < n) (h : p i = false) : (List.range n).all p = false := by
  rw [List.all_eq_false]; exact ⟨i, by simpa using hi, by simp [h]⟩

theorem nfs1 (a : Nat → Nat) : nfs [mv a] = true := by simp [nfs, nf, mv, nfs_cl]
theorem bits_xor_u64_nat (a b : Nat) (ha : a < 18446744073709551616) (hb : b < 18446744073709551616) : bits .xor .u64 (a : Int) (b : Int) = ((a ^^^ b : Nat) : Int) := by
  have h1 : (BitVec.ofInt 64 (a : Int)).toNat = a := by simp; omega
  have h2 : (BitVec.ofInt 64 (b : Int)).toNat = b := by simp; omega
  have := xor_lt a b ha hb
  show IntKind.u64.wrap (((BitVec.ofInt 64 (a : Int) ^^^ BitVec.ofInt 64 (b : Int)).toNat : Nat) : Int) = _
  rw [IntKind.wrap_u64, BitVec.toNat_xor, h1, h2]
  omega
theorem bits_and_u64_nat (a b : Nat) (ha : a < 18446744073709551616) (hb : b < 18446744073709551616) : bits .and .u64 (a : Int) (b : Int) = ((a &&& b : Nat) : Int) := by
  have h1 : (BitVec.ofInt 64 (a : Int)).toNat = a := by simp; omega
  have h2 : (BitVec.ofInt 64 (b : Int)).toNat = b := by simp; omega
  have := and_lt a b ha
  show IntKind.u64.wrap (((BitVec.ofInt 64 (a : Int) &&& BitVec.ofInt 64 (b : Int)).toNat : Nat) : Int) = _
  rw [IntKind.wrap_u64, BitVec.toNat_and, h1, h2]
  omega
def hv (h : Nat → Nat) : V := .agg (cl .u64 11 fun i => (h i : Int))
def hitAt (m h : Nat → Nat) (j : Nat) : Bool := decide ((h j ^^^ m j) &&& m (11 + j) = 0)
def hits (m h : Nat → Nat) : Bool := chk m && (List.range 11).all (hitAt m h)
theorem nfs_mh (a h : Nat → Nat) : nfs [mv a, hv h] = true := by simp [nfs, nf, mv, hv, nfs_cl]

theorem sub_and (v m : Nat) (hv : v < 18446744073709551616) (hm : m < 18446744073709551616) : v &&& (18446744073709551615 - m) = 0 ↔ v &&& m = v := by
  have e : 18446744073709551615 - m = 2 ^ 64 - (m + 1) := by omega
  have key : ∀ i, (v &&& (18446744073709551615 - m)).testBit i = (v.testBit i && !m.testBit i) := by
    intro i
    rw [Nat.testBit_and, e, Nat.testBit_two_pow_sub_succ (by omega)]
    by_cases h : i < 64
    · simp [h]
    · have : v.testBit i = false := Nat.testBit_lt_two_pow (Nat.lt_of_lt_of_le hv (by
        have : (2 : Nat) ^ 64 ≤ 2 ^ i := Nat.pow_le_pow_right (by omega) (by omega)
        omega))
      simp [this]
  constructor
  · intro h
    apply Nat.eq_of_testBit_eq
    intro i
    have := key i
    rw [h] at this
    rw [Nat.testBit_and]
    simp at this
    cases hvi : v.testBit i <;> simp_all
  · intro h
    apply Nat.eq_of_testBit_eq
    intro i
    rw [key]
    have := congrArg (fun n => n.testBit i) h
    simp only [Nat.testBit_and] at this
    simp
    cases hvi : v.testBit i <;> simp_all

theorem chk_iff (a : Nat → Nat) (ha : U64 22 a) : chk a = true ↔ ∀ j, j < 11 → a (11 + j) / 2 ^ wid j = 0 ∧ a j &&& a (11 + j) = a j := by
  unfold chk
  rw [List.all_eq_true]
  constructor
  · intro h j hj
    have := h j (by simpa using hj)
    unfold badAt at this
    simp at this
    exact ⟨by simpa using this.1, (sub_and _ _ (ha j (by omega)) (ha (11 + j) (by omega))).1 this.2⟩
  · intro h j hj
    have hj' : j < 11 := by simpa using hj
    obtain ⟨h1, h2⟩ := h j hj'
    have h3 := (sub_and _ _ (ha j (by omega)) (ha (11 + j) (by omega))).2 h2
    unfold badAt
    rw [h1, h3]
    simp

theorem hit_two (x v m : Nat) (h : v &&& m = v) : decide (x &&& m = v) = decide ((x ^^^ v) &&& m = 0) := by
  rw [Bool.eq_iff_iff, decide_eq_true_iff, decide_eq_true_iff]
  have hb : ∀ i, (v.testBit i && m.testBit i) = v.testBit i := fun i => by
    have := congrArg (fun n => n.testBit i) h
    simpa only [Nat.testBit_and] using this
  constructor
  · intro h
    apply Nat.eq_of_testBit_eq
    intro i
    have := congrArg (fun n => n.testBit i) h
    have h2 := hb i
    simp only [Nat.testBit_and, Nat.testBit_xor, Nat.zero_testBit] at this ⊢
    revert this h2
    cases x.testBit i <;> cases v.testBit i <;> cases m.testBit i <;> simp
  · intro h
    apply Nat.eq_of_testBit_eq
    intro i
    have := congrArg (fun n => n.testBit i) h
    have h2 := hb i
    simp only [Nat.testBit_and, Nat.testBit_xor, Nat.zero_testBit] at this ⊢
    revert this h2
    cases x.testBit i <;> cases v.testBit i <;> cases m.testBit i <;> simp

theorem ans10 (m h : Nat → Nat) (hm : U64 22 m) (hh : U64 11 h) : Ans Try.prog 10 [mv m, hv h] (.bool (hits m h)) := by
  refine Snd_of_W fol rfl rfl (by kernel_rfl) (by kernel_rfl) ?_
  simp -implicitDefEqProofs only [sims.1, fx.1, keeps.1, tick_on, calleeK, extractV, oneV, faddrK, nonnil, b_shr, b_shl, fieldK, Nat.reduceAdd, Nat.reduceMul, Nat.reduceSub, Nat.reduceEqDiff, Nat.reduceLT, Nat.reduceLeDiff, Nat.reduceBEq, Nat.reduceBNe, reduceIte, Int.reduceEq, Int.reduceLT, Int.reduceLE, Int.reduceNe, Int.reduceToNat, mv, hv, partK_all]
  refine callD_ans (ans18 m hm) en18 (nfs1 _) rfl ?_
  cases ea : chk m
  · simp -implicitDefEqProofs only [sims.1, fx.1, keeps.1, tick_on, calleeK, extractV, oneV, faddrK, nonnil, b_shr, b_shl, fieldK, Nat.reduceAdd, Nat.reduceMul, Nat.reduceSub, Nat.reduceEqDiff, Nat.reduceLT, Nat.reduceLeDiff, Nat.reduceBEq, Nat.reduceBNe, reduceIte, Int.reduceEq, Int.reduceLT, Int.reduceLE, Int.reduceNe, Int.reduceToNat, ea, Bool.false_eq_true]
    exact ans_ret (by unfold hits; rw [ea]; rfl)
  simp -implicitDefEqProofs only [sims.1, fx.1, keeps.1, tick_on, calleeK, extractV, oneV, faddrK, nonnil, b_shr, b_shl, fieldK, Nat.reduceAdd, Nat.reduceMul, Nat.reduceSub, Nat.reduceEqDiff, Nat.reduceLT, Nat.reduceLeDiff, Nat.reduceBEq, Nat.reduceBNe, reduceIte, Int.reduceEq, Int.reduceLT, Int.reduceLE, Int.reduceNe, Int.reduceToNat, partK_cl, ea, Nat.reduceLeDiff]
  refine W_loop (fun j : Nat => (mkEnv [(11, .agg (cl .u64 11 fun i => (m (11 + i) : Int))), (3, .ptr 0 0), (2, .ptr 1 0), (12, .int .i64 (j : Int))], [.var 25 (cl .u64 11 fun i => (h i : Int)), .var 29 (cl .u64 22 fun i => (m i : Int))]))
    (fun j => j ≤ 11 ∧ ∀ i, i < j → hitAt m h i = true) (fun j => 12 - j) 0 (by kernel_rfl) ⟨by omega, by omega⟩ ?_
  rintro j ⟨h1, h2⟩
  rcases Nat.lt_or_ge j 11 with hj | hj
  · have c1 : decide ((j : Int) < 11) = true := by simp; omega
    have c6 : j < 22 := by omega
    have d1 : 11 + j < 22 := by omega
    have c7 := wrap_i64s j (by omega)
    have x1 := bits_xor_u64_nat (h j) (m j) (hh j hj) (hm j c6)
    have x2 := bits_and_u64_nat (h j ^^^ m j) (m (11 + j)) (xor_lt _ _ (hh j hj) (hm j c6)) (hm _ d1)
    simp -implicitDefEqProofs only [sims.1, fx.1, keeps.1, tick_on, calleeK, extractV, oneV, faddrK, nonnil, b_shr, b_shl, fieldK, Nat.reduceAdd, Nat.reduceMul, Nat.reduceSub, Nat.reduceEqDiff, Nat.reduceLT, Nat.reduceLeDiff, Nat.reduceBEq, Nat.reduceBNe, reduceIte, Int.reduceEq, Int.reduceLT, Int.reduceLE, Int.reduceNe, Int.reduceToNat, c1, hj, cl_get]
    refine w_quiet ?_
    simp -implicitDefEqProofs only [sims.1, fx.1, keeps.1, tick_on, calleeK, extractV, oneV, faddrK, nonnil, b_shr, b_shl, fieldK, Nat.reduceAdd, Nat.reduceMul, Nat.reduceSub, Nat.reduceEqDiff, Nat.reduceLT, Nat.reduceLeDiff, Nat.reduceBEq, Nat.reduceBNe, reduceIte, Int.reduceEq, Int.reduceLT, Int.reduceLE, Int.reduceNe, Int.reduceToNat, hj, cl_get, c6, d1, x1, x2, nat0]
    cases e1 : decide ((h j ^^^ m j) &&& m (11 + j) = 0)
    · simp -implicitDefEqProofs only [sims.1, fx.1, keeps.1, tick_on, calleeK, extractV, oneV, faddrK, nonnil, b_shr, b_shl, fieldK, Nat.reduceAdd, Nat.reduceMul, Nat.reduceSub, Nat.reduceEqDiff, Nat.reduceLT, Nat.reduceLeDiff, Nat.reduceBEq, Nat.reduceBNe, reduceIte, Int.reduceEq, Int.reduceLT, Int.reduceLE, Int.reduceNe, Int.reduceToNat, e1]
      exact ans_ret (by unfold hits; rw [ea, all_not j hj (by unfold hitAt; rw [e1])]; rfl)
    · simp -implicitDefEqProofs only [sims.1, fx.1, keeps.1, tick_on, calleeK, extractV, oneV, faddrK, nonnil, b_shr, b_shl, fieldK, Nat.reduceAdd, Nat.reduceMul, Nat.reduceSub, Nat.reduceEqDiff, Nat.reduceLT, Nat.reduceLeDiff, Nat.reduceBEq, Nat.reduceBNe, reduceIte, Int.reduceEq, Int.reduceLT, Int.reduceLE, Int.reduceNe, Int.reduceToNat, e1, c7]
      refine ⟨j + 1, by kernel_rfl, ⟨by omega, fun i hi => ?_⟩, by omega⟩
      rcases Nat.lt_or_ge i j with h4 | h4
      · exact h2 i h4
      · have : i = j := by omega
        subst this
        unfold hitAt; rw [e1]
  · have e : j = 11 := by omega
    subst e
    have c1 : decide (((11 : Nat) : Int) < 11) = false := by decide
    simp -implicitDefEqProofs only [sims.1, fx.1, keeps.1, tick_on, calleeK, extractV, oneV, faddrK, nonnil, b_shr, b_shl, fieldK, Nat.reduceAdd, Nat.reduceMul, Nat.reduceSub, Nat.reduceEqDiff, Nat.reduceLT, Nat.reduceLeDiff, Nat.reduceBEq, Nat.reduceBNe, reduceIte, Int.reduceEq, Int.reduceLT, Int.reduceLE, Int.reduceNe, Int.reduceToNat, c1]
    exact ans_ret (by unfold hits; rw [ea, all_of h2]; rfl)

theorem ans32 (m h : Nat → Nat) (hm : U64 22 m) (hh : U64 11 h) : Ans Try.prog 32 [mv m, hv h] (.bool (hits m h)) := by
  refine Snd_of_W fol rfl rfl (by kernel_rfl) (by kernel_rfl) ?_
  simp -implicitDefEqProofs only [sims.1, fx.1, keeps.1, tick_on, calleeK, extractV, oneV, faddrK, nonnil, b_shr, b_shl, fieldK, Nat.reduceAdd, Nat.reduceMul, Nat.reduceSub, Nat.reduceEqDiff, Nat.reduceLT, Nat.reduceLeDiff, Nat.reduceBEq, Nat.reduceBNe, reduceIte, Int.reduceEq, Int.reduceLT, Int.reduceLE, Int.reduceNe, Int.reduceToNat, mv, hv, partK_all]
  refine callD_ans (ans27 m hm) en27 (nfs1 _) rfl ?_
  cases ea : chk m
  · simp -implicitDefEqProofs only [sims.1, fx.1, keeps.1, tick_on, calleeK, extractV, oneV, faddrK, nonnil, b_shr, b_shl, fieldK, Nat.reduceAdd, Nat.reduceMul, Nat.reduceSub, Nat.reduceEqDiff, Nat.reduceLT, Nat.reduceLeDiff, Nat.reduceBEq, Nat.reduceBNe, reduceIte, Int.reduceEq, Int.reduceLT, Int.reduceLE, Int.reduceNe, Int.reduceToNat, ea, Bool.false_eq_true]
    exact ans_ret (by unfold hits; rw [ea]; rfl)
  have hc := (chk_iff m hm).1 ea
  simp -implicitDefEqProofs only [sims.1, fx.1, keeps.1, tick_on, calleeK, extractV, oneV, faddrK, nonnil, b_shr, b_shl, fieldK, Nat.reduceAdd, Nat.reduceMul, Nat.reduceSub, Nat.reduceEqDiff, Nat.reduceLT, Nat.reduceLeDiff, Nat.reduceBEq, Nat.reduceBNe, reduceIte, Int.reduceEq, Int.reduceLT, Int.reduceLE, Int.reduceNe, Int.reduceToNat, partK_cl, ea, Nat.reduceLeDiff]
  refine W_loop (fun j : Nat => (mkEnv [(3, .ptr 0 0), (2, .ptr 1 0), (5, .int .i64 (j : Int))], [.var 25 (cl .u64 11 fun i => (h i : Int)), .var 29 (cl .u64 22 fun i => (m i : Int))]))
    (fun j => j ≤ 11 ∧ ∀ i, i < j → hitAt m h i = true) (fun j => 12 - j) 0 (by kernel_rfl) ⟨by omega, by omega⟩ ?_
  rintro j ⟨h1, h2⟩
  rcases Nat.lt_or_ge j 11 with hj | hj
  · have c1 : decide ((j : Int) < 11) = true := by simp; omega
    have c6 : j < 22 := by omega
    have d1 : 11 + j < 22 := by omega
    have c7 := wrap_i64s j (by omega)
    have x1 := bits_and_u64_nat (h j) (m (11 + j)) (hh j hj) (hm _ d1)
    have x2 := hit_two (h j) _ _ (hc j hj).2
    simp -implicitDefEqProofs only [sims.1, fx.1, keeps.1, tick_on, calleeK, extractV, oneV, faddrK, nonnil, b_shr, b_shl, fieldK, Nat.reduceAdd, Nat.reduceMul, Nat.reduceSub, Nat.reduceEqDiff, Nat.reduceLT, Nat.reduceLeDiff, Nat.reduceBEq, Nat.reduceBNe, reduceIte, Int.reduceEq, Int.reduceLT, Int.reduceLE, Int.reduceNe, Int.reduceToNat, c1, hj, cl_get]
    refine w_quiet ?_
    simp -implicitDefEqProofs only [sims.1, fx.1, keeps.1, tick_on, calleeK, extractV, oneV, faddrK, nonnil, b_shr, b_shl, fieldK, Nat.reduceAdd, Nat.reduceMul, Nat.reduceSub, Nat.reduceEqDiff, Nat.reduceLT, Nat.reduceLeDiff, Nat.reduceBEq, Nat.reduceBNe, reduceIte, Int.reduceEq, Int.reduceLT, Int.reduceLE, Int.reduceNe, Int.reduceToNat, hj, cl_get, c6, d1, x1, eqNat, x2]
    cases e1 : decide ((h j ^^^ m j) &&& m (11 + j) = 0)
    · simp -implicitDefEqProofs only [sims.1, fx.1, keeps.1, tick_on, calleeK, extractV, oneV, faddrK, nonnil, b_shr, b_shl, fieldK, Nat.reduceAdd, Nat.reduceMul, Nat.reduceSub, Nat.reduceEqDiff, Nat.reduceLT, Nat.reduceLeDiff, Nat.reduceBEq, Nat.reduceBNe, reduceIte, Int.reduceEq, Int.reduceLT, Int.reduceLE, Int.reduceNe, Int.reduceToNat, e1]
      exact ans_ret (by unfold hits; rw [ea, all_not j hj (by unfold hitAt; rw [e1])]; rfl)
    · simp -implicitDefEqProofs only [sims.1, fx.1, keeps.1, tick_on, calleeK, extractV, oneV, faddrK, nonnil, b_shr, b_shl, fieldK, Nat.reduceAdd, Nat.reduceMul, Nat.reduceSub, Nat.reduceEqDiff, Nat.reduceLT, Nat.reduceLeDiff, Nat.reduceBEq, Nat.reduceBNe, reduceIte, Int.reduceEq, Int.reduceLT, Int.reduceLE, Int.reduceNe, Int.reduceToNat, e1, c7]
      refine ⟨j + 1, by kernel_rfl, ⟨by omega, fun i hi => ?_⟩, by omega⟩
      rcases Nat.lt_or_ge i j with h4 | h4
      · exact h2 i h4
      · have : i = j := by omega
        subst this
        unfold hitAt; rw [e1]
  · have e : j = 11 := by omega
    subst e
    have c1 : decide (((11 : Nat) : Int) < 11) = false := by decide
    simp -implicitDefEqProofs only [sims.1, fx.1, keeps.1, tick_on, calleeK, extractV, oneV, faddrK, nonnil, b_shr, b_shl, fieldK, Nat.reduceAdd, Nat.reduceMul, Nat.reduceSub, Nat.reduceEqDiff, Nat.reduceLT, Nat.reduceLeDiff, Nat.reduceBEq, Nat.reduceBNe, reduceIte, Int.reduceEq, Int.reduceLT, Int.reduceLE, Int.reduceNe, Int.reduceToNat, c1]
    exact ans_ret (by unfold hits; rw [ea, all_of h2]; rfl)
end Go.Proofs.Ytffhmbdpmpgddaa
