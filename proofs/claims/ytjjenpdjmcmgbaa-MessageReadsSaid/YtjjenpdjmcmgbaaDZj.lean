/- Checks of matches, as both packages tell them; whether a Type is among some. No condition. -/
import Derived.Test.YtjjenpdjmcmgbaaDZi
namespace Go.Proofs.Ytjjenpdjmcmgbaa
open Go Ab
set_option linter.unusedSimpArgs false
set_option linter.unusedVariables false
set_option maxRecDepth 20000
def mv (a : Nat → Nat) : V := .agg (mC a)
def badAt (a : Nat → Nat) (j : Nat) : Bool := !decide (a (11 + j) / 2 ^ wid j = 0) || !decide (a j &&& (18446744073709551615 - a (11 + j)) = 0)
def chk (a : Nat → Nat) : Bool := (List.range 11).all fun j => !badAt a j
theorem wid_le (j : Nat) : wid j ≤ 48 := by
  match j with
  | 0 | 1 | 2 | 3 | 4 | 5 | 6 | 7 | 8 | 9 | 10 => decide
  | n + 11 => exact Nat.zero_le 48
theorem bits_andNot_u64_nat (a b : Nat) (ha : a < 18446744073709551616) (hb : b < 18446744073709551616) :
    bits .andNot .u64 (a : Int) (b : Int) = ((a &&& (18446744073709551615 - b) : Nat) : Int) := by
  have e : a &&& (18446744073709551615 - b) < 18446744073709551616 := Nat.lt_of_le_of_lt Nat.and_le_left ha
  have h1 : (BitVec.ofInt 64 (a : Int)).toNat = a := by simp; omega
  have h2 : (BitVec.ofInt 64 (b : Int)).toNat = b := by simp; omega
  show IntKind.u64.wrap (((BitVec.ofInt 64 (a : Int) &&& ~~~BitVec.ofInt 64 (b : Int)).toNat : Nat) : Int) = _
  rw [IntKind.wrap_u64, BitVec.toNat_and, BitVec.toNat_not, h1, h2]
  have e3 : 2 ^ 64 - 1 - b = 18446744073709551615 - b := by omega
  rw [e3]
  omega
theorem shr_u64 {P : Program} {t : TypeId} {k : IntKind} (x s : Nat) (hs : s ≤ 64) : binV P .shr t (.int .u64 (x : Int)) (.int k (s : Int)) = some (.int .u64 ((x / 2 ^ s : Nat) : Int)) := by
  have e : min s 64 = s := by omega
  have e2 : ¬ (s : Int) < 0 := by omega
  simp only [binV, e2, if_false, Int.toNat_natCast, IntKind.bits, e]
  rw [Int.fdiv_eq_ediv_of_nonneg _ (by exact Int.pow_nonneg (by omega))]
  simp
theorem wrap_i8 (j : Nat) (h : j < 128) : IntKind.i8.wrap (j : Int) = (j : Int) := by
  simp [IntKind.wrap, IntKind.bits, IntKind.signed]; omega
theorem wrap_u64n (j : Nat) (h : j < 18446744073709551616) : IntKind.u64.wrap (j : Int) = (j : Int) := by rw [IntKind.wrap_u64]; omega
theorem wrap_i64s (j : Nat) (h : j < 9223372036854775807) : IntKind.i64.wrap ((j : Int) + 1) = ((j + 1 : Nat) : Int) := by
  simp [IntKind.wrap, IntKind.bits, IntKind.signed]; omega
theorem nat0 (n : Nat) : decide ((n : Int) = 0) = decide (n = 0) := by
  rw [Bool.eq_iff_iff]; simp
theorem ans65 (a : Nat → Nat) (ha : U64 22 a) : Ans Try.prog 65 [mv a] (.int .i64 (if chk a then 0 else 20)) := by
  refine Snd_of_W fol rfl rfl (by kernel_rfl) (by kernel_rfl) ?_
  simp -implicitDefEqProofs only [sims.1, fx.1, keeps.1, tick_on, faddrK, Nat.reduceAdd, Nat.reduceEqDiff, Nat.reduceLeDiff, mv, mC, partK_cl, Nat.reduceLeDiff]
  refine W_loop (fun j : Nat => (mkEnv [(6, .agg (cl .u64 11 fun i => (a (11 + i) : Int))), (1, .ptr 0 0), (7, .int .i64 (j : Int))], [.var 28 (cl .u64 22 fun i => (a i : Int))]))
    (fun j => j ≤ 11 ∧ ∀ i, i < j → badAt a i = false) (fun j => 12 - j) 0 (by kernel_rfl) ⟨by omega, by omega⟩ ?_
  rintro j ⟨h1, h2⟩
  rcases Nat.lt_or_ge j 11 with hj | hj
  · have c1 : decide ((j : Int) < 11) = true := by simp; omega
    have c2 := wrap_i8 j (by omega)
    simp -implicitDefEqProofs only [sims.1, fx.1, keeps.1, tick_on, calleeK, Nat.reduceEqDiff, c1, c2, hj, cl_get]
    refine callD_ans (ans75 j hj) en75 rfl rfl ?_
    have c3 := wrap_u64n (wid j) (by have := wid_le j; omega)
    have c4 : wid j ≤ 64 := by have := wid_le j; omega
    have c5 := bits_andNot_u64_nat (a j) (a (11 + j)) (ha j (by omega)) (ha (11 + j) (by omega))
    have c6 : j < 22 := by omega
    have c7 := wrap_i64s j (by omega)
    have bad : ∀ x y : Bool, decide (a (11 + j) / 2 ^ wid j = 0) = x → decide (a j &&& (18446744073709551615 - a (11 + j)) = 0) = y → badAt a j = (!x || !y) := by
      intro x y hx hy; unfold badAt; rw [hx, hy]
    have stop : badAt a j = true → (if chk a then 0 else 20 : Int) = 20 := by
      intro hb
      have : chk a = false := by
        unfold chk
        rw [List.all_eq_false]
        exact ⟨j, by simpa using hj, by simp [hb]⟩
      rw [this]; rfl
    cases e1 : decide (a (11 + j) / 2 ^ wid j = 0)
    · simp -implicitDefEqProofs only [sims.1, fx.1, keeps.1, tick_on, Nat.reduceEqDiff, c3, shr_u64 _ _ c4, nat0, e1]
      exact ans_ret (by rw [stop (by rw [bad _ _ e1 rfl]; rfl)])
    · cases e2 : decide (a j &&& (18446744073709551615 - a (11 + j)) = 0)
      · simp -implicitDefEqProofs only [sims.1, fx.1, keeps.1, tick_on, faddrK, Nat.reduceEqDiff, c3, shr_u64 _ _ c4, hj, cl_get, nat0, e1, c5, c6, e2]
        exact ans_ret (by rw [stop (by rw [bad _ _ e1 e2]; rfl)])
      · simp -implicitDefEqProofs only [sims.1, fx.1, keeps.1, tick_on, faddrK, Nat.reduceEqDiff, c3, shr_u64 _ _ c4, hj, cl_get, nat0, e1, c5, c6, c7, e2]
        refine ⟨j + 1, by kernel_rfl, ⟨by omega, fun i hi => ?_⟩, by omega⟩
        rcases Nat.lt_or_ge i j with h3 | h3
        · exact h2 i h3
        · have : i = j := by omega
          subst this
          rw [bad _ _ e1 e2]; rfl
  · have e : j = 11 := by omega
    subst e
    have c1 : decide (((11 : Nat) : Int) < 11) = false := by decide
    simp -implicitDefEqProofs only [sims.1, fx.1, keeps.1, tick_on, Nat.reduceEqDiff, c1]
    refine ans_ret ?_
    have : chk a = true := by
      unfold chk
      rw [List.all_eq_true]
      intro i hi
      rw [h2 i (by simpa using hi)]; rfl
    rw [this]; rfl
theorem ans68 (a : Nat → Nat) (ha : U64 22 a) : Ans Try.prog 68 [mv a] (.int .i64 (if chk a then 0 else 20)) := by
  refine Snd_of_W fol rfl rfl (by kernel_rfl) (by kernel_rfl) ?_
  simp -implicitDefEqProofs only [sims.1, keeps.1, tick_on, mv, mC]
  refine W_loop (fun j : Nat => (mkEnv [(1, .ptr 0 0), (3, .int .i64 (j : Int))], [.var 28 (cl .u64 22 fun i => (a i : Int))]))
    (fun j => j ≤ 11 ∧ ∀ i, i < j → badAt a i = false) (fun j => 12 - j) 0 (by kernel_rfl) ⟨by omega, by omega⟩ ?_
  rintro j ⟨h1, h2⟩
  rcases Nat.lt_or_ge j 11 with hj | hj
  · have c1 : decide ((j : Int) < 11) = true := by simp; omega
    have c2 := wrap_i8 j (by omega)
    have d1 : 11 + j < 22 := by omega
    simp -implicitDefEqProofs only [sims.1, keeps.1, tick_on, Nat.reduceEqDiff, c1]
    refine w_quiet ?_
    simp -implicitDefEqProofs only [sims.1, fx.1, keeps.1, tick_on, calleeK, faddrK, Nat.reduceEqDiff, c2, hj, cl_get, d1]
    refine callQ_ans (ans74 j hj) en74 rfl rfl ?_
    have c3 := wrap_u64n (wid j) (by have := wid_le j; omega)
    have c4 : wid j ≤ 64 := by have := wid_le j; omega
    have c5 := bits_andNot_u64_nat (a j) (a (11 + j)) (ha j (by omega)) (ha (11 + j) (by omega))
    have c6 : j < 22 := by omega
    have c7 := wrap_i64s j (by omega)
    have bad : ∀ x y : Bool, decide (a (11 + j) / 2 ^ wid j = 0) = x → decide (a j &&& (18446744073709551615 - a (11 + j)) = 0) = y → badAt a j = (!x || !y) := by
      intro x y hx hy; unfold badAt; rw [hx, hy]
    have stop : badAt a j = true → (if chk a then 0 else 20 : Int) = 20 := by
      intro hb
      have : chk a = false := by
        unfold chk
        rw [List.all_eq_false]
        exact ⟨j, by simpa using hj, by simp [hb]⟩
      rw [this]; rfl
    cases e1 : decide (a (11 + j) / 2 ^ wid j = 0)
    · simp -implicitDefEqProofs only [sims.1, fx.1, keeps.1, tick_on, Nat.reduceEqDiff, shr_u64 _ _ c4, nat0, e1]
      exact ans_ret (by rw [stop (by rw [bad _ _ e1 rfl]; rfl)])
    · cases e2 : decide (a j &&& (18446744073709551615 - a (11 + j)) = 0)
      · simp -implicitDefEqProofs only [sims.1, fx.1, keeps.1, tick_on, faddrK, Nat.reduceEqDiff, shr_u64 _ _ c4, hj, cl_get, d1, nat0, e1, c5, c6, e2]
        exact ans_ret (by rw [stop (by rw [bad _ _ e1 e2]; rfl)])
      · simp -implicitDefEqProofs only [sims.1, fx.1, keeps.1, tick_on, faddrK, Nat.reduceEqDiff, shr_u64 _ _ c4, hj, cl_get, d1, nat0, e1, c5, c6, c7, e2]
        refine ⟨j + 1, by kernel_rfl, ⟨by omega, fun i hi => ?_⟩, by omega⟩
        rcases Nat.lt_or_ge i j with h3 | h3
        · exact h2 i h3
        · have : i = j := by omega
          subst this
          rw [bad _ _ e1 e2]; rfl
  · have e : j = 11 := by omega
    subst e
    have c1 : decide (((11 : Nat) : Int) < 11) = false := by decide
    simp -implicitDefEqProofs only [sims.1, fx.1, keeps.1, tick_on, Nat.reduceEqDiff, c1]
    refine ans_ret ?_
    have : chk a = true := by
      unfold chk
      rw [List.all_eq_true]
      intro i hi
      rw [h2 i (by simpa using hi)]; rfl
    rw [this]; rfl
def i8C (x : Int) : List V := [.int .i8 x]
def i8V (l : List Int) : V := .isl 1 (l.map i8C)
theorem nfs_i8 : ∀ l : List Int, nfss (l.map i8C) = true
  | [] => rfl
  | a :: r => by simp [nfss, nfs, nf, i8C, nfs_i8 r]
def QI (l : List Int) (t : Int) (r : CR) : Prop := ∃ k : Int, r = .ret (.int .i64 k) [] ∧ (0 ≤ k ↔ t ∈ l)
theorem snd64 (l : List Int) (t : Int) (hl : l.length < 1000) : Snd Try.prog 64 [i8V l, .int .i8 t] [] (QI l t) := by
  refine Snd_of_W fol rfl rfl (by kernel_rfl) (by kernel_rfl) ?_
  unfold i8V
  simp -implicitDefEqProofs only [sims.1, fx.1, keeps.1, tick_on, Nat.reduceEqDiff, List.length_map]
  refine W_loop (fun j : Nat => (mkEnv [(7, .int .i64 (l.length : Int)), (1, .int .i8 t), (0, i8V l), (8, .int .i64 (j : Int))], [])) (fun j => j ≤ l.length ∧ t ∉ l.take j) (fun j => l.length + 1 - j) 0
    (canon_nil [.int .i64 (l.length : Int), .int .i8 t, i8V l, .int .i64 0] (by kernel_rfl) (nfs_cons rfl (nfs_cons rfl (nfs_cons (nfs_i8 l) rfl))) (by kernel_rfl)) ⟨by omega, by simp⟩ ?_
  rintro j ⟨h1, h2⟩
  rcases Nat.lt_or_ge j l.length with hj | hj
  · have c1 : decide (j < l.length) = true := by simpa using hj
    have w1 := add1N j (by omega)
    have ia : ∀ {kk : IntKind}, iaddrS 1 (i8V l) (.int kk (j : Int)) = some (.ip (i8C l[j])) := fun {kk} => iaddrS_isl (by simp [hj])
    have at0 : (i8C l[j])[0]? = some (.int .i8 l[j]) := rfl
    cases e : decide (t = l[j])
    · simp -implicitDefEqProofs only [sims.1, fx.1, keeps.1, tick_on, Nat.reduceEqDiff, ltNat, c1, ia, at0, e, w1]
      refine ⟨j + 1, canon_nil [.int .i64 (l.length : Int), .int .i8 t, i8V l, .int .i64 ((j + 1 : Nat) : Int)] (by kernel_rfl) (nfs_cons rfl (nfs_cons rfl (nfs_cons (nfs_i8 l) rfl))) (by kernel_rfl), ⟨by omega, ?_⟩, by omega⟩
      rw [List.take_add_one, List.getElem?_eq_getElem hj, List.mem_append, not_or]
      have : t ≠ l[j] := by simpa using e
      exact ⟨h2, by simpa using this⟩
    · simp -implicitDefEqProofs only [sims.1, fx.1, keeps.1, tick_on, Nat.reduceEqDiff, ltNat, c1, ia, at0, e]
      have : t = l[j] := by simpa using e
      exact ⟨(j : Int), rfl, by simp [this]⟩
  · obtain rfl : j = l.length := by omega
    have c1 : decide (l.length < l.length) = false := by simp
    simp -implicitDefEqProofs only [sims.1, fx.1, keeps.1, tick_on, Nat.reduceEqDiff, ltNat, c1]
    rw [List.take_length] at h2
    exact ⟨-1, rfl, by simp [h2]⟩
theorem ans37 (l : List Int) (t : Int) (hl : l.length < 1000) : Ans Try.prog 37 [i8V l, .int .i8 t] (.bool (decide (t ∈ l))) := by
  refine Snd_of_W fol rfl rfl (by kernel_rfl) (by kernel_rfl) ?_
  simp -implicitDefEqProofs only [sims.1, keeps.1, tick_on, calleeK, Nat.reduceEqDiff]
  refine callD_q (snd64 l t hl) en64 ?_ ?_
  · rintro v m1 ⟨k, h, hk⟩
    cases h
    simp -implicitDefEqProofs only [sims.1, fx.1, keeps.1, tick_on, Nat.reduceEqDiff]
    refine ans_ret ?_
    congr 1
    rw [Bool.eq_iff_iff]
    simp [hk]
  · rintro v m1 ⟨k, h, _⟩
    cases h
/-- The closure that asks whether a message's Type is among some. -/
theorem snd36 {m : Mem} {k : Nat} (l : List Int) (x : Ms) (hl : l.length < 1000) (hk : m[k]? = some (.var 54 [.ip (msC x)])) : Snd Try.prog 36 [i8V l, .ptr k 0] m fun r => r = .ret (.bool (decide (x.ty ∈ l))) m := by
  refine Snd_of_W fol rfl rfl (by kernel_rfl) (by kernel_rfl) ?_
  simp -implicitDefEqProofs only [sims.1, fx.1, keeps.1, tick_on, faddrK, nonnil, Nat.reduceEqDiff, hk]
  refine callD_ans (ans37 l x.ty hl) en37 (nfs_cons (nfs_i8 l) rfl) rfl ?_
  simp -implicitDefEqProofs only [sims.1, fx.1, keeps.1, tick_on, Nat.reduceEqDiff]
end Go.Proofs.Ytjjenpdjmcmgbaa
