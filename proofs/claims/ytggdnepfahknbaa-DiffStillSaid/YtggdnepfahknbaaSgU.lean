/- Merging in place; stable sorting: elements of kind U. No condition. -/
import Derived.Test.YtggdnepfahknbaaSdU
import Derived.Test.YtggdnepfahknbaaSg0
namespace Go.Proofs.Ytggdnepfahknbaa
open Go Ab
set_option linter.unusedSimpArgs false
set_option linter.unusedVariables false
set_option maxRecDepth 20000

theorem rs39 (env : Env) (m : Mem) : resV Try.prog Try.prog.funcs[39] env m = some (.tup []) := rfl
theorem rs36 (env : Env) (m : Mem) : resV Try.prog Try.prog.funcs[36] env m = some (.tup []) := rfl
theorem rs30 (env : Env) (m : Mem) : resV Try.prog Try.prog.funcs[30] env m = some (.tup []) := rfl

section
variable {α : Type} {enc : α → List V} {ev : α → V} {lt : α → α → Bool}

/-- What one call of the merge comes to. -/
def SymU (lt : α → α → Bool) (enc : α → List V) (m0 : Mem) (q n : Nat) (c : FuncId) (fi caps : List V) (f : Nat → α) (a m b : Nat) : Prop :=
  Snd Try.prog 39 [.sl 25 q 0 n, .int .i64 (a : Int), .int .i64 (m : Int), .int .i64 (b : Int), .fn c fi caps] (RW m0 q 36 25 ((seg f 0 n).map enc)) fun r => ∃ f', r = .ret (.tup []) (RW m0 q 36 25 ((seg f' 0 n).map enc)) ∧ Mgd lt f a m b f'

set_option maxHeartbeats 4000000 in
theorem sym1U (ho : Ord α lt) (hS : Elt true 25 enc ev) {m0 : Mem} {q : Nat} (hq : q < m0.length) (c : FuncId) (fi caps : List V) (n : Nat)
    (hc : Cmp Try.prog lt ev c fi caps fun g => RW m0 q 36 25 ((seg g 0 n).map enc)) (f : Nat → α) (a m b : Nat) (h1 : a + 1 = m) (h2 : m < b) (h3 : b ≤ n) (hn : n < big) (s2 : srf lt f m b) :
    SymU lt enc m0 q n c fi caps f a m b := by
  have hbig : big = 4611686018427387904 := rfl
  refine Snd_of_W fol rfl rfl (by kernel_rfl) (by kernel_rfl) ?_
  have w1 := subN m a (by omega) (by omega)
  have w2 : ((m - a : Nat) : Int) = 1 := by omega
  simp -implicitDefEqProofs only [sims.1, fx.1, keeps.1, tick_on, calleeK, extractV, oneV, faddrK, nonnil, b_shr, b_shl, fieldK, Nat.reduceAdd, Nat.reduceMul, Nat.reduceSub, Nat.reduceEqDiff, Nat.reduceLT, Nat.reduceLeDiff, Nat.reduceBEq, Nat.reduceBNe, reduceIte, Int.reduceEq, Int.reduceLT, Int.reduceLE, Int.reduceNe, Int.reduceToNat, w1, w2]
  refine W_loopM (fun x : Nat × Nat => [(11, .int .i64 (x.2 : Int)), (4, .fn c fi caps), (1, .int .i64 (a : Int)), (10, .int .i64 (x.1 : Int)), (0, .sl 25 q 0 n)])
    (fun x mm => m ≤ x.1 ∧ x.1 ≤ x.2 ∧ x.2 ≤ b ∧ (∀ h, m ≤ h → h < x.1 → lt (f h) (f a) = true) ∧ (∀ h, x.2 ≤ h → h < b → lt (f h) (f a) = false) ∧ mm = RW m0 q 36 25 ((seg f 0 n).map enc)) (fun x => x.2 - x.1) (m, b)
    (by kernel_rfl) ⟨by simp only; omega, by simp only; omega, by simp only; omega, fun h _ _ => by simp only at *; omega, fun h _ _ => by simp only at *; omega, rfl⟩ ?_
  rintro ⟨i, j⟩ mm ⟨k1, k2, k3, k4, k5, rfl⟩
  simp only at k1 k2 k3 k4 k5
  rcases Nat.lt_or_ge i j with h | h
  · have c1 : decide (i < j) = true := by simpa using h
    have w3 := addN i j (by omega)
    have w4 := halfN (i + j) (by omega)
    have hlo : i ≤ (i + j) / 2 := by omega
    have hhi : (i + j) / 2 < j := by omega
    obtain ⟨g, hg⟩ : ∃ g, g = (i + j) / 2 := ⟨_, rfl⟩
    rw [← hg] at w4 hlo hhi
    have i1 : ∀ {kk : IntKind}, iaddrS 25 (.sl 25 q 0 n) (.int kk (g : Int)) = some (.ep 25 q g 0) := row_ia (by omega)
    have i2 : ∀ {kk : IntKind}, iaddrS 25 (.sl 25 q 0 n) (.int kk (a : Int)) = some (.ep 25 q a 0) := row_ia (by omega)
    have l1 := row_ld hS hq (ty := 36) (f := f) (n := n) (i := g) (by omega)
    have l2 := row_ld hS hq (ty := 36) (f := f) (n := n) (i := a) (by omega)
    have w5 := add1N g (by omega)
    simp -implicitDefEqProofs only [sims.1, fx.1, keeps.1, tick_on, calleeK, extractV, oneV, faddrK, nonnil, b_shr, b_shl, fieldK, Nat.reduceAdd, Nat.reduceMul, Nat.reduceSub, Nat.reduceEqDiff, Nat.reduceLT, Nat.reduceLeDiff, Nat.reduceBEq, Nat.reduceBNe, reduceIte, Int.reduceEq, Int.reduceLT, Int.reduceLE, Int.reduceNe, Int.reduceToNat, ltNat, c1, w3, if_neg (show ¬ (1 : Int) < 0 by decide), w4]
    refine w_quiet ?_
    simp -implicitDefEqProofs only [sims.1, fx.1, keeps.1, tick_on, calleeK, extractV, oneV, faddrK, nonnil, b_shr, b_shl, fieldK, Nat.reduceAdd, Nat.reduceMul, Nat.reduceSub, Nat.reduceEqDiff, Nat.reduceLT, Nat.reduceLeDiff, Nat.reduceBEq, Nat.reduceBNe, reduceIte, Int.reduceEq, Int.reduceLT, Int.reduceLE, Int.reduceNe, Int.reduceToNat, i1, i2, l1, l2]
    refine hc _ _ _ _ fun z hz => ?_
    cases e : lt (f g) (f a)
    · rw [e] at hz
      simp -implicitDefEqProofs only [sims.1, fx.1, keeps.1, tick_on, calleeK, extractV, oneV, faddrK, nonnil, b_shr, b_shl, fieldK, Nat.reduceAdd, Nat.reduceMul, Nat.reduceSub, Nat.reduceEqDiff, Nat.reduceLT, Nat.reduceLeDiff, Nat.reduceBEq, Nat.reduceBNe, reduceIte, Int.reduceEq, Int.reduceLT, Int.reduceLE, Int.reduceNe, Int.reduceToNat, hz]
      have z : ∀ h, g ≤ h → h < b → lt (f h) (f a) = false := fun h g1 g2 => by
        rcases Nat.lt_or_ge h j with h' | h'
        · exact ho.ntr _ _ _ (s2 g h (by omega) g1 (by omega)) e
        · exact k5 h h' g2
      exact ⟨(i, g), by kernel_rfl, ⟨k1, hlo, by simp only; omega, k4, z, (by first | exact rfl | exact True.intro)⟩, by simp only; omega⟩
    · rw [e] at hz
      simp -implicitDefEqProofs only [sims.1, fx.1, keeps.1, tick_on, calleeK, extractV, oneV, faddrK, nonnil, b_shr, b_shl, fieldK, Nat.reduceAdd, Nat.reduceMul, Nat.reduceSub, Nat.reduceEqDiff, Nat.reduceLT, Nat.reduceLeDiff, Nat.reduceBEq, Nat.reduceBNe, reduceIte, Int.reduceEq, Int.reduceLT, Int.reduceLE, Int.reduceNe, Int.reduceToNat, hz, w5]
      have z : ∀ h, m ≤ h → h < g + 1 → lt (f h) (f a) = true := fun h g1 g2 => by
        rcases Nat.lt_or_ge h i with h' | h'
        · exact k4 h g1 h'
        · cases hq : lt (f h) (f a) with
          | true => rfl
          | false =>
            rw [ho.ntr _ _ _ (s2 h g (by omega) (by omega) (by omega)) hq] at e
            cases e
      exact ⟨(g + 1, j), by kernel_rfl, ⟨by simp only; omega, by simp only; omega, k3, z, k5, (by first | exact rfl | exact True.intro)⟩, by simp only; omega⟩
  · have c1 : decide (i < j) = false := by simpa using h
    obtain rfl : i = j := by omega
    have w3 := sub1N i (by omega) (by omega)
    simp -implicitDefEqProofs only [sims.1, fx.1, keeps.1, tick_on, calleeK, extractV, oneV, faddrK, nonnil, b_shr, b_shl, fieldK, Nat.reduceAdd, Nat.reduceMul, Nat.reduceSub, Nat.reduceEqDiff, Nat.reduceLT, Nat.reduceLeDiff, Nat.reduceBEq, Nat.reduceBNe, reduceIte, Int.reduceEq, Int.reduceLT, Int.reduceLE, Int.reduceNe, Int.reduceToNat, ltNat, c1]
    refine W_loopM (fun k : Nat => [(10, .int .i64 (i : Int)), (0, .sl 25 q 0 n), (13, .int .i64 (k : Int))])
      (fun k mm => a ≤ k ∧ k + 1 ≤ i ∧ mm = RW m0 q 36 25 ((seg (rot f a (a + 1) (k + 1)) 0 n).map enc)) (fun k => i - k) a
      (by kernel_rfl) ⟨by omega, by omega, by rw [show rot f a (a + 1) (a + 1) = f from rot_r]⟩ ?_
    rintro k mm ⟨j1, j2, rfl⟩
    rcases Nat.lt_or_ge k (i - 1) with h' | h'
    · have c2 : decide (k < i - 1) = true := by simpa using h'
      have w4 := add1N k (by omega)
      have i1 : ∀ {kk : IntKind}, iaddrS 25 (.sl 25 q 0 n) (.int kk (k : Int)) = some (.ep 25 q k 0) := row_ia (by omega)
      have i2 : ∀ {kk : IntKind}, iaddrS 25 (.sl 25 q 0 n) (.int kk ((k + 1 : Nat) : Int)) = some (.ep 25 q (k + 1) 0) := row_ia (by omega)
      have l1 := row_ld hS hq (ty := 36) (f := rot f a (a + 1) (k + 1)) (n := n) (i := k) (by omega)
      have l2 := row_ld hS hq (ty := 36) (f := rot f a (a + 1) (k + 1)) (n := n) (i := k + 1) (by omega)
      have s1 := row_st hS hq (ty := 36) (f := rot f a (a + 1) (k + 1)) (n := n) (i := k) (x := rot f a (a + 1) (k + 1) (k + 1)) (by omega)
      have s2 := row_st hS hq (ty := 36) (f := up (rot f a (a + 1) (k + 1)) k (rot f a (a + 1) (k + 1) (k + 1))) (n := n) (i := k + 1) (x := rot f a (a + 1) (k + 1) k) (by omega)
      simp -implicitDefEqProofs only [sims.1, fx.1, keeps.1, tick_on, calleeK, extractV, oneV, faddrK, nonnil, b_shr, b_shl, fieldK, Nat.reduceAdd, Nat.reduceMul, Nat.reduceSub, Nat.reduceEqDiff, Nat.reduceLT, Nat.reduceLeDiff, Nat.reduceBEq, Nat.reduceBNe, reduceIte, Int.reduceEq, Int.reduceLT, Int.reduceLE, Int.reduceNe, Int.reduceToNat, w3, ltNat, c2]
      refine w_noisy ?_
      simp -implicitDefEqProofs only [sims.1, fx.1, keeps.1, tick_on, calleeK, extractV, oneV, faddrK, nonnil, b_shr, b_shl, fieldK, Nat.reduceAdd, Nat.reduceMul, Nat.reduceSub, Nat.reduceEqDiff, Nat.reduceLT, Nat.reduceLeDiff, Nat.reduceBEq, Nat.reduceBNe, reduceIte, Int.reduceEq, Int.reduceLT, Int.reduceLE, Int.reduceNe, Int.reduceToNat, w4, i1, i2, l1, l2, s1, s2]
      iterate 2
        (refine orderP_of (accB_lt (rd_ep hq) (by kernel_rfl)) ?_
         simp -implicitDefEqProofs only [sims.1, fx.1, keeps.1, tick_on, calleeK, extractV, oneV, faddrK, nonnil, b_shr, b_shl, fieldK, Nat.reduceAdd, Nat.reduceMul, Nat.reduceSub, Nat.reduceEqDiff, Nat.reduceLT, Nat.reduceLeDiff, Nat.reduceBEq, Nat.reduceBNe, reduceIte, Int.reduceEq, Int.reduceLT, Int.reduceLE, Int.reduceNe, Int.reduceToNat, w4, i1, i2, l1, l2, s1, s2])
      iterate 2
        (refine orderP_of (accB_lt (wr_ep hq) (by kernel_rfl)) ?_
         simp -implicitDefEqProofs only [sims.1, fx.1, keeps.1, tick_on, calleeK, extractV, oneV, faddrK, nonnil, b_shr, b_shl, fieldK, Nat.reduceAdd, Nat.reduceMul, Nat.reduceSub, Nat.reduceEqDiff, Nat.reduceLT, Nat.reduceLeDiff, Nat.reduceBEq, Nat.reduceBNe, reduceIte, Int.reduceEq, Int.reduceLT, Int.reduceLE, Int.reduceNe, Int.reduceToNat, w4, i1, i2, l1, l2, s1, s2])
      have hd := rot_up (f := f) (a := a) (k := k) j1
      simp -implicitDefEqProofs only [sims.1, fx.1, keeps.1, tick_on, calleeK, extractV, oneV, faddrK, nonnil, b_shr, b_shl, fieldK, Nat.reduceAdd, Nat.reduceMul, Nat.reduceSub, Nat.reduceEqDiff, Nat.reduceLT, Nat.reduceLeDiff, Nat.reduceBEq, Nat.reduceBNe, reduceIte, Int.reduceEq, Int.reduceLT, Int.reduceLE, Int.reduceNe, Int.reduceToNat, w4, hd]
      exact ⟨k + 1, by kernel_rfl, ⟨by omega, by omega, rfl⟩, by omega⟩
    · have c2 : decide (k < i - 1) = false := by simpa using h'
      obtain rfl : i = k + 1 := by omega
      simp -implicitDefEqProofs only [sims.1, fx.1, keeps.1, tick_on, calleeK, extractV, oneV, faddrK, nonnil, b_shr, b_shl, fieldK, Nat.reduceAdd, Nat.reduceMul, Nat.reduceSub, Nat.reduceEqDiff, Nat.reduceLT, Nat.reduceLeDiff, Nat.reduceBEq, Nat.reduceBNe, reduceIte, Int.reduceEq, Int.reduceLT, Int.reduceLE, Int.reduceNe, Int.reduceToNat, w3, ltNat, c2, rs39]
      subst h1
      exact ⟨_, rfl, mgd_in k1 k3 k4 k5⟩

set_option maxHeartbeats 4000000 in
theorem sym2U (ho : Ord α lt) (hS : Elt true 25 enc ev) {m0 : Mem} {q : Nat} (hq : q < m0.length) (c : FuncId) (fi caps : List V) (n : Nat)
    (hc : Cmp Try.prog lt ev c fi caps fun g => RW m0 q 36 25 ((seg g 0 n).map enc)) (f : Nat → α) (a m b : Nat) (h1 : a + 1 < m) (h2 : m + 1 = b) (h3 : b ≤ n) (hn : n < big) (s1 : srf lt f a m) :
    SymU lt enc m0 q n c fi caps f a m b := by
  have hbig : big = 4611686018427387904 := rfl
  refine Snd_of_W fol rfl rfl (by kernel_rfl) (by kernel_rfl) ?_
  have w1 := subN m a (by omega) (by omega)
  have w2 : decide (((m - a : Nat) : Int) = 1) = false := by simp; omega
  have w2' := subN b m (by omega) (by omega)
  have w2'' : ((b - m : Nat) : Int) = 1 := by omega
  simp -implicitDefEqProofs only [sims.1, fx.1, keeps.1, tick_on, calleeK, extractV, oneV, faddrK, nonnil, b_shr, b_shl, fieldK, Nat.reduceAdd, Nat.reduceMul, Nat.reduceSub, Nat.reduceEqDiff, Nat.reduceLT, Nat.reduceLeDiff, Nat.reduceBEq, Nat.reduceBNe, reduceIte, Int.reduceEq, Int.reduceLT, Int.reduceLE, Int.reduceNe, Int.reduceToNat, w1, w2, w2', w2'']
  refine W_loopM (fun x : Nat × Nat => [(15, .int .i64 (x.2 : Int)), (4, .fn c fi caps), (2, .int .i64 (m : Int)), (14, .int .i64 (x.1 : Int)), (0, .sl 25 q 0 n)])
    (fun x mm => a ≤ x.1 ∧ x.1 ≤ x.2 ∧ x.2 ≤ m ∧ (∀ h, a ≤ h → h < x.1 → lt (f m) (f h) = false) ∧ (∀ h, x.2 ≤ h → h < m → lt (f m) (f h) = true) ∧ mm = RW m0 q 36 25 ((seg f 0 n).map enc)) (fun x => x.2 - x.1) (a, m)
    (by kernel_rfl) ⟨by simp only; omega, by simp only; omega, by simp only; omega, fun h _ _ => by simp only at *; omega, fun h _ _ => by simp only at *; omega, rfl⟩ ?_
  rintro ⟨i, j⟩ mm ⟨k1, k2, k3, k4, k5, rfl⟩
  simp only at k1 k2 k3 k4 k5
  rcases Nat.lt_or_ge i j with h | h
  · have c1 : decide (i < j) = true := by simpa using h
    have w3 := addN i j (by omega)
    have w4 := halfN (i + j) (by omega)
    have hlo : i ≤ (i + j) / 2 := by omega
    have hhi : (i + j) / 2 < j := by omega
    obtain ⟨g, hg⟩ : ∃ g, g = (i + j) / 2 := ⟨_, rfl⟩
    rw [← hg] at w4 hlo hhi
    have i1 : ∀ {kk : IntKind}, iaddrS 25 (.sl 25 q 0 n) (.int kk (g : Int)) = some (.ep 25 q g 0) := row_ia (by omega)
    have i2 : ∀ {kk : IntKind}, iaddrS 25 (.sl 25 q 0 n) (.int kk (m : Int)) = some (.ep 25 q m 0) := row_ia (by omega)
    have l1 := row_ld hS hq (ty := 36) (f := f) (n := n) (i := g) (by omega)
    have l2 := row_ld hS hq (ty := 36) (f := f) (n := n) (i := m) (by omega)
    have w5 := add1N g (by omega)
    simp -implicitDefEqProofs only [sims.1, fx.1, keeps.1, tick_on, calleeK, extractV, oneV, faddrK, nonnil, b_shr, b_shl, fieldK, Nat.reduceAdd, Nat.reduceMul, Nat.reduceSub, Nat.reduceEqDiff, Nat.reduceLT, Nat.reduceLeDiff, Nat.reduceBEq, Nat.reduceBNe, reduceIte, Int.reduceEq, Int.reduceLT, Int.reduceLE, Int.reduceNe, Int.reduceToNat, ltNat, c1, w3, if_neg (show ¬ (1 : Int) < 0 by decide), w4]
    refine w_quiet ?_
    simp -implicitDefEqProofs only [sims.1, fx.1, keeps.1, tick_on, calleeK, extractV, oneV, faddrK, nonnil, b_shr, b_shl, fieldK, Nat.reduceAdd, Nat.reduceMul, Nat.reduceSub, Nat.reduceEqDiff, Nat.reduceLT, Nat.reduceLeDiff, Nat.reduceBEq, Nat.reduceBNe, reduceIte, Int.reduceEq, Int.reduceLT, Int.reduceLE, Int.reduceNe, Int.reduceToNat, i1, i2, l1, l2]
    refine hc _ _ _ _ fun z hz => ?_
    cases e : lt (f m) (f g)
    · rw [e] at hz
      simp -implicitDefEqProofs only [sims.1, fx.1, keeps.1, tick_on, calleeK, extractV, oneV, faddrK, nonnil, b_shr, b_shl, fieldK, Nat.reduceAdd, Nat.reduceMul, Nat.reduceSub, Nat.reduceEqDiff, Nat.reduceLT, Nat.reduceLeDiff, Nat.reduceBEq, Nat.reduceBNe, reduceIte, Int.reduceEq, Int.reduceLT, Int.reduceLE, Int.reduceNe, Int.reduceToNat, hz, w5]
      have z : ∀ h, a ≤ h → h < g + 1 → lt (f m) (f h) = false := fun h g1 g2 => by
        rcases Nat.lt_or_ge h i with h' | h'
        · exact k4 h g1 h'
        · exact ho.ntr _ _ _ e (s1 h g (by omega) (by omega) (by omega))
      exact ⟨(g + 1, j), by kernel_rfl, ⟨by simp only; omega, by simp only; omega, k3, z, k5, (by first | exact rfl | exact True.intro)⟩, by simp only; omega⟩
    · rw [e] at hz
      simp -implicitDefEqProofs only [sims.1, fx.1, keeps.1, tick_on, calleeK, extractV, oneV, faddrK, nonnil, b_shr, b_shl, fieldK, Nat.reduceAdd, Nat.reduceMul, Nat.reduceSub, Nat.reduceEqDiff, Nat.reduceLT, Nat.reduceLeDiff, Nat.reduceBEq, Nat.reduceBNe, reduceIte, Int.reduceEq, Int.reduceLT, Int.reduceLE, Int.reduceNe, Int.reduceToNat, hz]
      have z : ∀ h, g ≤ h → h < m → lt (f m) (f h) = true := fun h g1 g2 => by
        rcases Nat.lt_or_ge h j with h' | h'
        · cases hq : lt (f m) (f h) with
          | true => rfl
          | false =>
            rw [ho.ntr _ _ _ hq (s1 g h (by omega) g1 (by omega))] at e
            cases e
        · exact k5 h h' g2
      exact ⟨(i, g), by kernel_rfl, ⟨k1, hlo, by simp only; omega, k4, z, (by first | exact rfl | exact True.intro)⟩, by simp only; omega⟩
  · have c1 : decide (i < j) = false := by simpa using h
    obtain rfl : i = j := by omega
    simp -implicitDefEqProofs only [sims.1, fx.1, keeps.1, tick_on, calleeK, extractV, oneV, faddrK, nonnil, b_shr, b_shl, fieldK, Nat.reduceAdd, Nat.reduceMul, Nat.reduceSub, Nat.reduceEqDiff, Nat.reduceLT, Nat.reduceLeDiff, Nat.reduceBEq, Nat.reduceBNe, reduceIte, Int.reduceEq, Int.reduceLT, Int.reduceLE, Int.reduceNe, Int.reduceToNat, ltNat, c1]
    refine W_loopM (fun k : Nat => [(14, .int .i64 (i : Int)), (0, .sl 25 q 0 n), (17, .int .i64 (k : Int))])
      (fun k mm => i ≤ k ∧ k ≤ m ∧ mm = RW m0 q 36 25 ((seg (rot f k m (m + 1)) 0 n).map enc)) (fun k => k) m
      (by kernel_rfl) ⟨by omega, by omega, by rw [show rot f m m (m + 1) = f from rot_l]⟩ ?_
    rintro k mm ⟨j1, j2, rfl⟩
    rcases Nat.lt_or_ge i k with h' | h'
    · have c2 : decide (i < k) = true := by simpa using h'
      have w4 := sub1N k (by omega) (by omega)
      have i1 : ∀ {kk : IntKind}, iaddrS 25 (.sl 25 q 0 n) (.int kk (k : Int)) = some (.ep 25 q k 0) := row_ia (by omega)
      have i2 : ∀ {kk : IntKind}, iaddrS 25 (.sl 25 q 0 n) (.int kk ((k - 1 : Nat) : Int)) = some (.ep 25 q (k - 1) 0) := row_ia (by omega)
      have l1 := row_ld hS hq (ty := 36) (f := rot f k m (m + 1)) (n := n) (i := k) (by omega)
      have l2 := row_ld hS hq (ty := 36) (f := rot f k m (m + 1)) (n := n) (i := k - 1) (by omega)
      have s1 := row_st hS hq (ty := 36) (f := rot f k m (m + 1)) (n := n) (i := k) (x := rot f k m (m + 1) (k - 1)) (by omega)
      have s2 := row_st hS hq (ty := 36) (f := up (rot f k m (m + 1)) k (rot f k m (m + 1) (k - 1))) (n := n) (i := k - 1) (x := rot f k m (m + 1) k) (by omega)
      simp -implicitDefEqProofs only [sims.1, fx.1, keeps.1, tick_on, calleeK, extractV, oneV, faddrK, nonnil, b_shr, b_shl, fieldK, Nat.reduceAdd, Nat.reduceMul, Nat.reduceSub, Nat.reduceEqDiff, Nat.reduceLT, Nat.reduceLeDiff, Nat.reduceBEq, Nat.reduceBNe, reduceIte, Int.reduceEq, Int.reduceLT, Int.reduceLE, Int.reduceNe, Int.reduceToNat, ltNat, c2]
      refine w_noisy ?_
      simp -implicitDefEqProofs only [sims.1, fx.1, keeps.1, tick_on, calleeK, extractV, oneV, faddrK, nonnil, b_shr, b_shl, fieldK, Nat.reduceAdd, Nat.reduceMul, Nat.reduceSub, Nat.reduceEqDiff, Nat.reduceLT, Nat.reduceLeDiff, Nat.reduceBEq, Nat.reduceBNe, reduceIte, Int.reduceEq, Int.reduceLT, Int.reduceLE, Int.reduceNe, Int.reduceToNat, w4, i1, i2, l1, l2, s1, s2]
      iterate 2
        (refine orderP_of (accB_lt (rd_ep hq) (by kernel_rfl)) ?_
         simp -implicitDefEqProofs only [sims.1, fx.1, keeps.1, tick_on, calleeK, extractV, oneV, faddrK, nonnil, b_shr, b_shl, fieldK, Nat.reduceAdd, Nat.reduceMul, Nat.reduceSub, Nat.reduceEqDiff, Nat.reduceLT, Nat.reduceLeDiff, Nat.reduceBEq, Nat.reduceBNe, reduceIte, Int.reduceEq, Int.reduceLT, Int.reduceLE, Int.reduceNe, Int.reduceToNat, w4, i1, i2, l1, l2, s1, s2])
      iterate 2
        (refine orderP_of (accB_lt (wr_ep hq) (by kernel_rfl)) ?_
         simp -implicitDefEqProofs only [sims.1, fx.1, keeps.1, tick_on, calleeK, extractV, oneV, faddrK, nonnil, b_shr, b_shl, fieldK, Nat.reduceAdd, Nat.reduceMul, Nat.reduceSub, Nat.reduceEqDiff, Nat.reduceLT, Nat.reduceLeDiff, Nat.reduceBEq, Nat.reduceBNe, reduceIte, Int.reduceEq, Int.reduceLT, Int.reduceLE, Int.reduceNe, Int.reduceToNat, w4, i1, i2, l1, l2, s1, s2])
      have hd := rot_down (f := f) (j := k - 1) (i := m) (by omega)
      rw [show k - 1 + 1 = k by omega] at hd
      simp -implicitDefEqProofs only [sims.1, fx.1, keeps.1, tick_on, calleeK, extractV, oneV, faddrK, nonnil, b_shr, b_shl, fieldK, Nat.reduceAdd, Nat.reduceMul, Nat.reduceSub, Nat.reduceEqDiff, Nat.reduceLT, Nat.reduceLeDiff, Nat.reduceBEq, Nat.reduceBNe, reduceIte, Int.reduceEq, Int.reduceLT, Int.reduceLE, Int.reduceNe, Int.reduceToNat, w4, hd]
      exact ⟨k - 1, by kernel_rfl, ⟨by omega, by omega, rfl⟩, by omega⟩
    · have c2 : decide (i < k) = false := by simpa using h'
      obtain rfl : i = k := by omega
      simp -implicitDefEqProofs only [sims.1, fx.1, keeps.1, tick_on, calleeK, extractV, oneV, faddrK, nonnil, b_shr, b_shl, fieldK, Nat.reduceAdd, Nat.reduceMul, Nat.reduceSub, Nat.reduceEqDiff, Nat.reduceLT, Nat.reduceLeDiff, Nat.reduceBEq, Nat.reduceBNe, reduceIte, Int.reduceEq, Int.reduceLT, Int.reduceLE, Int.reduceNe, Int.reduceToNat, ltNat, c2, rs39]
      subst h2
      exact ⟨_, rfl, mgd_back k1 k3 k4 k5⟩

set_option maxHeartbeats 8000000 in
theorem sym3U (ho : Ord α lt) (hS : Elt true 25 enc ev) {m0 : Mem} {q : Nat} (hq : q < m0.length) (c : FuncId) (fi caps : List V) (n : Nat)
    (hc : Cmp Try.prog lt ev c fi caps fun g => RW m0 q 36 25 ((seg g 0 n).map enc)) (f : Nat → α) (a m b : Nat) (h1 : a + 1 < m) (h2 : m + 1 < b) (h3 : b ≤ n) (hn : n < big) (s1 : srf lt f a m) (s2 : srf lt f m b)
    (ih : ∀ (f : Nat → α) (a' m' b' : Nat), b' - a' < b - a → a' < m' → m' < b' → b' ≤ n → srf lt f a' m' → srf lt f m' b' → SymU lt enc m0 q n c fi caps f a' m' b') :
    SymU lt enc m0 q n c fi caps f a m b := by
  have hbig : big = 4611686018427387904 := rfl
  refine Snd_of_W fol rfl rfl (by kernel_rfl) (by kernel_rfl) ?_
  have w1 := subN m a (by omega) (by omega)
  have w2 : decide (((m - a : Nat) : Int) = 1) = false := by simp; omega
  have w2' := subN b m (by omega) (by omega)
  have w2'' : decide (((b - m : Nat) : Int) = 1) = false := by simp; omega
  have w3 := addN a b (by omega)
  have w4 := halfN (a + b) (by omega)
  obtain ⟨mid, hmid⟩ : ∃ g, g = (a + b) / 2 := ⟨_, rfl⟩
  rw [← hmid] at w4
  have w5 := addN mid m (by omega)
  have w6 := sub1N (mid + m) (by omega) (by omega)
  have hlh : ∃ lo hi, ((mid < m ∧ lo = mid + m - b ∧ hi = mid) ∨ (m ≤ mid ∧ lo = a ∧ hi = m)) := by
    rcases Nat.lt_or_ge mid m with h | h
    · exact ⟨_, _, .inl ⟨h, rfl, rfl⟩⟩
    · exact ⟨_, _, .inr ⟨h, rfl, rfl⟩⟩
  obtain ⟨lo, hi, hlh⟩ := hlh
  have hlo1 : a ≤ lo := by omega
  have hlo2 : lo ≤ hi := by omega
  have hhi : hi ≤ m := by omega
  have hhi2 : hi ≤ mid := by omega
  have hp1 : ∀ c, c < hi → m ≤ mid + m - 1 - c := fun c hc => by omega
  have hp2 : ∀ c, lo ≤ c → mid + m - 1 - c < b := fun c hc => by omega
  have rest : ∀ s, lo ≤ s → s ≤ hi → (∀ c, lo ≤ c → c < s → lt (f (mid + m - 1 - c)) (f c) = false) → (∀ c, s ≤ c → c < hi → lt (f (mid + m - 1 - c)) (f c) = true) → Cut lt f a m b mid s (mid + m - s) :=
    fun s g1 g2 g3 g4 => cut_of ho (by omega) (by omega) hmid hlh s1 s2 g1 g2 g3 g4
  have step : ∀ (i j : Nat), lo ≤ i → i ≤ j → j ≤ hi → i < j → ∀ g, i ≤ g → g < j →
      (lt (f (mid + m - 1 - g)) (f g) = false → (∀ c, lo ≤ c → c < i → lt (f (mid + m - 1 - c)) (f c) = false) → ∀ c, lo ≤ c → c < g + 1 → lt (f (mid + m - 1 - c)) (f c) = false) ∧
      (lt (f (mid + m - 1 - g)) (f g) = true → (∀ c, j ≤ c → c < hi → lt (f (mid + m - 1 - c)) (f c) = true) → ∀ c, g ≤ c → c < hi → lt (f (mid + m - 1 - c)) (f c) = true) := by
    intro i j g1 g2 g3 g4 g g5 g6
    refine ⟨fun e k4 c g7 g8 => ?_, fun e k5 c g7 g8 => ?_⟩
    · rcases Nat.lt_or_ge c i with h' | h'
      · exact k4 c g7 h'
      · exact mono_f ho s1 s2 (by omega) (show c ≤ g by omega) (by omega) (hp1 g (by omega)) (hp2 c g7) e
    · rcases Nat.lt_or_ge c j with h' | h'
      · exact mono_t ho s1 s2 (by omega) g7 (by omega) (hp1 c (by omega)) (hp2 g (by omega)) e
      · exact k5 c h' g8
  apply or_same hlh
  case hp =>
    intro hh
    obtain ⟨hmm, e1, e2⟩ := hh
    have c0 : decide (mid < m) = true := by simpa using hmm
    have w7 := subN (mid + m) b (by omega) (by omega)
    rw [← e1] at w7
    have w8 : (mid : Int) = (hi : Int) := by rw [e2]
    intro key
    simp -implicitDefEqProofs only [sims.1, fx.1, keeps.1, tick_on, calleeK, extractV, oneV, faddrK, nonnil, b_shr, b_shl, fieldK, Nat.reduceAdd, Nat.reduceMul, Nat.reduceSub, Nat.reduceEqDiff, Nat.reduceLT, Nat.reduceLeDiff, Nat.reduceBEq, Nat.reduceBNe, reduceIte, Int.reduceEq, Int.reduceLT, Int.reduceLE, Int.reduceNe, Int.reduceToNat, w1, w2, w2', w2'', w3, if_neg (show ¬ (1 : Int) < 0 by decide), w4, w5, ltNat, c0, w6, w7]
    refine W_loopM (fun x : Nat × Nat => [(21, .int .i64 (x.2 : Int)), (22, .int .i64 ((mid + m - 1 : Nat) : Int)), (19, .int .i64 ((mid + m : Nat) : Int)), (2, .int .i64 (m : Int)), (1, .int .i64 (a : Int)), (20, .int .i64 (x.1 : Int)), (0, .sl 25 q 0 n), (18, .int .i64 (mid : Int)), (3, .int .i64 (b : Int)), (4, .fn c fi caps)])
      (fun x mm => lo ≤ x.1 ∧ x.1 ≤ x.2 ∧ x.2 ≤ hi ∧ (∀ c, lo ≤ c → c < x.1 → lt (f (mid + m - 1 - c)) (f c) = false) ∧ (∀ c, x.2 ≤ c → c < hi → lt (f (mid + m - 1 - c)) (f c) = true) ∧ mm = RW m0 q 36 25 ((seg f 0 n).map enc)) (fun x => x.2 - x.1) (lo, hi)
      ?_ ?_ key
    · subst e2; kernel_rfl
    · clear key
      exact ⟨by simp only; omega, hlo2, by simp only; omega, fun h _ _ => by simp only at *; omega, fun h _ _ => by simp only at *; omega, rfl⟩
  case hq =>
    intro hh
    obtain ⟨hmm, e1, e2⟩ := hh
    have c0 : decide (mid < m) = false := by simpa using hmm
    intro key
    simp -implicitDefEqProofs only [sims.1, fx.1, keeps.1, tick_on, calleeK, extractV, oneV, faddrK, nonnil, b_shr, b_shl, fieldK, Nat.reduceAdd, Nat.reduceMul, Nat.reduceSub, Nat.reduceEqDiff, Nat.reduceLT, Nat.reduceLeDiff, Nat.reduceBEq, Nat.reduceBNe, reduceIte, Int.reduceEq, Int.reduceLT, Int.reduceLE, Int.reduceNe, Int.reduceToNat, w1, w2, w2', w2'', w3, if_neg (show ¬ (1 : Int) < 0 by decide), w4, w5, ltNat, c0, w6]
    refine W_loopM (fun x : Nat × Nat => [(21, .int .i64 (x.2 : Int)), (22, .int .i64 ((mid + m - 1 : Nat) : Int)), (19, .int .i64 ((mid + m : Nat) : Int)), (2, .int .i64 (m : Int)), (1, .int .i64 (a : Int)), (20, .int .i64 (x.1 : Int)), (0, .sl 25 q 0 n), (18, .int .i64 (mid : Int)), (3, .int .i64 (b : Int)), (4, .fn c fi caps)])
      (fun x mm => lo ≤ x.1 ∧ x.1 ≤ x.2 ∧ x.2 ≤ hi ∧ (∀ c, lo ≤ c → c < x.1 → lt (f (mid + m - 1 - c)) (f c) = false) ∧ (∀ c, x.2 ≤ c → c < hi → lt (f (mid + m - 1 - c)) (f c) = true) ∧ mm = RW m0 q 36 25 ((seg f 0 n).map enc)) (fun x => x.2 - x.1) (lo, hi)
      ?_ ?_ key
    · subst e1 e2; kernel_rfl
    · clear key
      exact ⟨by simp only; omega, hlo2, by simp only; omega, fun h _ _ => by simp only at *; omega, fun h _ _ => by simp only at *; omega, rfl⟩
  case hs =>
    -- a round, and what comes behind
    rintro ⟨i, j⟩ mm ⟨k1, k2, k3, k4, k5, rfl⟩
    simp only at k1 k2 k3 k4 k5
    rcases Nat.lt_or_ge i j with h | h
    · have c1 : decide (i < j) = true := by simpa using h
      have w7 := addN i j (by omega)
      have w8 := halfN (i + j) (by omega)
      have hg1 : i ≤ (i + j) / 2 := by omega
      have hg2 : (i + j) / 2 < j := by omega
      obtain ⟨g, hg⟩ : ∃ g, g = (i + j) / 2 := ⟨_, rfl⟩
      rw [← hg] at w8 hg1 hg2
      have w9 := add1N g (by omega)
      have w10 := subN (mid + m - 1) g (by omega) (by omega)
      have i1 : ∀ {kk : IntKind}, iaddrS 25 (.sl 25 q 0 n) (.int kk (g : Int)) = some (.ep 25 q g 0) := row_ia (by omega)
      have i2 : ∀ {kk : IntKind}, iaddrS 25 (.sl 25 q 0 n) (.int kk ((mid + m - 1 - g : Nat) : Int)) = some (.ep 25 q (mid + m - 1 - g) 0) := row_ia (by omega)
      have l1 := row_ld hS hq (ty := 36) (f := f) (n := n) (i := g) (by omega)
      have l2 := row_ld hS hq (ty := 36) (f := f) (n := n) (i := mid + m - 1 - g) (by omega)
      obtain ⟨st1, st2⟩ := step i j k1 k2 k3 h g hg1 hg2
      simp -implicitDefEqProofs only [sims.1, fx.1, keeps.1, tick_on, calleeK, extractV, oneV, faddrK, nonnil, b_shr, b_shl, fieldK, Nat.reduceAdd, Nat.reduceMul, Nat.reduceSub, Nat.reduceEqDiff, Nat.reduceLT, Nat.reduceLeDiff, Nat.reduceBEq, Nat.reduceBNe, reduceIte, Int.reduceEq, Int.reduceLT, Int.reduceLE, Int.reduceNe, Int.reduceToNat, ltNat, c1, w7, if_neg (show ¬ (1 : Int) < 0 by decide), w8]
      refine w_quiet ?_
      simp -implicitDefEqProofs only [sims.1, fx.1, keeps.1, tick_on, calleeK, extractV, oneV, faddrK, nonnil, b_shr, b_shl, fieldK, Nat.reduceAdd, Nat.reduceMul, Nat.reduceSub, Nat.reduceEqDiff, Nat.reduceLT, Nat.reduceLeDiff, Nat.reduceBEq, Nat.reduceBNe, reduceIte, Int.reduceEq, Int.reduceLT, Int.reduceLE, Int.reduceNe, Int.reduceToNat, w10, i1, i2, l1, l2]
      refine hc _ _ _ _ fun z hz => ?_
      cases e : lt (f (mid + m - 1 - g)) (f g)
      · rw [e] at hz
        simp -implicitDefEqProofs only [sims.1, fx.1, keeps.1, tick_on, calleeK, extractV, oneV, faddrK, nonnil, b_shr, b_shl, fieldK, Nat.reduceAdd, Nat.reduceMul, Nat.reduceSub, Nat.reduceEqDiff, Nat.reduceLT, Nat.reduceLeDiff, Nat.reduceBEq, Nat.reduceBNe, reduceIte, Int.reduceEq, Int.reduceLT, Int.reduceLE, Int.reduceNe, Int.reduceToNat, hz, w9]
        exact ⟨(g + 1, j), by kernel_rfl, ⟨by simp only; omega, by simp only; omega, k3, st1 e k4, k5, (by first | exact rfl | exact True.intro)⟩, by simp only; omega⟩
      · rw [e] at hz
        simp -implicitDefEqProofs only [sims.1, fx.1, keeps.1, tick_on, calleeK, extractV, oneV, faddrK, nonnil, b_shr, b_shl, fieldK, Nat.reduceAdd, Nat.reduceMul, Nat.reduceSub, Nat.reduceEqDiff, Nat.reduceLT, Nat.reduceLeDiff, Nat.reduceBEq, Nat.reduceBNe, reduceIte, Int.reduceEq, Int.reduceLT, Int.reduceLE, Int.reduceNe, Int.reduceToNat, hz]
        exact ⟨(i, g), by kernel_rfl, ⟨k1, hg1, by simp only; omega, k4, st2 e k5, (by first | exact rfl | exact True.intro)⟩, by simp only; omega⟩
    · have c1 : decide (i < j) = false := by simpa using h
      obtain rfl : i = j := by omega
      have cut := rest i k1 k3 k4 k5
      have ca := cut.as; have cb := cut.sm; have cc := cut.smid; have cd := cut.me; have ce := cut.eb; have cf := cut.em
      have w11 := subN (mid + m) i (by omega) (by omega)
      obtain ⟨e, he⟩ : ∃ e, e = mid + m - i := ⟨_, rfl⟩
      rw [← he] at w11 cut cd ce cf
      obtain ⟨ss1, ss2⟩ := cut_s1 ho cut s1 s2
      simp -implicitDefEqProofs only [sims.1, fx.1, keeps.1, tick_on, calleeK, extractV, oneV, faddrK, nonnil, b_shr, b_shl, fieldK, Nat.reduceAdd, Nat.reduceMul, Nat.reduceSub, Nat.reduceEqDiff, Nat.reduceLT, Nat.reduceLeDiff, Nat.reduceBEq, Nat.reduceBNe, reduceIte, Int.reduceEq, Int.reduceLT, Int.reduceLE, Int.reduceNe, Int.reduceToNat, ltNat, c1, w11]
      by_cases hA : i < m ∧ m < e
      · -- turn
        have d1 : decide (i < m) = true := by simp; omega
        have d2 : decide (m < e) = true := by simp; omega
        simp -implicitDefEqProofs only [sims.1, fx.1, keeps.1, tick_on, calleeK, extractV, oneV, faddrK, nonnil, b_shr, b_shl, fieldK, Nat.reduceAdd, Nat.reduceMul, Nat.reduceSub, Nat.reduceEqDiff, Nat.reduceLT, Nat.reduceLeDiff, Nat.reduceBEq, Nat.reduceBNe, reduceIte, Int.reduceEq, Int.reduceLT, Int.reduceLE, Int.reduceNe, Int.reduceToNat, ltNat, d1, d2]
        refine callD_all (snd40 hS hq (.fn c fi caps) f n i m e (by omega) (by omega) (by omega) hn) en40 ?_
        by_cases hB : a < i ∧ i < mid
        · have d3 : decide (a < i) = true := by simp; omega
          have d4 : decide (i < mid) = true := by simp; omega
          simp -implicitDefEqProofs only [sims.1, fx.1, keeps.1, tick_on, calleeK, extractV, oneV, faddrK, nonnil, b_shr, b_shl, fieldK, Nat.reduceAdd, Nat.reduceMul, Nat.reduceSub, Nat.reduceEqDiff, Nat.reduceLT, Nat.reduceLeDiff, Nat.reduceBEq, Nat.reduceBNe, reduceIte, Int.reduceEq, Int.reduceLT, Int.reduceLE, Int.reduceNe, Int.reduceToNat, ltNat, d3, d4]
          refine callD_allQ (ih (rot f i m e) a i mid (by omega) (by omega) (by omega) (by omega) ss1 ss2) en39 ?_
          rintro r ⟨f1, rfl, hm1⟩
          refine ⟨_, _, rfl, ?_⟩
          have tt := cut_s2 ho cut s1 s2 hm1
          by_cases hC : mid < e ∧ e < b
          · have d5 : decide (mid < e) = true := by simp; omega
            have d6 : decide (e < b) = true := by simp; omega
            simp -implicitDefEqProofs only [sims.1, fx.1, keeps.1, tick_on, calleeK, extractV, oneV, faddrK, nonnil, b_shr, b_shl, fieldK, Nat.reduceAdd, Nat.reduceMul, Nat.reduceSub, Nat.reduceEqDiff, Nat.reduceLT, Nat.reduceLeDiff, Nat.reduceBEq, Nat.reduceBNe, reduceIte, Int.reduceEq, Int.reduceLT, Int.reduceLE, Int.reduceNe, Int.reduceToNat, ltNat, d5, d6]
            refine callD_allQ (ih _ mid e b (by omega) (by omega) (by omega) (by omega) tt.1 tt.2) en39 ?_
            rintro r ⟨f2, rfl, hm2⟩
            refine ⟨_, _, rfl, ?_⟩
            simp -implicitDefEqProofs only [sims.1, fx.1, keeps.1, tick_on, calleeK, extractV, oneV, faddrK, nonnil, b_shr, b_shl, fieldK, Nat.reduceAdd, Nat.reduceMul, Nat.reduceSub, Nat.reduceEqDiff, Nat.reduceLT, Nat.reduceLeDiff, Nat.reduceBEq, Nat.reduceBNe, reduceIte, Int.reduceEq, Int.reduceLT, Int.reduceLE, Int.reduceNe, Int.reduceToNat, rs39]
            exact ⟨f2, rfl, cut_fin cut hm1 hm2 (by omega)⟩
          · have hm2 := fun g => cut_skip2 (f1 := g) cut hC
            rcases Nat.lt_or_ge mid e with hC1 | hC1
            · have d5 : decide (mid < e) = true := by simp; omega
              have d6 : decide (e < b) = false := by simp; omega
              simp -implicitDefEqProofs only [sims.1, fx.1, keeps.1, tick_on, calleeK, extractV, oneV, faddrK, nonnil, b_shr, b_shl, fieldK, Nat.reduceAdd, Nat.reduceMul, Nat.reduceSub, Nat.reduceEqDiff, Nat.reduceLT, Nat.reduceLeDiff, Nat.reduceBEq, Nat.reduceBNe, reduceIte, Int.reduceEq, Int.reduceLT, Int.reduceLE, Int.reduceNe, Int.reduceToNat, ltNat, d5, d6, rs39]
              exact ⟨_, rfl, cut_fin cut hm1 (hm2 _) (by omega)⟩
            · have d5 : decide (mid < e) = false := by simp; omega
              simp -implicitDefEqProofs only [sims.1, fx.1, keeps.1, tick_on, calleeK, extractV, oneV, faddrK, nonnil, b_shr, b_shl, fieldK, Nat.reduceAdd, Nat.reduceMul, Nat.reduceSub, Nat.reduceEqDiff, Nat.reduceLT, Nat.reduceLeDiff, Nat.reduceBEq, Nat.reduceBNe, reduceIte, Int.reduceEq, Int.reduceLT, Int.reduceLE, Int.reduceNe, Int.reduceToNat, ltNat, d5, rs39]
              exact ⟨_, rfl, cut_fin cut hm1 (hm2 _) (by omega)⟩
        · have hm1 := cut_skip1 cut hB
          have tt := cut_s2 ho cut s1 s2 hm1
          rcases Nat.lt_or_ge a i with hB1 | hB1
          · have d3 : decide (a < i) = true := by simp; omega
            have d4 : decide (i < mid) = false := by simp; omega
            simp -implicitDefEqProofs only [sims.1, fx.1, keeps.1, tick_on, calleeK, extractV, oneV, faddrK, nonnil, b_shr, b_shl, fieldK, Nat.reduceAdd, Nat.reduceMul, Nat.reduceSub, Nat.reduceEqDiff, Nat.reduceLT, Nat.reduceLeDiff, Nat.reduceBEq, Nat.reduceBNe, reduceIte, Int.reduceEq, Int.reduceLT, Int.reduceLE, Int.reduceNe, Int.reduceToNat, ltNat, d3, d4]
            by_cases hC : mid < e ∧ e < b
            · have d5 : decide (mid < e) = true := by simp; omega
              have d6 : decide (e < b) = true := by simp; omega
              simp -implicitDefEqProofs only [sims.1, fx.1, keeps.1, tick_on, calleeK, extractV, oneV, faddrK, nonnil, b_shr, b_shl, fieldK, Nat.reduceAdd, Nat.reduceMul, Nat.reduceSub, Nat.reduceEqDiff, Nat.reduceLT, Nat.reduceLeDiff, Nat.reduceBEq, Nat.reduceBNe, reduceIte, Int.reduceEq, Int.reduceLT, Int.reduceLE, Int.reduceNe, Int.reduceToNat, ltNat, d5, d6]
              refine callD_allQ (ih _ mid e b (by omega) (by omega) (by omega) (by omega) tt.1 tt.2) en39 ?_
              rintro r ⟨f2, rfl, hm2⟩
              refine ⟨_, _, rfl, ?_⟩
              simp -implicitDefEqProofs only [sims.1, fx.1, keeps.1, tick_on, calleeK, extractV, oneV, faddrK, nonnil, b_shr, b_shl, fieldK, Nat.reduceAdd, Nat.reduceMul, Nat.reduceSub, Nat.reduceEqDiff, Nat.reduceLT, Nat.reduceLeDiff, Nat.reduceBEq, Nat.reduceBNe, reduceIte, Int.reduceEq, Int.reduceLT, Int.reduceLE, Int.reduceNe, Int.reduceToNat, rs39]
              exact ⟨f2, rfl, cut_fin cut hm1 hm2 (by omega)⟩
            · have hm2 := fun g => cut_skip2 (f1 := g) cut hC
              rcases Nat.lt_or_ge mid e with hC1 | hC1
              · have d5 : decide (mid < e) = true := by simp; omega
                have d6 : decide (e < b) = false := by simp; omega
                simp -implicitDefEqProofs only [sims.1, fx.1, keeps.1, tick_on, calleeK, extractV, oneV, faddrK, nonnil, b_shr, b_shl, fieldK, Nat.reduceAdd, Nat.reduceMul, Nat.reduceSub, Nat.reduceEqDiff, Nat.reduceLT, Nat.reduceLeDiff, Nat.reduceBEq, Nat.reduceBNe, reduceIte, Int.reduceEq, Int.reduceLT, Int.reduceLE, Int.reduceNe, Int.reduceToNat, ltNat, d5, d6, rs39]
                exact ⟨_, rfl, cut_fin cut hm1 (hm2 _) (by omega)⟩
              · have d5 : decide (mid < e) = false := by simp; omega
                simp -implicitDefEqProofs only [sims.1, fx.1, keeps.1, tick_on, calleeK, extractV, oneV, faddrK, nonnil, b_shr, b_shl, fieldK, Nat.reduceAdd, Nat.reduceMul, Nat.reduceSub, Nat.reduceEqDiff, Nat.reduceLT, Nat.reduceLeDiff, Nat.reduceBEq, Nat.reduceBNe, reduceIte, Int.reduceEq, Int.reduceLT, Int.reduceLE, Int.reduceNe, Int.reduceToNat, ltNat, d5, rs39]
                exact ⟨_, rfl, cut_fin cut hm1 (hm2 _) (by omega)⟩
          · have d3 : decide (a < i) = false := by simp; omega
            simp -implicitDefEqProofs only [sims.1, fx.1, keeps.1, tick_on, calleeK, extractV, oneV, faddrK, nonnil, b_shr, b_shl, fieldK, Nat.reduceAdd, Nat.reduceMul, Nat.reduceSub, Nat.reduceEqDiff, Nat.reduceLT, Nat.reduceLeDiff, Nat.reduceBEq, Nat.reduceBNe, reduceIte, Int.reduceEq, Int.reduceLT, Int.reduceLE, Int.reduceNe, Int.reduceToNat, ltNat, d3]
            by_cases hC : mid < e ∧ e < b
            · have d5 : decide (mid < e) = true := by simp; omega
              have d6 : decide (e < b) = true := by simp; omega
              simp -implicitDefEqProofs only [sims.1, fx.1, keeps.1, tick_on, calleeK, extractV, oneV, faddrK, nonnil, b_shr, b_shl, fieldK, Nat.reduceAdd, Nat.reduceMul, Nat.reduceSub, Nat.reduceEqDiff, Nat.reduceLT, Nat.reduceLeDiff, Nat.reduceBEq, Nat.reduceBNe, reduceIte, Int.reduceEq, Int.reduceLT, Int.reduceLE, Int.reduceNe, Int.reduceToNat, ltNat, d5, d6]
              refine callD_allQ (ih _ mid e b (by omega) (by omega) (by omega) (by omega) tt.1 tt.2) en39 ?_
              rintro r ⟨f2, rfl, hm2⟩
              refine ⟨_, _, rfl, ?_⟩
              simp -implicitDefEqProofs only [sims.1, fx.1, keeps.1, tick_on, calleeK, extractV, oneV, faddrK, nonnil, b_shr, b_shl, fieldK, Nat.reduceAdd, Nat.reduceMul, Nat.reduceSub, Nat.reduceEqDiff, Nat.reduceLT, Nat.reduceLeDiff, Nat.reduceBEq, Nat.reduceBNe, reduceIte, Int.reduceEq, Int.reduceLT, Int.reduceLE, Int.reduceNe, Int.reduceToNat, rs39]
              exact ⟨f2, rfl, cut_fin cut hm1 hm2 (by omega)⟩
            · have hm2 := fun g => cut_skip2 (f1 := g) cut hC
              rcases Nat.lt_or_ge mid e with hC1 | hC1
              · have d5 : decide (mid < e) = true := by simp; omega
                have d6 : decide (e < b) = false := by simp; omega
                simp -implicitDefEqProofs only [sims.1, fx.1, keeps.1, tick_on, calleeK, extractV, oneV, faddrK, nonnil, b_shr, b_shl, fieldK, Nat.reduceAdd, Nat.reduceMul, Nat.reduceSub, Nat.reduceEqDiff, Nat.reduceLT, Nat.reduceLeDiff, Nat.reduceBEq, Nat.reduceBNe, reduceIte, Int.reduceEq, Int.reduceLT, Int.reduceLE, Int.reduceNe, Int.reduceToNat, ltNat, d5, d6, rs39]
                exact ⟨_, rfl, cut_fin cut hm1 (hm2 _) (by omega)⟩
              · have d5 : decide (mid < e) = false := by simp; omega
                simp -implicitDefEqProofs only [sims.1, fx.1, keeps.1, tick_on, calleeK, extractV, oneV, faddrK, nonnil, b_shr, b_shl, fieldK, Nat.reduceAdd, Nat.reduceMul, Nat.reduceSub, Nat.reduceEqDiff, Nat.reduceLT, Nat.reduceLeDiff, Nat.reduceBEq, Nat.reduceBNe, reduceIte, Int.reduceEq, Int.reduceLT, Int.reduceLE, Int.reduceNe, Int.reduceToNat, ltNat, d5, rs39]
                exact ⟨_, rfl, cut_fin cut hm1 (hm2 _) (by omega)⟩
      · -- no turn
        have hf := cut_turn cut hA
        rw [show RW m0 q 36 25 ((seg f 0 n).map enc) = RW m0 q 36 25 ((seg (rot f i m e) 0 n).map enc) by rw [hf]]
        rcases Nat.lt_or_ge i m with hA1 | hA1
        · have d1 : decide (i < m) = true := by simp; omega
          have d2 : decide (m < e) = false := by simp; omega
          simp -implicitDefEqProofs only [sims.1, fx.1, keeps.1, tick_on, calleeK, extractV, oneV, faddrK, nonnil, b_shr, b_shl, fieldK, Nat.reduceAdd, Nat.reduceMul, Nat.reduceSub, Nat.reduceEqDiff, Nat.reduceLT, Nat.reduceLeDiff, Nat.reduceBEq, Nat.reduceBNe, reduceIte, Int.reduceEq, Int.reduceLT, Int.reduceLE, Int.reduceNe, Int.reduceToNat, ltNat, d1, d2]
          by_cases hB : a < i ∧ i < mid
          · have d3 : decide (a < i) = true := by simp; omega
            have d4 : decide (i < mid) = true := by simp; omega
            simp -implicitDefEqProofs only [sims.1, fx.1, keeps.1, tick_on, calleeK, extractV, oneV, faddrK, nonnil, b_shr, b_shl, fieldK, Nat.reduceAdd, Nat.reduceMul, Nat.reduceSub, Nat.reduceEqDiff, Nat.reduceLT, Nat.reduceLeDiff, Nat.reduceBEq, Nat.reduceBNe, reduceIte, Int.reduceEq, Int.reduceLT, Int.reduceLE, Int.reduceNe, Int.reduceToNat, ltNat, d3, d4]
            refine callD_allQ (ih (rot f i m e) a i mid (by omega) (by omega) (by omega) (by omega) ss1 ss2) en39 ?_
            rintro r ⟨f1, rfl, hm1⟩
            refine ⟨_, _, rfl, ?_⟩
            have tt := cut_s2 ho cut s1 s2 hm1
            by_cases hC : mid < e ∧ e < b
            · have d5 : decide (mid < e) = true := by simp; omega
              have d6 : decide (e < b) = true := by simp; omega
              simp -implicitDefEqProofs only [sims.1, fx.1, keeps.1, tick_on, calleeK, extractV, oneV, faddrK, nonnil, b_shr, b_shl, fieldK, Nat.reduceAdd, Nat.reduceMul, Nat.reduceSub, Nat.reduceEqDiff, Nat.reduceLT, Nat.reduceLeDiff, Nat.reduceBEq, Nat.reduceBNe, reduceIte, Int.reduceEq, Int.reduceLT, Int.reduceLE, Int.reduceNe, Int.reduceToNat, ltNat, d5, d6]
              refine callD_allQ (ih _ mid e b (by omega) (by omega) (by omega) (by omega) tt.1 tt.2) en39 ?_
              rintro r ⟨f2, rfl, hm2⟩
              refine ⟨_, _, rfl, ?_⟩
              simp -implicitDefEqProofs only [sims.1, fx.1, keeps.1, tick_on, calleeK, extractV, oneV, faddrK, nonnil, b_shr, b_shl, fieldK, Nat.reduceAdd, Nat.reduceMul, Nat.reduceSub, Nat.reduceEqDiff, Nat.reduceLT, Nat.reduceLeDiff, Nat.reduceBEq, Nat.reduceBNe, reduceIte, Int.reduceEq, Int.reduceLT, Int.reduceLE, Int.reduceNe, Int.reduceToNat, rs39]
              exact ⟨f2, rfl, cut_fin cut hm1 hm2 (by omega)⟩
            · have hm2 := fun g => cut_skip2 (f1 := g) cut hC
              rcases Nat.lt_or_ge mid e with hC1 | hC1
              · have d5 : decide (mid < e) = true := by simp; omega
                have d6 : decide (e < b) = false := by simp; omega
                simp -implicitDefEqProofs only [sims.1, fx.1, keeps.1, tick_on, calleeK, extractV, oneV, faddrK, nonnil, b_shr, b_shl, fieldK, Nat.reduceAdd, Nat.reduceMul, Nat.reduceSub, Nat.reduceEqDiff, Nat.reduceLT, Nat.reduceLeDiff, Nat.reduceBEq, Nat.reduceBNe, reduceIte, Int.reduceEq, Int.reduceLT, Int.reduceLE, Int.reduceNe, Int.reduceToNat, ltNat, d5, d6, rs39]
                exact ⟨_, rfl, cut_fin cut hm1 (hm2 _) (by omega)⟩
              · have d5 : decide (mid < e) = false := by simp; omega
                simp -implicitDefEqProofs only [sims.1, fx.1, keeps.1, tick_on, calleeK, extractV, oneV, faddrK, nonnil, b_shr, b_shl, fieldK, Nat.reduceAdd, Nat.reduceMul, Nat.reduceSub, Nat.reduceEqDiff, Nat.reduceLT, Nat.reduceLeDiff, Nat.reduceBEq, Nat.reduceBNe, reduceIte, Int.reduceEq, Int.reduceLT, Int.reduceLE, Int.reduceNe, Int.reduceToNat, ltNat, d5, rs39]
                exact ⟨_, rfl, cut_fin cut hm1 (hm2 _) (by omega)⟩
          · have hm1 := cut_skip1 cut hB
            have tt := cut_s2 ho cut s1 s2 hm1
            rcases Nat.lt_or_ge a i with hB1 | hB1
            · have d3 : decide (a < i) = true := by simp; omega
              have d4 : decide (i < mid) = false := by simp; omega
              simp -implicitDefEqProofs only [sims.1, fx.1, keeps.1, tick_on, calleeK, extractV, oneV, faddrK, nonnil, b_shr, b_shl, fieldK, Nat.reduceAdd, Nat.reduceMul, Nat.reduceSub, Nat.reduceEqDiff, Nat.reduceLT, Nat.reduceLeDiff, Nat.reduceBEq, Nat.reduceBNe, reduceIte, Int.reduceEq, Int.reduceLT, Int.reduceLE, Int.reduceNe, Int.reduceToNat, ltNat, d3, d4]
              by_cases hC : mid < e ∧ e < b
              · have d5 : decide (mid < e) = true := by simp; omega
                have d6 : decide (e < b) = true := by simp; omega
                simp -implicitDefEqProofs only [sims.1, fx.1, keeps.1, tick_on, calleeK, extractV, oneV, faddrK, nonnil, b_shr, b_shl, fieldK, Nat.reduceAdd, Nat.reduceMul, Nat.reduceSub, Nat.reduceEqDiff, Nat.reduceLT, Nat.reduceLeDiff, Nat.reduceBEq, Nat.reduceBNe, reduceIte, Int.reduceEq, Int.reduceLT, Int.reduceLE, Int.reduceNe, Int.reduceToNat, ltNat, d5, d6]
                refine callD_allQ (ih _ mid e b (by omega) (by omega) (by omega) (by omega) tt.1 tt.2) en39 ?_
                rintro r ⟨f2, rfl, hm2⟩
                refine ⟨_, _, rfl, ?_⟩
                simp -implicitDefEqProofs only [sims.1, fx.1, keeps.1, tick_on, calleeK, extractV, oneV, faddrK, nonnil, b_shr, b_shl, fieldK, Nat.reduceAdd, Nat.reduceMul, Nat.reduceSub, Nat.reduceEqDiff, Nat.reduceLT, Nat.reduceLeDiff, Nat.reduceBEq, Nat.reduceBNe, reduceIte, Int.reduceEq, Int.reduceLT, Int.reduceLE, Int.reduceNe, Int.reduceToNat, rs39]
                exact ⟨f2, rfl, cut_fin cut hm1 hm2 (by omega)⟩
              · have hm2 := fun g => cut_skip2 (f1 := g) cut hC
                rcases Nat.lt_or_ge mid e with hC1 | hC1
                · have d5 : decide (mid < e) = true := by simp; omega
                  have d6 : decide (e < b) = false := by simp; omega
                  simp -implicitDefEqProofs only [sims.1, fx.1, keeps.1, tick_on, calleeK, extractV, oneV, faddrK, nonnil, b_shr, b_shl, fieldK, Nat.reduceAdd, Nat.reduceMul, Nat.reduceSub, Nat.reduceEqDiff, Nat.reduceLT, Nat.reduceLeDiff, Nat.reduceBEq, Nat.reduceBNe, reduceIte, Int.reduceEq, Int.reduceLT, Int.reduceLE, Int.reduceNe, Int.reduceToNat, ltNat, d5, d6, rs39]
                  exact ⟨_, rfl, cut_fin cut hm1 (hm2 _) (by omega)⟩
                · have d5 : decide (mid < e) = false := by simp; omega
                  simp -implicitDefEqProofs only [sims.1, fx.1, keeps.1, tick_on, calleeK, extractV, oneV, faddrK, nonnil, b_shr, b_shl, fieldK, Nat.reduceAdd, Nat.reduceMul, Nat.reduceSub, Nat.reduceEqDiff, Nat.reduceLT, Nat.reduceLeDiff, Nat.reduceBEq, Nat.reduceBNe, reduceIte, Int.reduceEq, Int.reduceLT, Int.reduceLE, Int.reduceNe, Int.reduceToNat, ltNat, d5, rs39]
                  exact ⟨_, rfl, cut_fin cut hm1 (hm2 _) (by omega)⟩
            · have d3 : decide (a < i) = false := by simp; omega
              simp -implicitDefEqProofs only [sims.1, fx.1, keeps.1, tick_on, calleeK, extractV, oneV, faddrK, nonnil, b_shr, b_shl, fieldK, Nat.reduceAdd, Nat.reduceMul, Nat.reduceSub, Nat.reduceEqDiff, Nat.reduceLT, Nat.reduceLeDiff, Nat.reduceBEq, Nat.reduceBNe, reduceIte, Int.reduceEq, Int.reduceLT, Int.reduceLE, Int.reduceNe, Int.reduceToNat, ltNat, d3]
              by_cases hC : mid < e ∧ e < b
              · have d5 : decide (mid < e) = true := by simp; omega
                have d6 : decide (e < b) = true := by simp; omega
                simp -implicitDefEqProofs only [sims.1, fx.1, keeps.1, tick_on, calleeK, extractV, oneV, faddrK, nonnil, b_shr, b_shl, fieldK, Nat.reduceAdd, Nat.reduceMul, Nat.reduceSub, Nat.reduceEqDiff, Nat.reduceLT, Nat.reduceLeDiff, Nat.reduceBEq, Nat.reduceBNe, reduceIte, Int.reduceEq, Int.reduceLT, Int.reduceLE, Int.reduceNe, Int.reduceToNat, ltNat, d5, d6]
                refine callD_allQ (ih _ mid e b (by omega) (by omega) (by omega) (by omega) tt.1 tt.2) en39 ?_
                rintro r ⟨f2, rfl, hm2⟩
                refine ⟨_, _, rfl, ?_⟩
                simp -implicitDefEqProofs only [sims.1, fx.1, keeps.1, tick_on, calleeK, extractV, oneV, faddrK, nonnil, b_shr, b_shl, fieldK, Nat.reduceAdd, Nat.reduceMul, Nat.reduceSub, Nat.reduceEqDiff, Nat.reduceLT, Nat.reduceLeDiff, Nat.reduceBEq, Nat.reduceBNe, reduceIte, Int.reduceEq, Int.reduceLT, Int.reduceLE, Int.reduceNe, Int.reduceToNat, rs39]
                exact ⟨f2, rfl, cut_fin cut hm1 hm2 (by omega)⟩
              · have hm2 := fun g => cut_skip2 (f1 := g) cut hC
                rcases Nat.lt_or_ge mid e with hC1 | hC1
                · have d5 : decide (mid < e) = true := by simp; omega
                  have d6 : decide (e < b) = false := by simp; omega
                  simp -implicitDefEqProofs only [sims.1, fx.1, keeps.1, tick_on, calleeK, extractV, oneV, faddrK, nonnil, b_shr, b_shl, fieldK, Nat.reduceAdd, Nat.reduceMul, Nat.reduceSub, Nat.reduceEqDiff, Nat.reduceLT, Nat.reduceLeDiff, Nat.reduceBEq, Nat.reduceBNe, reduceIte, Int.reduceEq, Int.reduceLT, Int.reduceLE, Int.reduceNe, Int.reduceToNat, ltNat, d5, d6, rs39]
                  exact ⟨_, rfl, cut_fin cut hm1 (hm2 _) (by omega)⟩
                · have d5 : decide (mid < e) = false := by simp; omega
                  simp -implicitDefEqProofs only [sims.1, fx.1, keeps.1, tick_on, calleeK, extractV, oneV, faddrK, nonnil, b_shr, b_shl, fieldK, Nat.reduceAdd, Nat.reduceMul, Nat.reduceSub, Nat.reduceEqDiff, Nat.reduceLT, Nat.reduceLeDiff, Nat.reduceBEq, Nat.reduceBNe, reduceIte, Int.reduceEq, Int.reduceLT, Int.reduceLE, Int.reduceNe, Int.reduceToNat, ltNat, d5, rs39]
                  exact ⟨_, rfl, cut_fin cut hm1 (hm2 _) (by omega)⟩
        · have d1 : decide (i < m) = false := by simp; omega
          have d2 : decide (m < e) = decide (m < e) := rfl
          simp -implicitDefEqProofs only [sims.1, fx.1, keeps.1, tick_on, calleeK, extractV, oneV, faddrK, nonnil, b_shr, b_shl, fieldK, Nat.reduceAdd, Nat.reduceMul, Nat.reduceSub, Nat.reduceEqDiff, Nat.reduceLT, Nat.reduceLeDiff, Nat.reduceBEq, Nat.reduceBNe, reduceIte, Int.reduceEq, Int.reduceLT, Int.reduceLE, Int.reduceNe, Int.reduceToNat, ltNat, d1]
          by_cases hB : a < i ∧ i < mid
          · have d3 : decide (a < i) = true := by simp; omega
            have d4 : decide (i < mid) = true := by simp; omega
            simp -implicitDefEqProofs only [sims.1, fx.1, keeps.1, tick_on, calleeK, extractV, oneV, faddrK, nonnil, b_shr, b_shl, fieldK, Nat.reduceAdd, Nat.reduceMul, Nat.reduceSub, Nat.reduceEqDiff, Nat.reduceLT, Nat.reduceLeDiff, Nat.reduceBEq, Nat.reduceBNe, reduceIte, Int.reduceEq, Int.reduceLT, Int.reduceLE, Int.reduceNe, Int.reduceToNat, ltNat, d3, d4]
            refine callD_allQ (ih (rot f i m e) a i mid (by omega) (by omega) (by omega) (by omega) ss1 ss2) en39 ?_
            rintro r ⟨f1, rfl, hm1⟩
            refine ⟨_, _, rfl, ?_⟩
            have tt := cut_s2 ho cut s1 s2 hm1
            by_cases hC : mid < e ∧ e < b
            · have d5 : decide (mid < e) = true := by simp; omega
              have d6 : decide (e < b) = true := by simp; omega
              simp -implicitDefEqProofs only [sims.1, fx.1, keeps.1, tick_on, calleeK, extractV, oneV, faddrK, nonnil, b_shr, b_shl, fieldK, Nat.reduceAdd, Nat.reduceMul, Nat.reduceSub, Nat.reduceEqDiff, Nat.reduceLT, Nat.reduceLeDiff, Nat.reduceBEq, Nat.reduceBNe, reduceIte, Int.reduceEq, Int.reduceLT, Int.reduceLE, Int.reduceNe, Int.reduceToNat, ltNat, d5, d6]
              refine callD_allQ (ih _ mid e b (by omega) (by omega) (by omega) (by omega) tt.1 tt.2) en39 ?_
              rintro r ⟨f2, rfl, hm2⟩
              refine ⟨_, _, rfl, ?_⟩
              simp -implicitDefEqProofs only [sims.1, fx.1, keeps.1, tick_on, calleeK, extractV, oneV, faddrK, nonnil, b_shr, b_shl, fieldK, Nat.reduceAdd, Nat.reduceMul, Nat.reduceSub, Nat.reduceEqDiff, Nat.reduceLT, Nat.reduceLeDiff, Nat.reduceBEq, Nat.reduceBNe, reduceIte, Int.reduceEq, Int.reduceLT, Int.reduceLE, Int.reduceNe, Int.reduceToNat, rs39]
              exact ⟨f2, rfl, cut_fin cut hm1 hm2 (by omega)⟩
            · have hm2 := fun g => cut_skip2 (f1 := g) cut hC
              rcases Nat.lt_or_ge mid e with hC1 | hC1
              · have d5 : decide (mid < e) = true := by simp; omega
                have d6 : decide (e < b) = false := by simp; omega
                simp -implicitDefEqProofs only [sims.1, fx.1, keeps.1, tick_on, calleeK, extractV, oneV, faddrK, nonnil, b_shr, b_shl, fieldK, Nat.reduceAdd, Nat.reduceMul, Nat.reduceSub, Nat.reduceEqDiff, Nat.reduceLT, Nat.reduceLeDiff, Nat.reduceBEq, Nat.reduceBNe, reduceIte, Int.reduceEq, Int.reduceLT, Int.reduceLE, Int.reduceNe, Int.reduceToNat, ltNat, d5, d6, rs39]
                exact ⟨_, rfl, cut_fin cut hm1 (hm2 _) (by omega)⟩
              · have d5 : decide (mid < e) = false := by simp; omega
                simp -implicitDefEqProofs only [sims.1, fx.1, keeps.1, tick_on, calleeK, extractV, oneV, faddrK, nonnil, b_shr, b_shl, fieldK, Nat.reduceAdd, Nat.reduceMul, Nat.reduceSub, Nat.reduceEqDiff, Nat.reduceLT, Nat.reduceLeDiff, Nat.reduceBEq, Nat.reduceBNe, reduceIte, Int.reduceEq, Int.reduceLT, Int.reduceLE, Int.reduceNe, Int.reduceToNat, ltNat, d5, rs39]
                exact ⟨_, rfl, cut_fin cut hm1 (hm2 _) (by omega)⟩
          · have hm1 := cut_skip1 cut hB
            have tt := cut_s2 ho cut s1 s2 hm1
            rcases Nat.lt_or_ge a i with hB1 | hB1
            · have d3 : decide (a < i) = true := by simp; omega
              have d4 : decide (i < mid) = false := by simp; omega
              simp -implicitDefEqProofs only [sims.1, fx.1, keeps.1, tick_on, calleeK, extractV, oneV, faddrK, nonnil, b_shr, b_shl, fieldK, Nat.reduceAdd, Nat.reduceMul, Nat.reduceSub, Nat.reduceEqDiff, Nat.reduceLT, Nat.reduceLeDiff, Nat.reduceBEq, Nat.reduceBNe, reduceIte, Int.reduceEq, Int.reduceLT, Int.reduceLE, Int.reduceNe, Int.reduceToNat, ltNat, d3, d4]
              by_cases hC : mid < e ∧ e < b
              · have d5 : decide (mid < e) = true := by simp; omega
                have d6 : decide (e < b) = true := by simp; omega
                simp -implicitDefEqProofs only [sims.1, fx.1, keeps.1, tick_on, calleeK, extractV, oneV, faddrK, nonnil, b_shr, b_shl, fieldK, Nat.reduceAdd, Nat.reduceMul, Nat.reduceSub, Nat.reduceEqDiff, Nat.reduceLT, Nat.reduceLeDiff, Nat.reduceBEq, Nat.reduceBNe, reduceIte, Int.reduceEq, Int.reduceLT, Int.reduceLE, Int.reduceNe, Int.reduceToNat, ltNat, d5, d6]
                refine callD_allQ (ih _ mid e b (by omega) (by omega) (by omega) (by omega) tt.1 tt.2) en39 ?_
                rintro r ⟨f2, rfl, hm2⟩
                refine ⟨_, _, rfl, ?_⟩
                simp -implicitDefEqProofs only [sims.1, fx.1, keeps.1, tick_on, calleeK, extractV, oneV, faddrK, nonnil, b_shr, b_shl, fieldK, Nat.reduceAdd, Nat.reduceMul, Nat.reduceSub, Nat.reduceEqDiff, Nat.reduceLT, Nat.reduceLeDiff, Nat.reduceBEq, Nat.reduceBNe, reduceIte, Int.reduceEq, Int.reduceLT, Int.reduceLE, Int.reduceNe, Int.reduceToNat, rs39]
                exact ⟨f2, rfl, cut_fin cut hm1 hm2 (by omega)⟩
              · have hm2 := fun g => cut_skip2 (f1 := g) cut hC
                rcases Nat.lt_or_ge mid e with hC1 | hC1
                · have d5 : decide (mid < e) = true := by simp; omega
                  have d6 : decide (e < b) = false := by simp; omega
                  simp -implicitDefEqProofs only [sims.1, fx.1, keeps.1, tick_on, calleeK, extractV, oneV, faddrK, nonnil, b_shr, b_shl, fieldK, Nat.reduceAdd, Nat.reduceMul, Nat.reduceSub, Nat.reduceEqDiff, Nat.reduceLT, Nat.reduceLeDiff, Nat.reduceBEq, Nat.reduceBNe, reduceIte, Int.reduceEq, Int.reduceLT, Int.reduceLE, Int.reduceNe, Int.reduceToNat, ltNat, d5, d6, rs39]
                  exact ⟨_, rfl, cut_fin cut hm1 (hm2 _) (by omega)⟩
                · have d5 : decide (mid < e) = false := by simp; omega
                  simp -implicitDefEqProofs only [sims.1, fx.1, keeps.1, tick_on, calleeK, extractV, oneV, faddrK, nonnil, b_shr, b_shl, fieldK, Nat.reduceAdd, Nat.reduceMul, Nat.reduceSub, Nat.reduceEqDiff, Nat.reduceLT, Nat.reduceLeDiff, Nat.reduceBEq, Nat.reduceBNe, reduceIte, Int.reduceEq, Int.reduceLT, Int.reduceLE, Int.reduceNe, Int.reduceToNat, ltNat, d5, rs39]
                  exact ⟨_, rfl, cut_fin cut hm1 (hm2 _) (by omega)⟩
            · have d3 : decide (a < i) = false := by simp; omega
              simp -implicitDefEqProofs only [sims.1, fx.1, keeps.1, tick_on, calleeK, extractV, oneV, faddrK, nonnil, b_shr, b_shl, fieldK, Nat.reduceAdd, Nat.reduceMul, Nat.reduceSub, Nat.reduceEqDiff, Nat.reduceLT, Nat.reduceLeDiff, Nat.reduceBEq, Nat.reduceBNe, reduceIte, Int.reduceEq, Int.reduceLT, Int.reduceLE, Int.reduceNe, Int.reduceToNat, ltNat, d3]
              by_cases hC : mid < e ∧ e < b
              · have d5 : decide (mid < e) = true := by simp; omega
                have d6 : decide (e < b) = true := by simp; omega
                simp -implicitDefEqProofs only [sims.1, fx.1, keeps.1, tick_on, calleeK, extractV, oneV, faddrK, nonnil, b_shr, b_shl, fieldK, Nat.reduceAdd, Nat.reduceMul, Nat.reduceSub, Nat.reduceEqDiff, Nat.reduceLT, Nat.reduceLeDiff, Nat.reduceBEq, Nat.reduceBNe, reduceIte, Int.reduceEq, Int.reduceLT, Int.reduceLE, Int.reduceNe, Int.reduceToNat, ltNat, d5, d6]
                refine callD_allQ (ih _ mid e b (by omega) (by omega) (by omega) (by omega) tt.1 tt.2) en39 ?_
                rintro r ⟨f2, rfl, hm2⟩
                refine ⟨_, _, rfl, ?_⟩
                simp -implicitDefEqProofs only [sims.1, fx.1, keeps.1, tick_on, calleeK, extractV, oneV, faddrK, nonnil, b_shr, b_shl, fieldK, Nat.reduceAdd, Nat.reduceMul, Nat.reduceSub, Nat.reduceEqDiff, Nat.reduceLT, Nat.reduceLeDiff, Nat.reduceBEq, Nat.reduceBNe, reduceIte, Int.reduceEq, Int.reduceLT, Int.reduceLE, Int.reduceNe, Int.reduceToNat, rs39]
                exact ⟨f2, rfl, cut_fin cut hm1 hm2 (by omega)⟩
              · have hm2 := fun g => cut_skip2 (f1 := g) cut hC
                rcases Nat.lt_or_ge mid e with hC1 | hC1
                · have d5 : decide (mid < e) = true := by simp; omega
                  have d6 : decide (e < b) = false := by simp; omega
                  simp -implicitDefEqProofs only [sims.1, fx.1, keeps.1, tick_on, calleeK, extractV, oneV, faddrK, nonnil, b_shr, b_shl, fieldK, Nat.reduceAdd, Nat.reduceMul, Nat.reduceSub, Nat.reduceEqDiff, Nat.reduceLT, Nat.reduceLeDiff, Nat.reduceBEq, Nat.reduceBNe, reduceIte, Int.reduceEq, Int.reduceLT, Int.reduceLE, Int.reduceNe, Int.reduceToNat, ltNat, d5, d6, rs39]
                  exact ⟨_, rfl, cut_fin cut hm1 (hm2 _) (by omega)⟩
                · have d5 : decide (mid < e) = false := by simp; omega
                  simp -implicitDefEqProofs only [sims.1, fx.1, keeps.1, tick_on, calleeK, extractV, oneV, faddrK, nonnil, b_shr, b_shl, fieldK, Nat.reduceAdd, Nat.reduceMul, Nat.reduceSub, Nat.reduceEqDiff, Nat.reduceLT, Nat.reduceLeDiff, Nat.reduceBEq, Nat.reduceBNe, reduceIte, Int.reduceEq, Int.reduceLT, Int.reduceLE, Int.reduceNe, Int.reduceToNat, ltNat, d5, rs39]
                  exact ⟨_, rfl, cut_fin cut hm1 (hm2 _) (by omega)⟩

theorem symU (ho : Ord α lt) (hS : Elt true 25 enc ev) {m0 : Mem} {q : Nat} (hq : q < m0.length) (c : FuncId) (fi caps : List V) (n : Nat)
    (hc : Cmp Try.prog lt ev c fi caps fun g => RW m0 q 36 25 ((seg g 0 n).map enc)) (hn : n < big) : ∀ (k : Nat) (f : Nat → α) (a m b : Nat), b - a ≤ k → a < m → m < b → b ≤ n → srf lt f a m → srf lt f m b → SymU lt enc m0 q n c fi caps f a m b
  | 0, f, a, m, b, h, h1, h2, _, _, _ => absurd h (by omega)
  | k + 1, f, a, m, b, h, h1, h2, h3, s1, s2 => by
    rcases Nat.lt_or_ge (a + 1) m with h4 | h4
    · rcases Nat.lt_or_ge (m + 1) b with h5 | h5
      · exact sym3U ho hS hq c fi caps n hc f a m b h4 h5 h3 hn s1 s2 fun f' a' m' b' g1 g2 g3 g4 g5 g6 => symU ho hS hq c fi caps n hc hn k f' a' m' b' (by omega) g2 g3 g4 g5 g6
      · exact sym2U ho hS hq c fi caps n hc f a m b h4 (by omega) h3 hn s1
    · exact sym1U ho hS hq c fi caps n hc f a m b (by omega) h2 h3 hn s2

set_option maxHeartbeats 8000000 in
theorem snd36 (ho : Ord α lt) (hS : Elt true 25 enc ev) {m0 : Mem} {q : Nat} (hq : q < m0.length) (c : FuncId) (fi caps : List V) (n : Nat)
    (hc : Cmp Try.prog lt ev c fi caps fun g => RW m0 q 36 25 ((seg g 0 n).map enc)) (f : Nat → α) (hn : 4 * n + 100 < big) :
    Snd Try.prog 36 [.sl 25 q 0 n, .int .i64 (n : Int), .fn c fi caps] (RW m0 q 36 25 ((seg f 0 n).map enc)) fun r => ∃ f', r = .ret (.tup []) (RW m0 q 36 25 ((seg f' 0 n).map enc)) ∧ seg f' 0 n = ssort lt (seg f 0 n) := by
  have hbig : big = 4611686018427387904 := rfl
  refine Snd_of_W fol rfl rfl (by kernel_rfl) (by kernel_rfl) ?_
  simp -implicitDefEqProofs only [sims.1, fx.1, keeps.1, tick_on, calleeK, extractV, oneV, faddrK, nonnil, b_shr, b_shl, fieldK, Nat.reduceAdd, Nat.reduceMul, Nat.reduceSub, Nat.reduceEqDiff, Nat.reduceLT, Nat.reduceLeDiff, Nat.reduceBEq, Nat.reduceBNe, reduceIte, Int.reduceEq, Int.reduceLT, Int.reduceLE, Int.reduceNe, Int.reduceToNat]
  refine W_loopM (fun x : Nat × (Nat → α) => [(8, .int .i64 ((x.1 + 20 : Nat) : Int)), (7, .int .i64 (x.1 : Int)), (0, .sl 25 q 0 n), (1, .int .i64 (n : Int)), (2, .fn c fi caps), (6, .int .i64 20)]) (fun x mm => x.1 ≤ n ∧ Blk lt f f x.2 20 x.1 n ∧ mm = RW m0 q 36 25 ((seg x.2 0 n).map enc)) (fun x => n - x.1) (0, f)
    (by kernel_rfl) ⟨Nat.zero_le _, blk_zero, rfl⟩ ?_
  rintro ⟨a, g⟩ mm ⟨k1, k2, rfl⟩
  simp only at k1 k2
  rcases Nat.lt_or_ge n (a + 20) with h | h
  · have c1 : decide (a + 20 ≤ n) = false := by simpa using h
    simp -implicitDefEqProofs only [sims.1, fx.1, keeps.1, tick_on, calleeK, extractV, oneV, faddrK, nonnil, b_shr, b_shl, fieldK, Nat.reduceAdd, Nat.reduceMul, Nat.reduceSub, Nat.reduceEqDiff, Nat.reduceLT, Nat.reduceLeDiff, Nat.reduceBEq, Nat.reduceBNe, reduceIte, Int.reduceEq, Int.reduceLT, Int.reduceLE, Int.reduceNe, Int.reduceToNat, leNat, c1]
    refine callD_allQ (snd38 ho hS hq c fi caps n hc g a n k1 (Nat.le_refl _) (by omega)) en38 ?_
    rintro r ⟨g1, rfl, m1, m2⟩
    refine ⟨_, _, rfl, ?_⟩
    have hb1 := blk_last k2 (g' := g1) (by omega) h (by rw [m1, seg_ext (g := f) fun x hx _ => k2.hi x hx]) (fun x hx => m2 x (.inl hx))
    simp -implicitDefEqProofs only [sims.1, fx.1, keeps.1, tick_on, calleeK, extractV, oneV, faddrK, nonnil, b_shr, b_shl, fieldK, Nat.reduceAdd, Nat.reduceMul, Nat.reduceSub, Nat.reduceEqDiff, Nat.reduceLT, Nat.reduceLeDiff, Nat.reduceBEq, Nat.reduceBNe, reduceIte, Int.reduceEq, Int.reduceLT, Int.reduceLE, Int.reduceNe, Int.reduceToNat]
    refine W_loopM (fun x : Nat × (Nat → α) => [(0, .sl 25 q 0 n), (1, .int .i64 (n : Int)), (2, .fn c fi caps), (6, .int .i64 (x.1 : Int))]) (fun x mm => 0 < x.1 ∧ (x.1 < 2 * n + 21) ∧ (∀ i, Al x.1 i → i ≤ n → seg x.2 i (min (i + x.1) n) = ssort lt (seg f i (min (i + x.1) n))) ∧ mm = RW m0 q 36 25 ((seg x.2 0 n).map enc)) (fun x => 2 * n + 21 - x.1) (20, g1)
      (by kernel_rfl) ⟨by simp only; omega, by simp only; omega, hb1, rfl⟩ ?_
    rintro ⟨bs, g0⟩ mm ⟨j1, j2, j3, rfl⟩
    simp only at j1 j2 j3
    rcases Nat.lt_or_ge bs n with hb | hb
    · have c2 : decide (bs < n) = true := by simpa using hb
      have w1 := mul2N bs (by omega)
      have w1' : IntKind.i64.wrap ((bs : Int) * 2) = ((2 * bs : Nat) : Int) := by rw [Int.mul_comm]; exact w1
      simp -implicitDefEqProofs only [sims.1, fx.1, keeps.1, tick_on, calleeK, extractV, oneV, faddrK, nonnil, b_shr, b_shl, fieldK, Nat.reduceAdd, Nat.reduceMul, Nat.reduceSub, Nat.reduceEqDiff, Nat.reduceLT, Nat.reduceLeDiff, Nat.reduceBEq, Nat.reduceBNe, reduceIte, Int.reduceEq, Int.reduceLT, Int.reduceLE, Int.reduceNe, Int.reduceToNat, ltNat, c2, w1]
      refine W_loopM (fun x : Nat × (Nat → α) => [(8, .int .i64 ((2 * bs + x.1 : Nat) : Int)), (7, .int .i64 (x.1 : Int)), (6, .int .i64 (bs : Int)), (0, .sl 25 q 0 n), (1, .int .i64 (n : Int)), (2, .fn c fi caps)]) (fun x mm => x.1 ≤ n ∧ Blk lt f g0 x.2 (2 * bs) x.1 n ∧ mm = RW m0 q 36 25 ((seg x.2 0 n).map enc)) (fun x => n - x.1) (0, g0)
        (by kernel_rfl) ⟨Nat.zero_le _, ⟨al_zero _, fun _ _ h => by simp only at h; omega, fun _ _ => rfl⟩, rfl⟩ ?_
      rintro ⟨p, g2⟩ mm ⟨q1, q2, rfl⟩
      simp only at q1 q2
      simp only [Nat.add_comm (2 * bs) p]
      have hpall : ∀ i, Al bs i → p ≤ i → i ≤ n → seg g2 i (min (i + bs) n) = ssort lt (seg f i (min (i + bs) n)) := fun i hi hpi hin => by
        rw [seg_ext (g := g0) fun x hx _ => q2.hi x (by omega)]
        exact j3 i hi hin
      have halp := al_half q2.al
      rcases Nat.lt_or_ge n (p + 2 * bs) with hp | hp
      · have c3 : decide (p + 2 * bs ≤ n) = false := by simpa using hp
        have w2 := addN p bs (by omega)
        simp -implicitDefEqProofs only [sims.1, fx.1, keeps.1, tick_on, calleeK, extractV, oneV, faddrK, nonnil, b_shr, b_shl, fieldK, Nat.reduceAdd, Nat.reduceMul, Nat.reduceSub, Nat.reduceEqDiff, Nat.reduceLT, Nat.reduceLeDiff, Nat.reduceBEq, Nat.reduceBNe, reduceIte, Int.reduceEq, Int.reduceLT, Int.reduceLE, Int.reduceNe, Int.reduceToNat, leNat, c3, w2]
        rcases Nat.lt_or_ge (p + bs) n with hm | hm
        · have c4 : decide (p + bs < n) = true := by simpa using hm
          simp -implicitDefEqProofs only [sims.1, fx.1, keeps.1, tick_on, calleeK, extractV, oneV, faddrK, nonnil, b_shr, b_shl, fieldK, Nat.reduceAdd, Nat.reduceMul, Nat.reduceSub, Nat.reduceEqDiff, Nat.reduceLT, Nat.reduceLeDiff, Nat.reduceBEq, Nat.reduceBNe, reduceIte, Int.reduceEq, Int.reduceLT, Int.reduceLE, Int.reduceNe, Int.reduceToNat, ltNat, c4]
          refine callD_allQ (symU ho hS hq c fi caps n hc (by omega) n g2 p (p + bs) n (by omega) (by omega) hm (Nat.le_refl _) ?_ ?_) en39 ?_
          · refine srf_seg ho ?_
            have := hpall p halp (Nat.le_refl _) (by omega)
            rw [show min (p + bs) n = p + bs by omega] at this
            rw [this]; exact ssort_srt ho _
          · refine srf_seg ho ?_
            have := hpall (p + bs) (al_add halp) (by omega) (by omega)
            rw [show min (p + bs + bs) n = n by omega] at this
            rw [this]; exact ssort_srt ho _
          rintro r ⟨g3, rfl, n1, n2⟩
          refine ⟨_, _, rfl, ?_⟩
          simp -implicitDefEqProofs only [sims.1, fx.1, keeps.1, tick_on, calleeK, extractV, oneV, faddrK, nonnil, b_shr, b_shl, fieldK, Nat.reduceAdd, Nat.reduceMul, Nat.reduceSub, Nat.reduceEqDiff, Nat.reduceLT, Nat.reduceLeDiff, Nat.reduceBEq, Nat.reduceBNe, reduceIte, Int.reduceEq, Int.reduceLT, Int.reduceLE, Int.reduceNe, Int.reduceToNat, w1']
          refine ⟨(2 * bs, g3), by kernel_rfl, ⟨by simp only; omega, by simp only; omega, ?_, rfl⟩, by simp only; omega⟩
          refine blk_last q2 (by omega) hp ?_ fun x hx => n2 x (.inl hx)
          have e1 := hpall p halp (Nat.le_refl _) (by omega)
          have e2 := hpall (p + bs) (al_add halp) (by omega) (by omega)
          rw [show min (p + bs) n = p + bs by omega] at e1
          rw [show min (p + bs + bs) n = n by omega] at e2
          rw [n1, e1, e2, seg_app f (show p ≤ p + bs by omega) (show p + bs ≤ n by omega), ssort_app ho]
        · have c4 : decide (p + bs < n) = false := by simpa using hm
          simp -implicitDefEqProofs only [sims.1, fx.1, keeps.1, tick_on, calleeK, extractV, oneV, faddrK, nonnil, b_shr, b_shl, fieldK, Nat.reduceAdd, Nat.reduceMul, Nat.reduceSub, Nat.reduceEqDiff, Nat.reduceLT, Nat.reduceLeDiff, Nat.reduceBEq, Nat.reduceBNe, reduceIte, Int.reduceEq, Int.reduceLT, Int.reduceLE, Int.reduceNe, Int.reduceToNat, ltNat, c4, w1']
          refine ⟨(2 * bs, g2), by kernel_rfl, ⟨by simp only; omega, by simp only; omega, ?_, rfl⟩, by simp only; omega⟩
          refine blk_last q2 (by omega) hp ?_ fun x _ => rfl
          have e1 := hpall p halp (Nat.le_refl _) q1
          rw [show min (p + bs) n = n by omega] at e1
          exact e1
      · have c3 : decide (p + 2 * bs ≤ n) = true := by simpa using hp
        have w2 := addN p bs (by omega)
        have w3 := addN (p + 2 * bs) (2 * bs) (by omega)
        rw [Nat.add_comm (p + 2 * bs) (2 * bs)] at w3
        simp -implicitDefEqProofs only [sims.1, fx.1, keeps.1, tick_on, calleeK, extractV, oneV, faddrK, nonnil, b_shr, b_shl, fieldK, Nat.reduceAdd, Nat.reduceMul, Nat.reduceSub, Nat.reduceEqDiff, Nat.reduceLT, Nat.reduceLeDiff, Nat.reduceBEq, Nat.reduceBNe, reduceIte, Int.reduceEq, Int.reduceLT, Int.reduceLE, Int.reduceNe, Int.reduceToNat, leNat, c3, w2]
        have f1 := hpall p halp (Nat.le_refl _) (by omega)
        have f2 := hpall (p + bs) (al_add halp) (by omega) (by omega)
        rw [show min (p + bs) n = p + bs by omega] at f1
        rw [show min (p + bs + bs) n = p + 2 * bs by omega] at f2
        refine callD_allQ (symU ho hS hq c fi caps n hc (by omega) n g2 p (p + bs) (p + 2 * bs) (by omega) (by omega) (by omega) hp ?_ ?_) en39 ?_
        · exact srf_seg ho (by rw [f1]; exact ssort_srt ho _)
        · exact srf_seg ho (by rw [f2]; exact ssort_srt ho _)
        rintro r ⟨g3, rfl, n1, n2⟩
        refine ⟨_, _, rfl, ?_⟩
        simp -implicitDefEqProofs only [sims.1, fx.1, keeps.1, tick_on, calleeK, extractV, oneV, faddrK, nonnil, b_shr, b_shl, fieldK, Nat.reduceAdd, Nat.reduceMul, Nat.reduceSub, Nat.reduceEqDiff, Nat.reduceLT, Nat.reduceLeDiff, Nat.reduceBEq, Nat.reduceBNe, reduceIte, Int.reduceEq, Int.reduceLT, Int.reduceLE, Int.reduceNe, Int.reduceToNat, w1, w3]
        refine ⟨(p + 2 * bs, g3), by kernel_rfl, ⟨hp, blk_next q2 (by omega) hp ?_ n2, rfl⟩, by simp only; omega⟩
        rw [n1, f1, f2, seg_app f (show p ≤ p + bs by omega) (show p + bs ≤ p + 2 * bs by omega), ssort_app ho]
    · have c2 : decide (bs < n) = false := by simpa using hb
      simp -implicitDefEqProofs only [sims.1, fx.1, keeps.1, tick_on, calleeK, extractV, oneV, faddrK, nonnil, b_shr, b_shl, fieldK, Nat.reduceAdd, Nat.reduceMul, Nat.reduceSub, Nat.reduceEqDiff, Nat.reduceLT, Nat.reduceLeDiff, Nat.reduceBEq, Nat.reduceBNe, reduceIte, Int.reduceEq, Int.reduceLT, Int.reduceLE, Int.reduceNe, Int.reduceToNat, ltNat, c2, rs36]
      refine ⟨g0, rfl, ?_⟩
      have := j3 0 (al_zero _) (Nat.zero_le _)
      rw [show min (0 + bs) n = n by omega] at this
      exact this
  · have c1 : decide (a + 20 ≤ n) = true := by simpa using h
    have w1 : IntKind.i64.wrap (((a + 20 : Nat) : Int) + 20) = ((a + 20 + 20 : Nat) : Int) := addN (a + 20) 20 (by omega)
    simp -implicitDefEqProofs only [sims.1, fx.1, keeps.1, tick_on, calleeK, extractV, oneV, faddrK, nonnil, b_shr, b_shl, fieldK, Nat.reduceAdd, Nat.reduceMul, Nat.reduceSub, Nat.reduceEqDiff, Nat.reduceLT, Nat.reduceLeDiff, Nat.reduceBEq, Nat.reduceBNe, reduceIte, Int.reduceEq, Int.reduceLT, Int.reduceLE, Int.reduceNe, Int.reduceToNat, leNat, c1]
    refine callD_allQ (snd38 ho hS hq c fi caps n hc g a (a + 20) (by omega) h (by omega)) en38 ?_
    rintro r ⟨g1, rfl, m1, m2⟩
    refine ⟨_, _, rfl, ?_⟩
    simp -implicitDefEqProofs only [sims.1, fx.1, keeps.1, tick_on, calleeK, extractV, oneV, faddrK, nonnil, b_shr, b_shl, fieldK, Nat.reduceAdd, Nat.reduceMul, Nat.reduceSub, Nat.reduceEqDiff, Nat.reduceLT, Nat.reduceLeDiff, Nat.reduceBEq, Nat.reduceBNe, reduceIte, Int.reduceEq, Int.reduceLT, Int.reduceLE, Int.reduceNe, Int.reduceToNat, w1]
    refine ⟨(a + 20, g1), by kernel_rfl, ⟨h, blk_next k2 (by omega) h (by rw [m1, seg_ext (g := f) fun x hx _ => k2.hi x hx]) m2, rfl⟩, by simp only; omega⟩

theorem snd30 (ho : Ord α lt) (hS : Elt true 25 enc ev) {m0 : Mem} {q : Nat} (hq : q < m0.length) (c : FuncId) (fi caps : List V) (n : Nat)
    (hc : Cmp Try.prog lt ev c fi caps fun g => RW m0 q 36 25 ((seg g 0 n).map enc)) (f : Nat → α) (hn : 4 * n + 100 < big) :
    Snd Try.prog 30 [.sl 25 q 0 n, .fn c fi caps] (RW m0 q 36 25 ((seg f 0 n).map enc)) fun r => ∃ f', r = .ret (.tup []) (RW m0 q 36 25 ((seg f' 0 n).map enc)) ∧ seg f' 0 n = ssort lt (seg f 0 n) := by
  refine Snd_of_W fol rfl rfl (by kernel_rfl) (by kernel_rfl) ?_
  simp -implicitDefEqProofs only [sims.1, fx.1, keeps.1, tick_on, calleeK, extractV, oneV, faddrK, nonnil, b_shr, b_shl, fieldK, Nat.reduceAdd, Nat.reduceMul, Nat.reduceSub, Nat.reduceEqDiff, Nat.reduceLT, Nat.reduceLeDiff, Nat.reduceBEq, Nat.reduceBNe, reduceIte, Int.reduceEq, Int.reduceLT, Int.reduceLE, Int.reduceNe, Int.reduceToNat]
  refine callD_allQ (snd36 ho hS hq c fi caps n hc f hn) en36 ?_
  rintro r ⟨f', rfl, h⟩
  refine ⟨_, _, rfl, ?_⟩
  simp -implicitDefEqProofs only [sims.1, fx.1, keeps.1, tick_on, calleeK, extractV, oneV, faddrK, nonnil, b_shr, b_shl, fieldK, Nat.reduceAdd, Nat.reduceMul, Nat.reduceSub, Nat.reduceEqDiff, Nat.reduceLT, Nat.reduceLeDiff, Nat.reduceBEq, Nat.reduceBNe, reduceIte, Int.reduceEq, Int.reduceLT, Int.reduceLE, Int.reduceNe, Int.reduceToNat, rs30]
  exact ⟨f', rfl, h⟩
end
end Go.Proofs.Ytggdnepfahknbaa
