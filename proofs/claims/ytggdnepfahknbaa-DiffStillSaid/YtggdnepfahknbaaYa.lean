/- Copies of actions, and whether two lists of them are the same. No condition. -/
import Derived.Test.YtggdnepfahknbaaKp
import Derived.Test.YtggdnepfahknbaaFx
import Derived.Test.YtggdnepfahknbaaSg0
import Derived.Test.YtggdnepfahknbaaAm10
namespace Go.Proofs.Ytggdnepfahknbaa
open Go Ab
set_option linter.unusedSimpArgs false
set_option linter.unusedVariables false
set_option maxRecDepth 20000

/-- An action: what it does, its field, its number. -/
structure Act where
  d : Int
  f : Int
  n : Nat
  deriving DecidableEq

def acC (a : Act) : List V := [.int .i8 a.d, .int .i8 a.f, .int .u64 (a.n : Int)]
def cpV (c : List Act) : V := .isl 3 (c.map acC)
def cpsV (l : List (List Act)) : V := .isl 1 (l.map fun c => [cpV c])
def lim : Nat := 281474976710656
def Small (l : List (List Act)) : Prop := l.length < lim ∧ ∀ c ∈ l, c.length < lim

theorem nfs_acs : ∀ c : List Act, nfss (c.map acC) = true
  | [] => rfl
  | a :: r => by simp [nfss, nfs, nf, acC, nfs_acs r]
theorem nf_cp (c : List Act) : nf (cpV c) = true := by
  simp only [nf, cpV]
  exact nfs_acs c
theorem nfs_cps : ∀ l : List (List Act), nfss (l.map fun c => [cpV c]) = true
  | [] => rfl
  | c :: r => by simp only [List.map_cons, nfss, nfs, nf_cp, Bool.and_self, nfs_cps r]
theorem nf_cps (l : List (List Act)) : nf (cpsV l) = true := by
  simp only [nf, cpsV]
  exact nfs_cps l
theorem len_cp (m : Mem) (c : List Act) : lenV Try.prog m 46 (cpV c) = some (.int .i64 (c.length : Int)) := by unfold cpV; rw [lni46, List.length_map]
theorem len_cps (m : Mem) (l : List (List Act)) : lenV Try.prog m 34 (cpsV l) = some (.int .i64 (l.length : Int)) := by unfold cpsV; rw [lni34, List.length_map]
theorem ia_cps {l : List (List Act)} {j : Nat} {k : IntKind} (h : j < l.length) : iaddrS 1 (cpsV l) (.int k (j : Int)) = some (.ip [cpV l[j]]) := iaddrS_isl (by simp [h])
theorem ia_cp {c : List Act} {j : Nat} {k : IntKind} (h : j < c.length) : iaddrS 3 (cpV c) (.int k (j : Int)) = some (.ip (acC c[j])) := iaddrS_isl (by simp [h])
theorem at_cps {l : List (List Act)} {j : Nat} (h : j < l.length) : partK false 1 [cpV l[j]] 0 = some (cpV l[j]) := rfl

def wfA (a : Act) : Prop := (Lit.int .i8 a.d).wf = true ∧ (Lit.int .i8 a.f).wf = true ∧ (Lit.int .u64 (a.n : Int)).wf = true
def wfC (c : List Act) : Prop := c.length < lim ∧ ∀ a ∈ c, wfA a
def wfL (l : List (List Act)) : Prop := l.length < lim ∧ ∀ c ∈ l, wfC c
theorem wfL.small {l : List (List Act)} (h : wfL l) : Small l := ⟨h.1, fun c hc => (h.2 c hc).1⟩

theorem sh61 : shp Try.prog 9 61 = some [.ti .i8, .ti .i8, .ti .u64] := by kernel_rfl
theorem key61 : (Try.prog.keyTypeAt 8 61 && (!Try.prog.eqGuardType Try.prog.depth 61 && isAggT Try.prog 61)) = true := by kernel_rfl
theorem fit_ac (a : Act) (h : wfA a) : fitV [.ti .i8, .ti .i8, .ti .u64] (acC a) [.int .i8 a.d, .int .i8 a.f, .int .u64 (a.n : Int)] :=
  ⟨⟨_, rfl, rfl, h.1, rfl⟩, ⟨_, rfl, rfl, h.2.1, rfl⟩, ⟨_, rfl, rfl, h.2.2, rfl⟩, rfl, rfl⟩
theorem eq61 (a b : Act) (ha : wfA a) (hb : wfA b) : eqV Try.prog 61 (.agg (acC a)) (.agg (acC b)) = some (decide (a = b)) := by
  simp only [eqV, key61, cond_true, litsV_fit sh61 (fit_ac a ha), litsV_fit sh61 (fit_ac b hb)]
  congr 1
  rw [Bool.eq_iff_iff, litsEq_iff, decide_eq_true_iff]
  obtain ⟨d, f, n⟩ := a
  obtain ⟨d', f', n'⟩ := b
  simp
  omega
theorem part_ac (a : Act) : partK true 3 (acC a) 0 = some (.agg (acC a)) := partK_row rfl


theorem list_eq {α : Type} (a b : List α) (hl : a.length = b.length) (h : ∀ i (h1 : i < a.length) (h2 : i < b.length), a[i] = b[i]) : a = b := List.ext_getElem hl h

theorem ans29 (a b : List Act) (ha : wfC a) (hb : wfC b) : Ans Try.prog 29 [cpV a, cpV b] (.bool (decide (a = b))) := by
  refine Snd_of_W fol rfl rfl (by kernel_rfl) (by kernel_rfl) ?_
  have hla : a.length < 281474976710656 := ha.1
  cases e0 : decide (a.length = b.length)
  · simp -implicitDefEqProofs only [sims.1, fx.1, keeps.1, tick_on, calleeK, extractV, oneV, faddrK, nonnil, b_shr, b_shl, fieldK, Nat.reduceAdd, Nat.reduceMul, Nat.reduceSub, Nat.reduceEqDiff, Nat.reduceLT, Nat.reduceLeDiff, Nat.reduceBEq, Nat.reduceBNe, reduceIte, Int.reduceEq, Int.reduceLT, Int.reduceLE, Int.reduceNe, Int.reduceToNat, len_cp, eqNat, e0]
    refine ans_ret ?_
    have : a ≠ b := fun h => by simp [h] at e0
    simp [this]
  have hl : a.length = b.length := by simpa using e0
  simp -implicitDefEqProofs only [sims.1, fx.1, keeps.1, tick_on, calleeK, extractV, oneV, faddrK, nonnil, b_shr, b_shl, fieldK, Nat.reduceAdd, Nat.reduceMul, Nat.reduceSub, Nat.reduceEqDiff, Nat.reduceLT, Nat.reduceLeDiff, Nat.reduceBEq, Nat.reduceBNe, reduceIte, Int.reduceEq, Int.reduceLT, Int.reduceLE, Int.reduceNe, Int.reduceToNat, len_cp, eqNat, e0]
  refine W_loop (fun j : Nat => (mkEnv [(12, .int .i64 (a.length : Int)), (0, cpV a), (1, cpV b), (13, .int .i64 (j : Int))], []))
    (fun j => j ≤ a.length ∧ ∀ i (h1 : i < a.length) (h2 : i < b.length), i < j → a[i] = b[i]) (fun j => a.length + 1 - j) 0
    (canon_nil [.int .i64 (a.length : Int), cpV a, cpV b, .int .i64 0] (by kernel_rfl) (nfs_cons rfl (nfs_cons (nf_cp a) (nfs_cons (nf_cp b) rfl))) (by kernel_rfl)) ⟨by omega, by omega⟩ ?_
  rintro j ⟨h1, h2⟩
  rcases Nat.lt_or_ge j a.length with hj | hj
  · have c1 : decide (j < a.length) = true := by simpa using hj
    have hj2 : j < b.length := by omega
    have w2 := add1N j (by omega)
    have q := eq61 a[j] b[j] (ha.2 _ (List.getElem_mem hj)) (hb.2 _ (List.getElem_mem hj2))
    simp -implicitDefEqProofs only [sims.1, fx.1, keeps.1, tick_on, calleeK, extractV, oneV, faddrK, nonnil, b_shr, b_shl, fieldK, Nat.reduceAdd, Nat.reduceMul, Nat.reduceSub, Nat.reduceEqDiff, Nat.reduceLT, Nat.reduceLeDiff, Nat.reduceBEq, Nat.reduceBNe, reduceIte, Int.reduceEq, Int.reduceLT, Int.reduceLE, Int.reduceNe, Int.reduceToNat, ltNat, c1]
    refine w_quiet ?_
    simp -implicitDefEqProofs only [sims.1, fx.1, keeps.1, tick_on, calleeK, extractV, oneV, faddrK, nonnil, b_shr, b_shl, fieldK, Nat.reduceAdd, Nat.reduceMul, Nat.reduceSub, Nat.reduceEqDiff, Nat.reduceLT, Nat.reduceLeDiff, Nat.reduceBEq, Nat.reduceBNe, reduceIte, Int.reduceEq, Int.reduceLT, Int.reduceLE, Int.reduceNe, Int.reduceToNat, ia_cp hj, ia_cp hj2, part_ac, q]
    cases e1 : decide (a[j] = b[j])
    · simp -implicitDefEqProofs only [sims.1, fx.1, keeps.1, tick_on, calleeK, extractV, oneV, faddrK, nonnil, b_shr, b_shl, fieldK, Nat.reduceAdd, Nat.reduceMul, Nat.reduceSub, Nat.reduceEqDiff, Nat.reduceLT, Nat.reduceLeDiff, Nat.reduceBEq, Nat.reduceBNe, reduceIte, Int.reduceEq, Int.reduceLT, Int.reduceLE, Int.reduceNe, Int.reduceToNat, e1]
      refine ans_ret ?_
      have : a ≠ b := fun h => by
        subst h
        simp at e1
      simp [this]
    · simp -implicitDefEqProofs only [sims.1, fx.1, keeps.1, tick_on, calleeK, extractV, oneV, faddrK, nonnil, b_shr, b_shl, fieldK, Nat.reduceAdd, Nat.reduceMul, Nat.reduceSub, Nat.reduceEqDiff, Nat.reduceLT, Nat.reduceLeDiff, Nat.reduceBEq, Nat.reduceBNe, reduceIte, Int.reduceEq, Int.reduceLT, Int.reduceLE, Int.reduceNe, Int.reduceToNat, e1, w2]
      refine ⟨j + 1, canon_nil [.int .i64 (a.length : Int), cpV a, cpV b, .int .i64 ((j + 1 : Nat) : Int)] (by kernel_rfl) (nfs_cons rfl (nfs_cons (nf_cp a) (nfs_cons (nf_cp b) rfl))) (by kernel_rfl), ⟨by omega, fun i k1 k2 k3 => ?_⟩, by omega⟩
      rcases Nat.lt_or_ge i j with h3 | h3
      · exact h2 i k1 k2 h3
      · have : i = j := by omega
        subst this
        simpa using e1
  · have c1 : decide (j < a.length) = false := by simp; omega
    simp -implicitDefEqProofs only [sims.1, fx.1, keeps.1, tick_on, calleeK, extractV, oneV, faddrK, nonnil, b_shr, b_shl, fieldK, Nat.reduceAdd, Nat.reduceMul, Nat.reduceSub, Nat.reduceEqDiff, Nat.reduceLT, Nat.reduceLeDiff, Nat.reduceBEq, Nat.reduceBNe, reduceIte, Int.reduceEq, Int.reduceLT, Int.reduceLE, Int.reduceNe, Int.reduceToNat, ltNat, c1]
    refine ans_ret ?_
    have : a = b := list_eq a b hl fun i k1 k2 => h2 i k1 k2 (by omega)
    simp [this]

theorem nfs_cp2 (a b : List Act) : nfs [cpV a, cpV b] = true := nfs_cons (nf_cp a) (nfs_cons (nf_cp b) rfl)
theorem nfs_cps2 (a b : List (List Act)) : nfs [cpsV a, cpsV b] = true := nfs_cons (nf_cps a) (nfs_cons (nf_cps b) rfl)

theorem ans28 (a b : List Act) (ha : wfC a) (hb : wfC b) : Ans Try.prog 28 [cpV a, cpV b] (.bool (decide (a = b))) := by
  refine Snd_of_W fol rfl rfl (by kernel_rfl) (by kernel_rfl) ?_
  simp -implicitDefEqProofs only [sims.1, fx.1, keeps.1, tick_on, calleeK, extractV, oneV, faddrK, nonnil, b_shr, b_shl, fieldK, Nat.reduceAdd, Nat.reduceMul, Nat.reduceSub, Nat.reduceEqDiff, Nat.reduceLT, Nat.reduceLeDiff, Nat.reduceBEq, Nat.reduceBNe, reduceIte, Int.reduceEq, Int.reduceLT, Int.reduceLE, Int.reduceNe, Int.reduceToNat]
  refine callD_ans (ans29 a b ha hb) en29 (nfs_cp2 a b) rfl ?_
  simp -implicitDefEqProofs only [sims.1, fx.1, keeps.1, tick_on, calleeK, extractV, oneV, faddrK, nonnil, b_shr, b_shl, fieldK, Nat.reduceAdd, Nat.reduceMul, Nat.reduceSub, Nat.reduceEqDiff, Nat.reduceLT, Nat.reduceLeDiff, Nat.reduceBEq, Nat.reduceBNe, reduceIte, Int.reduceEq, Int.reduceLT, Int.reduceLE, Int.reduceNe, Int.reduceToNat]
  exact ans_ret rfl

theorem ans27 (a b : List (List Act)) (ha : wfL a) (hb : wfL b) : Ans Try.prog 27 [cpsV a, cpsV b, .fn 28 [] []] (.bool (decide (a = b))) := by
  refine Snd_of_W fol rfl rfl (by kernel_rfl) (by kernel_rfl) ?_
  have hla : a.length < 281474976710656 := ha.1
  cases e0 : decide (a.length = b.length)
  · simp -implicitDefEqProofs only [sims.1, fx.1, keeps.1, tick_on, calleeK, extractV, oneV, faddrK, nonnil, b_shr, b_shl, fieldK, Nat.reduceAdd, Nat.reduceMul, Nat.reduceSub, Nat.reduceEqDiff, Nat.reduceLT, Nat.reduceLeDiff, Nat.reduceBEq, Nat.reduceBNe, reduceIte, Int.reduceEq, Int.reduceLT, Int.reduceLE, Int.reduceNe, Int.reduceToNat, len_cps, eqNat, e0]
    refine ans_ret ?_
    have : a ≠ b := fun h => by simp [h] at e0
    simp [this]
  have hl : a.length = b.length := by simpa using e0
  simp -implicitDefEqProofs only [sims.1, fx.1, keeps.1, tick_on, calleeK, extractV, oneV, faddrK, nonnil, b_shr, b_shl, fieldK, Nat.reduceAdd, Nat.reduceMul, Nat.reduceSub, Nat.reduceEqDiff, Nat.reduceLT, Nat.reduceLeDiff, Nat.reduceBEq, Nat.reduceBNe, reduceIte, Int.reduceEq, Int.reduceLT, Int.reduceLE, Int.reduceNe, Int.reduceToNat, len_cps, eqNat, e0]
  refine W_loop (fun j : Nat => (mkEnv [(16, .int .i64 (a.length : Int)), (15, cpsV a), (1, cpsV b), (2, .fn 28 [] []), (17, .int .i64 (j : Int))], []))
    (fun j => j ≤ a.length ∧ ∀ i (h1 : i < a.length) (h2 : i < b.length), i < j → a[i] = b[i]) (fun j => a.length + 1 - j) 0
    (canon_nil [.int .i64 (a.length : Int), cpsV a, cpsV b, .fn 28 [] [], .int .i64 0] (by kernel_rfl) (nfs_cons rfl (nfs_cons (nf_cps a) (nfs_cons (nf_cps b) rfl))) (by kernel_rfl)) ⟨by omega, by omega⟩ ?_
  rintro j ⟨h1, h2⟩
  rcases Nat.lt_or_ge j a.length with hj | hj
  · have c1 : decide (j < a.length) = true := by simpa using hj
    have hj2 : j < b.length := by omega
    have w2 := add1N j (by omega)
    simp -implicitDefEqProofs only [sims.1, fx.1, keeps.1, tick_on, calleeK, extractV, oneV, faddrK, nonnil, b_shr, b_shl, fieldK, Nat.reduceAdd, Nat.reduceMul, Nat.reduceSub, Nat.reduceEqDiff, Nat.reduceLT, Nat.reduceLeDiff, Nat.reduceBEq, Nat.reduceBNe, reduceIte, Int.reduceEq, Int.reduceLT, Int.reduceLE, Int.reduceNe, Int.reduceToNat, ltNat, c1, ia_cps hj, ia_cps hj2]
    refine callD_ans (ans28 a[j] b[j] (ha.2 _ (List.getElem_mem hj)) (hb.2 _ (List.getElem_mem hj2))) en28 (nfs_cp2 _ _) rfl ?_
    cases e1 : decide (a[j] = b[j])
    · simp -implicitDefEqProofs only [sims.1, fx.1, keeps.1, tick_on, calleeK, extractV, oneV, faddrK, nonnil, b_shr, b_shl, fieldK, Nat.reduceAdd, Nat.reduceMul, Nat.reduceSub, Nat.reduceEqDiff, Nat.reduceLT, Nat.reduceLeDiff, Nat.reduceBEq, Nat.reduceBNe, reduceIte, Int.reduceEq, Int.reduceLT, Int.reduceLE, Int.reduceNe, Int.reduceToNat, e1]
      refine ans_ret ?_
      have : a ≠ b := fun h => by
        subst h
        simp at e1
      simp [this]
    · simp -implicitDefEqProofs only [sims.1, fx.1, keeps.1, tick_on, calleeK, extractV, oneV, faddrK, nonnil, b_shr, b_shl, fieldK, Nat.reduceAdd, Nat.reduceMul, Nat.reduceSub, Nat.reduceEqDiff, Nat.reduceLT, Nat.reduceLeDiff, Nat.reduceBEq, Nat.reduceBNe, reduceIte, Int.reduceEq, Int.reduceLT, Int.reduceLE, Int.reduceNe, Int.reduceToNat, e1, w2]
      refine ⟨j + 1, canon_nil [.int .i64 (a.length : Int), cpsV a, cpsV b, .fn 28 [] [], .int .i64 ((j + 1 : Nat) : Int)] (by kernel_rfl) (nfs_cons rfl (nfs_cons (nf_cps a) (nfs_cons (nf_cps b) rfl))) (by kernel_rfl), ⟨by omega, fun i k1 k2 k3 => ?_⟩, by omega⟩
      rcases Nat.lt_or_ge i j with h3 | h3
      · exact h2 i k1 k2 h3
      · have : i = j := by omega
        subst this
        simpa using e1
  · have c1 : decide (j < a.length) = false := by simp; omega
    simp -implicitDefEqProofs only [sims.1, fx.1, keeps.1, tick_on, calleeK, extractV, oneV, faddrK, nonnil, b_shr, b_shl, fieldK, Nat.reduceAdd, Nat.reduceMul, Nat.reduceSub, Nat.reduceEqDiff, Nat.reduceLT, Nat.reduceLeDiff, Nat.reduceBEq, Nat.reduceBNe, reduceIte, Int.reduceEq, Int.reduceLT, Int.reduceLE, Int.reduceNe, Int.reduceToNat, ltNat, c1]
    refine ans_ret ?_
    have : a = b := list_eq a b hl fun i k1 k2 => h2 i k1 k2 (by omega)
    simp [this]

theorem ans15 (a b : List (List Act)) (ha : wfL a) (hb : wfL b) : Ans Try.prog 15 [cpsV a, cpsV b] (.bool (decide (a = b))) := by
  refine Snd_of_W fol rfl rfl (by kernel_rfl) (by kernel_rfl) ?_
  simp -implicitDefEqProofs only [sims.1, fx.1, keeps.1, tick_on, calleeK, extractV, oneV, faddrK, nonnil, b_shr, b_shl, fieldK, Nat.reduceAdd, Nat.reduceMul, Nat.reduceSub, Nat.reduceEqDiff, Nat.reduceLT, Nat.reduceLeDiff, Nat.reduceBEq, Nat.reduceBNe, reduceIte, Int.reduceEq, Int.reduceLT, Int.reduceLE, Int.reduceNe, Int.reduceToNat]
  refine callD_ans (ans27 a b ha hb) en27 (nfs_cons (nf_cps a) (nfs_cons (nf_cps b) rfl)) rfl ?_
  simp -implicitDefEqProofs only [sims.1, fx.1, keeps.1, tick_on, calleeK, extractV, oneV, faddrK, nonnil, b_shr, b_shl, fieldK, Nat.reduceAdd, Nat.reduceMul, Nat.reduceSub, Nat.reduceEqDiff, Nat.reduceLT, Nat.reduceLeDiff, Nat.reduceBEq, Nat.reduceBNe, reduceIte, Int.reduceEq, Int.reduceLT, Int.reduceLE, Int.reduceNe, Int.reduceToNat]
  exact ans_ret rfl
set_option maxHeartbeats 1000000 in
theorem ans33 (a b : List (List Act)) (ha : wfL a) (hb : wfL b) : Ans Try.prog 33 [cpsV a, cpsV b] (.bool (decide (a = b))) := by
  refine Snd_of_W fol rfl rfl (by kernel_rfl) (by kernel_rfl) ?_
  have hla : a.length < 281474976710656 := ha.1
  cases e0 : decide (a.length = b.length)
  · simp -implicitDefEqProofs only [sims.1, fx.1, keeps.1, tick_on, calleeK, extractV, oneV, faddrK, nonnil, b_shr, b_shl, fieldK, Nat.reduceAdd, Nat.reduceMul, Nat.reduceSub, Nat.reduceEqDiff, Nat.reduceLT, Nat.reduceLeDiff, Nat.reduceBEq, Nat.reduceBNe, reduceIte, Int.reduceEq, Int.reduceLT, Int.reduceLE, Int.reduceNe, Int.reduceToNat, len_cps, eqNat, e0]
    refine ans_ret ?_
    have : a ≠ b := fun h => by simp [h] at e0
    simp [this]
  have hl : a.length = b.length := by simpa using e0
  simp -implicitDefEqProofs only [sims.1, fx.1, keeps.1, tick_on, calleeK, extractV, oneV, faddrK, nonnil, b_shr, b_shl, fieldK, Nat.reduceAdd, Nat.reduceMul, Nat.reduceSub, Nat.reduceEqDiff, Nat.reduceLT, Nat.reduceLeDiff, Nat.reduceBEq, Nat.reduceBNe, reduceIte, Int.reduceEq, Int.reduceLT, Int.reduceLE, Int.reduceNe, Int.reduceToNat, len_cps, eqNat, e0]
  refine W_loop (fun j : Nat => (mkEnv [(0, cpsV a), (1, cpsV b), (5, .int .i64 (j : Int))], []))
    (fun j => j ≤ a.length ∧ ∀ i (h1 : i < a.length) (h2 : i < b.length), i < j → a[i] = b[i]) (fun j => a.length + 1 - j) 0
    (canon_nil [cpsV a, cpsV b, .int .i64 0] (by kernel_rfl) (nfs_cons (nf_cps a) (nfs_cons (nf_cps b) rfl)) (by kernel_rfl)) ⟨by omega, by omega⟩ ?_
  rintro j ⟨h1, h2⟩
  rcases Nat.lt_or_ge j a.length with hj | hj
  · have c1 : decide (j < a.length) = true := by simpa using hj
    have hj2 : j < b.length := by omega
    have w2 := add1N j (by omega)
    have wa := ha.2 _ (List.getElem_mem hj)
    have wb := hb.2 _ (List.getElem_mem hj2)
    have hca : a[j].length < 281474976710656 := wa.1
    simp -implicitDefEqProofs only [sims.1, fx.1, keeps.1, tick_on, calleeK, extractV, oneV, faddrK, nonnil, b_shr, b_shl, fieldK, Nat.reduceAdd, Nat.reduceMul, Nat.reduceSub, Nat.reduceEqDiff, Nat.reduceLT, Nat.reduceLeDiff, Nat.reduceBEq, Nat.reduceBNe, reduceIte, Int.reduceEq, Int.reduceLT, Int.reduceLE, Int.reduceNe, Int.reduceToNat, len_cps, ltNat, c1]
    refine w_quiet ?_
    cases e1 : decide (a[j].length = b[j].length)
    · simp -implicitDefEqProofs only [sims.1, fx.1, keeps.1, tick_on, calleeK, extractV, oneV, faddrK, nonnil, b_shr, b_shl, fieldK, Nat.reduceAdd, Nat.reduceMul, Nat.reduceSub, Nat.reduceEqDiff, Nat.reduceLT, Nat.reduceLeDiff, Nat.reduceBEq, Nat.reduceBNe, reduceIte, Int.reduceEq, Int.reduceLT, Int.reduceLE, Int.reduceNe, Int.reduceToNat, ia_cps hj, ia_cps hj2, len_cp, eqNat, e1]
      refine ans_ret ?_
      have : a ≠ b := fun h => by
        subst h
        simp at e1
      simp [this]
    have hl2 : a[j].length = b[j].length := by simpa using e1
    simp -implicitDefEqProofs only [sims.1, fx.1, keeps.1, tick_on, calleeK, extractV, oneV, faddrK, nonnil, b_shr, b_shl, fieldK, Nat.reduceAdd, Nat.reduceMul, Nat.reduceSub, Nat.reduceEqDiff, Nat.reduceLT, Nat.reduceLeDiff, Nat.reduceBEq, Nat.reduceBNe, reduceIte, Int.reduceEq, Int.reduceLT, Int.reduceLE, Int.reduceNe, Int.reduceToNat, ia_cps hj, ia_cps hj2, len_cp, eqNat, e1]
    refine W_loop (fun k : Nat => (mkEnv [(6, .int .i64 (k : Int)), (5, .int .i64 (j : Int)), (0, cpsV a), (1, cpsV b)], []))
      (fun k => k ≤ a[j].length ∧ ∀ i (h1 : i < a[j].length) (h2 : i < b[j].length), i < k → a[j][i] = b[j][i]) (fun k => a[j].length + 1 - k) 0
      (canon_nil [.int .i64 0, .int .i64 (j : Int), cpsV a, cpsV b] (by kernel_rfl) (nfs_cons rfl (nfs_cons rfl (nfs_cons (nf_cps a) (nfs_cons (nf_cps b) rfl)))) (by kernel_rfl)) ⟨by omega, by omega⟩ ?_
    rintro k ⟨g1, g2⟩
    rcases Nat.lt_or_ge k a[j].length with hk | hk
    · have c2 : decide (k < a[j].length) = true := by simpa using hk
      have hk2 : k < b[j].length := by omega
      have w3 := add1N k (by omega)
      have q := eq61 a[j][k] b[j][k] (wa.2 _ (List.getElem_mem hk)) (wb.2 _ (List.getElem_mem hk2))
      simp -implicitDefEqProofs only [sims.1, fx.1, keeps.1, tick_on, calleeK, extractV, oneV, faddrK, nonnil, b_shr, b_shl, fieldK, Nat.reduceAdd, Nat.reduceMul, Nat.reduceSub, Nat.reduceEqDiff, Nat.reduceLT, Nat.reduceLeDiff, Nat.reduceBEq, Nat.reduceBNe, reduceIte, Int.reduceEq, Int.reduceLT, Int.reduceLE, Int.reduceNe, Int.reduceToNat, ia_cps hj, ia_cps hj2, len_cp, ltNat, c2]
      refine w_quiet ?_
      simp -implicitDefEqProofs only [sims.1, fx.1, keeps.1, tick_on, calleeK, extractV, oneV, faddrK, nonnil, b_shr, b_shl, fieldK, Nat.reduceAdd, Nat.reduceMul, Nat.reduceSub, Nat.reduceEqDiff, Nat.reduceLT, Nat.reduceLeDiff, Nat.reduceBEq, Nat.reduceBNe, reduceIte, Int.reduceEq, Int.reduceLT, Int.reduceLE, Int.reduceNe, Int.reduceToNat, ia_cps hj, ia_cps hj2, ia_cp hk, ia_cp hk2, part_ac, q]
      cases e2 : decide (a[j][k] = b[j][k])
      · simp -implicitDefEqProofs only [sims.1, fx.1, keeps.1, tick_on, calleeK, extractV, oneV, faddrK, nonnil, b_shr, b_shl, fieldK, Nat.reduceAdd, Nat.reduceMul, Nat.reduceSub, Nat.reduceEqDiff, Nat.reduceLT, Nat.reduceLeDiff, Nat.reduceBEq, Nat.reduceBNe, reduceIte, Int.reduceEq, Int.reduceLT, Int.reduceLE, Int.reduceNe, Int.reduceToNat, e2]
        refine ans_ret ?_
        have : a ≠ b := fun h => by
          subst h
          simp at e2
        simp [this]
      · simp -implicitDefEqProofs only [sims.1, fx.1, keeps.1, tick_on, calleeK, extractV, oneV, faddrK, nonnil, b_shr, b_shl, fieldK, Nat.reduceAdd, Nat.reduceMul, Nat.reduceSub, Nat.reduceEqDiff, Nat.reduceLT, Nat.reduceLeDiff, Nat.reduceBEq, Nat.reduceBNe, reduceIte, Int.reduceEq, Int.reduceLT, Int.reduceLE, Int.reduceNe, Int.reduceToNat, e2, w3]
        refine ⟨k + 1, canon_nil [.int .i64 ((k + 1 : Nat) : Int), .int .i64 (j : Int), cpsV a, cpsV b] (by kernel_rfl) (nfs_cons rfl (nfs_cons rfl (nfs_cons (nf_cps a) (nfs_cons (nf_cps b) rfl)))) (by kernel_rfl), ⟨by omega, fun i k1 k2 k3 => ?_⟩, by omega⟩
        rcases Nat.lt_or_ge i k with h3 | h3
        · exact g2 i k1 k2 h3
        · have : i = k := by omega
          subst this
          simpa using e2
    · have c2 : decide (k < a[j].length) = false := by simp; omega
      simp -implicitDefEqProofs only [sims.1, fx.1, keeps.1, tick_on, calleeK, extractV, oneV, faddrK, nonnil, b_shr, b_shl, fieldK, Nat.reduceAdd, Nat.reduceMul, Nat.reduceSub, Nat.reduceEqDiff, Nat.reduceLT, Nat.reduceLeDiff, Nat.reduceBEq, Nat.reduceBNe, reduceIte, Int.reduceEq, Int.reduceLT, Int.reduceLE, Int.reduceNe, Int.reduceToNat, ia_cps hj, len_cp, ltNat, c2, w2]
      have same : a[j] = b[j] := list_eq _ _ hl2 fun i k1 k2 => g2 i k1 k2 (by omega)
      refine ⟨j + 1, canon_nil [cpsV a, cpsV b, .int .i64 ((j + 1 : Nat) : Int)] (by kernel_rfl) (nfs_cons (nf_cps a) (nfs_cons (nf_cps b) rfl)) (by kernel_rfl), ⟨by omega, fun i k1 k2 k3 => ?_⟩, by omega⟩
      rcases Nat.lt_or_ge i j with h3 | h3
      · exact h2 i k1 k2 h3
      · have : i = j := by omega
        subst this
        exact same
  · have c1 : decide (j < a.length) = false := by simp; omega
    simp -implicitDefEqProofs only [sims.1, fx.1, keeps.1, tick_on, calleeK, extractV, oneV, faddrK, nonnil, b_shr, b_shl, fieldK, Nat.reduceAdd, Nat.reduceMul, Nat.reduceSub, Nat.reduceEqDiff, Nat.reduceLT, Nat.reduceLeDiff, Nat.reduceBEq, Nat.reduceBNe, reduceIte, Int.reduceEq, Int.reduceLT, Int.reduceLE, Int.reduceNe, Int.reduceToNat, len_cps, ltNat, c1]
    refine ans_ret ?_
    have : a = b := list_eq a b hl fun i k1 k2 => h2 i k1 k2 (by omega)
    simp [this]
set_option maxHeartbeats 1000000 in
theorem ans34 (a b : List (List Act)) (ha : wfL a) (hb : wfL b) : Ans Try.prog 34 [cpsV a, cpsV b] (.bool (decide (a = b))) := by
  refine Snd_of_W fol rfl rfl (by kernel_rfl) (by kernel_rfl) ?_
  have hla : a.length < 281474976710656 := ha.1
  cases e0 : decide (a.length = b.length)
  · simp -implicitDefEqProofs only [sims.1, fx.1, keeps.1, tick_on, calleeK, extractV, oneV, faddrK, nonnil, b_shr, b_shl, fieldK, Nat.reduceAdd, Nat.reduceMul, Nat.reduceSub, Nat.reduceEqDiff, Nat.reduceLT, Nat.reduceLeDiff, Nat.reduceBEq, Nat.reduceBNe, reduceIte, Int.reduceEq, Int.reduceLT, Int.reduceLE, Int.reduceNe, Int.reduceToNat, len_cps, eqNat, e0]
    refine ans_ret ?_
    have : a ≠ b := fun h => by simp [h] at e0
    simp [this]
  have hl : a.length = b.length := by simpa using e0
  simp -implicitDefEqProofs only [sims.1, fx.1, keeps.1, tick_on, calleeK, extractV, oneV, faddrK, nonnil, b_shr, b_shl, fieldK, Nat.reduceAdd, Nat.reduceMul, Nat.reduceSub, Nat.reduceEqDiff, Nat.reduceLT, Nat.reduceLeDiff, Nat.reduceBEq, Nat.reduceBNe, reduceIte, Int.reduceEq, Int.reduceLT, Int.reduceLE, Int.reduceNe, Int.reduceToNat, len_cps, eqNat, e0]
  refine W_loop (fun j : Nat => (mkEnv [(0, cpsV a), (1, cpsV b), (5, .int .i64 (j : Int))], []))
    (fun j => j ≤ a.length ∧ ∀ i (h1 : i < a.length) (h2 : i < b.length), i < j → a[i] = b[i]) (fun j => a.length + 1 - j) 0
    (canon_nil [cpsV a, cpsV b, .int .i64 0] (by kernel_rfl) (nfs_cons (nf_cps a) (nfs_cons (nf_cps b) rfl)) (by kernel_rfl)) ⟨by omega, by omega⟩ ?_
  rintro j ⟨h1, h2⟩
  rcases Nat.lt_or_ge j a.length with hj | hj
  · have c1 : decide (j < a.length) = true := by simpa using hj
    have hj2 : j < b.length := by omega
    have w2 := add1N j (by omega)
    have wa := ha.2 _ (List.getElem_mem hj)
    have wb := hb.2 _ (List.getElem_mem hj2)
    have hca : a[j].length < 281474976710656 := wa.1
    simp -implicitDefEqProofs only [sims.1, fx.1, keeps.1, tick_on, calleeK, extractV, oneV, faddrK, nonnil, b_shr, b_shl, fieldK, Nat.reduceAdd, Nat.reduceMul, Nat.reduceSub, Nat.reduceEqDiff, Nat.reduceLT, Nat.reduceLeDiff, Nat.reduceBEq, Nat.reduceBNe, reduceIte, Int.reduceEq, Int.reduceLT, Int.reduceLE, Int.reduceNe, Int.reduceToNat, len_cps, ltNat, c1]
    refine w_quiet ?_
    cases e1 : decide (a[j].length = b[j].length)
    · simp -implicitDefEqProofs only [sims.1, fx.1, keeps.1, tick_on, calleeK, extractV, oneV, faddrK, nonnil, b_shr, b_shl, fieldK, Nat.reduceAdd, Nat.reduceMul, Nat.reduceSub, Nat.reduceEqDiff, Nat.reduceLT, Nat.reduceLeDiff, Nat.reduceBEq, Nat.reduceBNe, reduceIte, Int.reduceEq, Int.reduceLT, Int.reduceLE, Int.reduceNe, Int.reduceToNat, ia_cps hj, ia_cps hj2, len_cp, eqNat, e1]
      refine ans_ret ?_
      have : a ≠ b := fun h => by
        subst h
        simp at e1
      simp [this]
    have hl2 : a[j].length = b[j].length := by simpa using e1
    simp -implicitDefEqProofs only [sims.1, fx.1, keeps.1, tick_on, calleeK, extractV, oneV, faddrK, nonnil, b_shr, b_shl, fieldK, Nat.reduceAdd, Nat.reduceMul, Nat.reduceSub, Nat.reduceEqDiff, Nat.reduceLT, Nat.reduceLeDiff, Nat.reduceBEq, Nat.reduceBNe, reduceIte, Int.reduceEq, Int.reduceLT, Int.reduceLE, Int.reduceNe, Int.reduceToNat, ia_cps hj, ia_cps hj2, len_cp, eqNat, e1]
    refine W_loop (fun k : Nat => (mkEnv [(6, .int .i64 (k : Int)), (5, .int .i64 (j : Int)), (0, cpsV a), (1, cpsV b)], []))
      (fun k => k ≤ a[j].length ∧ ∀ i (h1 : i < a[j].length) (h2 : i < b[j].length), i < k → a[j][i] = b[j][i]) (fun k => a[j].length + 1 - k) 0
      (canon_nil [.int .i64 0, .int .i64 (j : Int), cpsV a, cpsV b] (by kernel_rfl) (nfs_cons rfl (nfs_cons rfl (nfs_cons (nf_cps a) (nfs_cons (nf_cps b) rfl)))) (by kernel_rfl)) ⟨by omega, by omega⟩ ?_
    rintro k ⟨g1, g2⟩
    rcases Nat.lt_or_ge k a[j].length with hk | hk
    · have c2 : decide (k < a[j].length) = true := by simpa using hk
      have hk2 : k < b[j].length := by omega
      have w3 := add1N k (by omega)
      have q := eq61 a[j][k] b[j][k] (wa.2 _ (List.getElem_mem hk)) (wb.2 _ (List.getElem_mem hk2))
      simp -implicitDefEqProofs only [sims.1, fx.1, keeps.1, tick_on, calleeK, extractV, oneV, faddrK, nonnil, b_shr, b_shl, fieldK, Nat.reduceAdd, Nat.reduceMul, Nat.reduceSub, Nat.reduceEqDiff, Nat.reduceLT, Nat.reduceLeDiff, Nat.reduceBEq, Nat.reduceBNe, reduceIte, Int.reduceEq, Int.reduceLT, Int.reduceLE, Int.reduceNe, Int.reduceToNat, ia_cps hj, ia_cps hj2, len_cp, ltNat, c2]
      refine w_quiet ?_
      simp -implicitDefEqProofs only [sims.1, fx.1, keeps.1, tick_on, calleeK, extractV, oneV, faddrK, nonnil, b_shr, b_shl, fieldK, Nat.reduceAdd, Nat.reduceMul, Nat.reduceSub, Nat.reduceEqDiff, Nat.reduceLT, Nat.reduceLeDiff, Nat.reduceBEq, Nat.reduceBNe, reduceIte, Int.reduceEq, Int.reduceLT, Int.reduceLE, Int.reduceNe, Int.reduceToNat, ia_cps hj, ia_cps hj2, ia_cp hk, ia_cp hk2, part_ac, q]
      cases e2 : decide (a[j][k] = b[j][k])
      · simp -implicitDefEqProofs only [sims.1, fx.1, keeps.1, tick_on, calleeK, extractV, oneV, faddrK, nonnil, b_shr, b_shl, fieldK, Nat.reduceAdd, Nat.reduceMul, Nat.reduceSub, Nat.reduceEqDiff, Nat.reduceLT, Nat.reduceLeDiff, Nat.reduceBEq, Nat.reduceBNe, reduceIte, Int.reduceEq, Int.reduceLT, Int.reduceLE, Int.reduceNe, Int.reduceToNat, e2]
        refine ans_ret ?_
        have : a ≠ b := fun h => by
          subst h
          simp at e2
        simp [this]
      · simp -implicitDefEqProofs only [sims.1, fx.1, keeps.1, tick_on, calleeK, extractV, oneV, faddrK, nonnil, b_shr, b_shl, fieldK, Nat.reduceAdd, Nat.reduceMul, Nat.reduceSub, Nat.reduceEqDiff, Nat.reduceLT, Nat.reduceLeDiff, Nat.reduceBEq, Nat.reduceBNe, reduceIte, Int.reduceEq, Int.reduceLT, Int.reduceLE, Int.reduceNe, Int.reduceToNat, e2, w3]
        refine ⟨k + 1, canon_nil [.int .i64 ((k + 1 : Nat) : Int), .int .i64 (j : Int), cpsV a, cpsV b] (by kernel_rfl) (nfs_cons rfl (nfs_cons rfl (nfs_cons (nf_cps a) (nfs_cons (nf_cps b) rfl)))) (by kernel_rfl), ⟨by omega, fun i k1 k2 k3 => ?_⟩, by omega⟩
        rcases Nat.lt_or_ge i k with h3 | h3
        · exact g2 i k1 k2 h3
        · have : i = k := by omega
          subst this
          simpa using e2
    · have c2 : decide (k < a[j].length) = false := by simp; omega
      simp -implicitDefEqProofs only [sims.1, fx.1, keeps.1, tick_on, calleeK, extractV, oneV, faddrK, nonnil, b_shr, b_shl, fieldK, Nat.reduceAdd, Nat.reduceMul, Nat.reduceSub, Nat.reduceEqDiff, Nat.reduceLT, Nat.reduceLeDiff, Nat.reduceBEq, Nat.reduceBNe, reduceIte, Int.reduceEq, Int.reduceLT, Int.reduceLE, Int.reduceNe, Int.reduceToNat, ia_cps hj, len_cp, ltNat, c2, w2]
      have same : a[j] = b[j] := list_eq _ _ hl2 fun i k1 k2 => g2 i k1 k2 (by omega)
      refine ⟨j + 1, canon_nil [cpsV a, cpsV b, .int .i64 ((j + 1 : Nat) : Int)] (by kernel_rfl) (nfs_cons (nf_cps a) (nfs_cons (nf_cps b) rfl)) (by kernel_rfl), ⟨by omega, fun i k1 k2 k3 => ?_⟩, by omega⟩
      rcases Nat.lt_or_ge i j with h3 | h3
      · exact h2 i k1 k2 h3
      · have : i = j := by omega
        subst this
        exact same
  · have c1 : decide (j < a.length) = false := by simp; omega
    simp -implicitDefEqProofs only [sims.1, fx.1, keeps.1, tick_on, calleeK, extractV, oneV, faddrK, nonnil, b_shr, b_shl, fieldK, Nat.reduceAdd, Nat.reduceMul, Nat.reduceSub, Nat.reduceEqDiff, Nat.reduceLT, Nat.reduceLeDiff, Nat.reduceBEq, Nat.reduceBNe, reduceIte, Int.reduceEq, Int.reduceLT, Int.reduceLE, Int.reduceNe, Int.reduceToNat, len_cps, ltNat, c1]
    refine ans_ret ?_
    have : a = b := list_eq a b hl fun i k1 k2 => h2 i k1 k2 (by omega)
    simp [this]
end Go.Proofs.Ytggdnepfahknbaa
