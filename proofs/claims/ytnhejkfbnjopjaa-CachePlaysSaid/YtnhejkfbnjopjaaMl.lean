/- CacheRoom answers true. No condition. -/
import Derived.Test.YtnhejkfbnjopjaaMk
namespace Go.Proofs.Ytnhejkfbnjopjaa
open Go Ab
set_option linter.unusedSimpArgs false
set_option linter.unusedVariables false
set_option maxRecDepth 20000

structure Room (l : List Ent) (hs : List Hd) (i : Nat) : Prop where
  ids : ∀ e ∈ l, e.full = true → e.turn = 0 ∧ ∃ k, k < i ∧ e.id = (k : Int) + 1 ∧ (∃ h, hs[k]? = some h ∧ eqH h e.h = true) ∧ ∀ j h, k < j → j < i → hs[j]? = some h → eqH h e.h = false
  has : ∀ k h, k < i → hs[k]? = some h → ∃ e ∈ l, e.full = true ∧ eqH e.h h = true
  few : l.countP (·.full) ≤ i

theorem countP_set {l : List Ent} {k : Nat} (hk : k < l.length) (e : Ent) : (l.set k e).countP (·.full) + (if l[k].full then 1 else 0) = l.countP (·.full) + (if e.full then 1 else 0) := by
  induction l generalizing k with
  | nil => simp at hk
  | cons x r ih =>
    cases k with
    | zero =>
      simp only [List.set_cons_zero, List.countP_cons, List.getElem_cons_zero]
      omega
    | succ k =>
      have := ih (k := k) (by simpa using hk)
      simp only [List.set_cons_succ, List.countP_cons, List.getElem_cons_succ]
      omega

theorem countP_same {l : List Ent} {k : Nat} (hk : k < l.length) {e : Ent} (h1 : l[k].full = true) (h2 : e.full = true) : (l.set k e).countP (·.full) = l.countP (·.full) := by
  have := countP_set hk e
  rw [if_pos h1, if_pos h2] at this
  omega
theorem countP_more {l : List Ent} {k : Nat} (hk : k < l.length) {e : Ent} (h1 : l[k].full = false) (h2 : e.full = true) : (l.set k e).countP (·.full) = l.countP (·.full) + 1 := by
  have := countP_set hk e
  rw [if_neg (by rw [h1]; decide), if_pos h2] at this
  omega
theorem Room.none (n : Nat) (hs : List Hd) : Room (List.replicate n e0) hs 0 where
  ids e he hf := by
    rw [List.eq_of_mem_replicate he] at hf
    cases hf
  has k g hk := by omega
  few := by
    have : (List.replicate n e0).countP (·.full) = 0 := by
      rw [List.countP_eq_zero]
      intro e he
      rw [List.eq_of_mem_replicate he]
      simp [e0]
    omega
theorem Room.put {l : List Ent} {a : List (Hd × Nat)} {hs : List Hd} {i hd : Nat} {h : Hd} (I : Inv l a) (R : Room l hs i) (hh : hs[i]? = some h) (hi : i < l.length) : Room (putR l a 0 hd h ((i : Int) + 1)).1 hs (i + 1) := by
  have hi0 : ¬ l.length = 0 := by omega
  unfold putR
  rw [if_neg hi0]
  cases hf : fnd l h with
  | some p =>
    obtain ⟨hp, hfull, hkey⟩ := fnd_some hf
    simp only [List.getElem?_eq_getElem hp]
    refine ⟨fun e he hef => ?_, fun k g hk hg => ?_, ?_⟩
    · obtain ⟨q, hq⟩ := List.getElem?_of_mem he
      rcases set_at hq with ⟨rfl, rfl⟩ | ⟨hqp, hq'⟩
      · exact ⟨rfl, i, by omega, rfl, ⟨h, hh, eqH_symm hkey⟩, fun j g h1 h2 _ => by omega⟩
      · obtain ⟨h1, k, h2, h3, h4, h5⟩ := R.ids e (List.mem_of_getElem? hq') hef
        refine ⟨h1, k, by omega, h3, h4, fun j g hj hj2 hg => ?_⟩
        by_cases hji : j = i
        · subst hji
          rw [hh] at hg; cases hg
          cases e2 : eqH h e.h with
          | false => rfl
          | true => exact absurd (I.uniq hq' (List.getElem?_eq_getElem hp) hef hfull (eqH_symm (eqH_trans hkey e2))) hqp
        · exact h5 j g hj (by omega) hg
    · by_cases hki : k = i
      · subst hki
        rw [hh] at hg; cases hg
        exact ⟨_, List.mem_of_getElem? (List.getElem?_set_self hp), hfull, hkey⟩
      · obtain ⟨e, he, h1, h2⟩ := R.has k g (by omega) hg
        obtain ⟨q, hq⟩ := List.getElem?_of_mem he
        by_cases hqp : q = p
        · subst hqp
          rw [List.getElem?_eq_getElem hp] at hq; cases hq
          exact ⟨_, List.mem_of_getElem? (List.getElem?_set_self hp), hfull, h2⟩
        · exact ⟨e, List.mem_of_getElem? (by rw [List.getElem?_set_ne (fun x => hqp x.symm)]; exact hq), h1, h2⟩
    · rw [countP_same (e := { l[p] with id := (i : Int) + 1, turn := 0 }) hp hfull hfull]
      have := R.few
      omega
  | none =>
    simp only
    have hne := fnd_none hf
    cases hfr : free l with
    | none =>
      exfalso
      have hall := free_all hfr
      have : l.countP (·.full) = l.length := by
        rw [List.countP_eq_length]
        intro e he
        exact hall e he
      have := R.few
      omega
    | some p =>
      obtain ⟨hp, hnf⟩ := free_some hfr
      simp only
      refine ⟨fun e he hef => ?_, fun k g hk hg => ?_, ?_⟩
      · obtain ⟨q, hq⟩ := List.getElem?_of_mem he
        rcases set_at hq with ⟨rfl, rfl⟩ | ⟨hqp, hq'⟩
        · exact ⟨rfl, i, by omega, rfl, ⟨h, hh, eqH_refl h⟩, fun j g h1 h2 _ => by omega⟩
        · obtain ⟨h1, k, h2, h3, h4, h5⟩ := R.ids e (List.mem_of_getElem? hq') hef
          refine ⟨h1, k, by omega, h3, h4, fun j g hj hj2 hg => ?_⟩
          by_cases hji : j = i
          · subst hji
            rw [hh] at hg; cases hg
            have := hne e (List.mem_of_getElem? hq') hef
            cases e2 : eqH h e.h with
            | false => rfl
            | true => rw [eqH_symm e2] at this; cases this
          · exact h5 j g hj (by omega) hg
      · by_cases hki : k = i
        · subst hki
          rw [hh] at hg; cases hg
          exact ⟨en1 h ((k : Int) + 1) 0, List.mem_of_getElem? (List.getElem?_set_self hp), rfl, eqH_refl h⟩
        · obtain ⟨e, he, h1, h2⟩ := R.has k g (by omega) hg
          obtain ⟨q, hq⟩ := List.getElem?_of_mem he
          by_cases hqp : q = p
          · subst hqp
            rw [List.getElem?_eq_getElem hp] at hq; cases hq
            rw [hnf] at h1; cases h1
          · exact ⟨e, List.mem_of_getElem? (by rw [List.getElem?_set_ne (fun x => hqp x.symm)]; exact hq), h1, h2⟩
      · rw [countP_more hp hnf rfl]
        have := R.few
        omega

/-- What is asked for. -/
theorem Room.got {l : List Ent} {a : List (Hd × Nat)} {hs : List Hd} {n k : Nat} {h : Hd} (I : Inv l a) (R : Room l hs n) (hk : k < n) (hh : hs[k]? = some h) :
    ∃ j, j < n ∧ (∃ g, hs[j]? = some g ∧ eqH g h = true) ∧ (∀ i g, j < i → i < n → hs[i]? = some g → eqH g h = false) ∧ getI l 0 h = ((j : Int) + 1, true) ∧ Room (getL l 0 h) hs n := by
  obtain ⟨e, he, h1, h2⟩ := R.has k h hk hh
  cases hf : fnd l h with
  | none =>
    have := fnd_none hf e he h1
    rw [h2] at this; cases this
  | some p =>
    obtain ⟨hp, hfull, hkey⟩ := fnd_some hf
    obtain ⟨t0, j, j1, j2, ⟨g, g1, g2⟩, j4⟩ := R.ids _ (List.getElem_mem hp) hfull
    have ht : decide (l[p].turn = 0) = true := by simp [t0]
    refine ⟨j, j1, ⟨g, g1, eqH_trans g2 hkey⟩, fun i g' hi hi2 hg' => ?_, ?_, ?_⟩
    · cases e2 : eqH g' h with
      | false => rfl
      | true =>
        have := j4 i g' hi hi2 hg'
        rw [eqH_trans e2 (eqH_symm hkey)] at this; cases this
    · unfold getI
      rw [hf]
      simp only [List.getElem?_eq_getElem hp, ht, cond_true, j2]
    · unfold getL
      rw [hf]
      simp only [List.getElem?_eq_getElem hp, ht, cond_true]
      refine ⟨fun x hx hxf => ?_, fun k' g' hk' hg' => ?_, ?_⟩
      · rcases List.mem_or_eq_of_mem_set hx with h' | rfl
        · exact R.ids x h' hxf
        · have := R.ids l[p] (List.getElem_mem hp) hfull
          exact this
      · obtain ⟨x, x1, x2, x3⟩ := R.has k' g' hk' hg'
        obtain ⟨q, hq⟩ := List.getElem?_of_mem x1
        by_cases hqp : q = p
        · subst hqp
          rw [List.getElem?_eq_getElem hp] at hq; cases hq
          exact ⟨_, List.mem_of_getElem? (List.getElem?_set_self hp), hfull, x3⟩
        · exact ⟨x, List.mem_of_getElem? (by rw [List.getElem?_set_ne (fun z => hqp z.symm)]; exact hq), x2, x3⟩
      · rw [countP_same (e := { l[p] with mark := true }) hp hfull hfull]
        exact R.few

/-! ### The walk -/
def intsV (l : List Int) : V := .isl 1 (l.map fun n => [V.int .i64 n])
theorem nfs_ints' : ∀ l : List Int, nfss (l.map fun n => [V.int .i64 n]) = true
  | [] => rfl
  | a :: r => by simp [nfss, nfs, nf, nfs_ints' r]
theorem nf_ints (l : List Int) : nf (intsV l) = true := by simp only [nf, intsV]; exact nfs_ints' l
theorem len_ints (m : Mem) (l : List Int) : lenV Try.prog m 54 (intsV l) = some (.int .i64 (l.length : Int)) := by unfold intsV; rw [lni54, List.length_map]
theorem ia_ints {l : List Int} {j : Nat} {k : IntKind} (h : j < l.length) : iaddrS 1 (intsV l) (.int k (j : Int)) = some (.ip [.int .i64 l[j]]) := iaddrS_isl (by simp [h])
theorem canM {keep : List Nat} {env : Env} {l : List Ent} {a : List (Hd × Nat)} {t hd : Nat} (vs : List V) {e' : Env} (hk : keep.map env = vs) (hL : reach (caM l a t hd) 80 (List.range 0 ++ nmss vs) [] = [0, 1, 2]) (hi : inDs (fun k => [0, 1, 2].contains k) vs = true)
    (hv : rens (idx [0, 1, 2]) vs = vs) (hE : mkEnv (keep.zip vs) = e') : canon 0 keep env (caM l a t hd) = some (e', caM l a t hd) := by
  refine canon_of vs [0, 1, 2] hk hL hi ?_ hv hE rfl
  rw [closedL3 (n0 := 0) (n1 := 1) (n2 := 2) rfl rfl rfl rfl rfl (nfs_ens l) (nfp_at a)]
  rfl
theorem callD_c0 {f : FuncId} {vs vs1 : List V} {v : V} {K Kp : V → Mem → Prop} {l l' : List Ent} {a a' : List (Hd × Nat)} {t t' hd hd' : Nat} (h : Snd Try.prog f vs1 (caM l a t hd) fun r => r = .ret v (caM l' a' t' hd')) (he : enterable Try.prog f = true)
    (hr : rootsV (caM l a t hd) vs = [0, 1, 2]) (hi : inDs (fun k => [0, 1, 2].contains k) vs = true) (hv1 : rens (idx [0, 1, 2]) vs = vs1) (hv : nf v = true) (hk : K v (caM l' a' t' hd')) : callD Try.prog f vs (caM l a t hd) K Kp :=
  callD_ca (ex := []) h he hr hi hv1 rfl (nfs_ens l) (nfp_at a) rfl hv rfl (nfs_ens l') (nfp_at a') (hb3 _ _ _) hk
theorem gt40 (n : Nat) : decide ((40 : Int) < (n : Int)) = decide (40 < n) := by rw [Bool.eq_iff_iff]; simp; omega
theorem pos0 (n : Nat) : decide ((0 : Int) < (n : Int)) = decide (0 < n) := by rw [Bool.eq_iff_iff]; simp
theorem modE (s : Int) (n : Nat) (h0 : 0 < n) (h1 : n ≤ 40) : ∃ k : Nat, k < n ∧ (IntKind.i64.wrap (s.tmod (n : Int) + (n : Int))).tmod (n : Int) = (k : Int) := by
  have hn : (0 : Int) < (n : Int) := by omega
  have h1 : -(n : Int) < s.tmod n ∧ s.tmod n < n := by
    have := Int.tmod_lt_of_pos s hn
    have := Int.lt_tmod_of_pos s hn
    omega
  have h2 : IntKind.i64.wrap (s.tmod n + n) = s.tmod n + n := by simp [IntKind.wrap, IntKind.bits, IntKind.signed]; omega
  rw [h2]
  have h3 : 0 ≤ (s.tmod n + n).tmod n ∧ (s.tmod n + n).tmod n < n := ⟨Int.tmod_nonneg _ (by omega), Int.tmod_lt_of_pos _ hn⟩
  exact ⟨((s.tmod n + n).tmod n).toNat, by omega, by omega⟩

set_option maxHeartbeats 4000000 in
theorem ans12 (hs : List Hd) (asks : List Int) (hh : ∀ o ∈ hs, U64h o) (hl : hs.length < 281474976710656) (hl2 : asks.length < 281474976710656) : Ans Try.prog 12 [hdsV hs, intsV asks] (.bool true) := by
  refine Snd_of_W fol rfl rfl (by kernel_rfl) (by kernel_rfl) ?_
  cases e1 : decide (40 < hs.length)
  rotate_left
  · simp -implicitDefEqProofs only [sims.1, fx.1, tick_on, calleeK, List.getElem?_toArray, extractV, oneV, faddrK, nonnil, b_shr, b_shl, eq_self, beq_self_eq_true, fieldK, Option.bind_some, Option.map_some, Option.bind_none, Option.map_none, List.map_cons, List.map_nil, List.getD_cons_zero, List.getD_cons_succ, List.getD_nil, List.length_nil, List.length_cons, List.length_set, List.nil_append, List.cons_append, List.append_nil, List.getElem?_cons_zero, List.getElem?_cons_succ, List.getElem?_nil, List.set_cons_zero, List.set_cons_succ, Nat.reduceAdd, Nat.zero_add, Nat.add_zero, Nat.mul_one, Nat.mul_zero, Nat.zero_mul, Nat.reduceMul, Nat.reduceSub, Nat.reduceEqDiff, Nat.reduceLT, Nat.reduceLeDiff, Nat.reduceBEq, Nat.reduceBNe, Nat.succ_ne_self, reduceIte, if_true, if_false, ite_self, decide_true, decide_false, Bool.not_true, Bool.not_false, Bool.and_true, Bool.true_and, Bool.and_false, Bool.false_and, Bool.or_true, Bool.true_or, Bool.or_false, Bool.false_or, cond_true, cond_false, Int.reduceEq, Int.reduceLT, Int.reduceLE, Int.reduceNe, Int.reduceToNat, len_hds, gt40, e1]
    refine callD_ans ans26 en26 rfl rfl ?_
    simp -implicitDefEqProofs only [sims.1, fx.1, tick_on, calleeK, List.getElem?_toArray, extractV, oneV, faddrK, nonnil, b_shr, b_shl, eq_self, beq_self_eq_true, fieldK, Option.bind_some, Option.map_some, Option.bind_none, Option.map_none, List.map_cons, List.map_nil, List.getD_cons_zero, List.getD_cons_succ, List.getD_nil, List.length_nil, List.length_cons, List.length_set, List.nil_append, List.cons_append, List.append_nil, List.getElem?_cons_zero, List.getElem?_cons_succ, List.getElem?_nil, List.set_cons_zero, List.set_cons_succ, Nat.reduceAdd, Nat.zero_add, Nat.add_zero, Nat.mul_one, Nat.mul_zero, Nat.zero_mul, Nat.reduceMul, Nat.reduceSub, Nat.reduceEqDiff, Nat.reduceLT, Nat.reduceLeDiff, Nat.reduceBEq, Nat.reduceBNe, Nat.succ_ne_self, reduceIte, if_true, if_false, ite_self, decide_true, decide_false, Bool.not_true, Bool.not_false, Bool.and_true, Bool.true_and, Bool.and_false, Bool.false_and, Bool.or_true, Bool.true_or, Bool.or_false, Bool.false_or, cond_true, cond_false, Int.reduceEq, Int.reduceLT, Int.reduceLE, Int.reduceNe, Int.reduceToNat]
    exact ans_ret rfl
  cases e2 : decide (200 < asks.length)
  rotate_left
  · simp -implicitDefEqProofs only [sims.1, fx.1, tick_on, calleeK, List.getElem?_toArray, extractV, oneV, faddrK, nonnil, b_shr, b_shl, eq_self, beq_self_eq_true, fieldK, Option.bind_some, Option.map_some, Option.bind_none, Option.map_none, List.map_cons, List.map_nil, List.getD_cons_zero, List.getD_cons_succ, List.getD_nil, List.length_nil, List.length_cons, List.length_set, List.nil_append, List.cons_append, List.append_nil, List.getElem?_cons_zero, List.getElem?_cons_succ, List.getElem?_nil, List.set_cons_zero, List.set_cons_succ, Nat.reduceAdd, Nat.zero_add, Nat.add_zero, Nat.mul_one, Nat.mul_zero, Nat.zero_mul, Nat.reduceMul, Nat.reduceSub, Nat.reduceEqDiff, Nat.reduceLT, Nat.reduceLeDiff, Nat.reduceBEq, Nat.reduceBNe, Nat.succ_ne_self, reduceIte, if_true, if_false, ite_self, decide_true, decide_false, Bool.not_true, Bool.not_false, Bool.and_true, Bool.true_and, Bool.and_false, Bool.false_and, Bool.or_true, Bool.true_or, Bool.or_false, Bool.false_or, cond_true, cond_false, Int.reduceEq, Int.reduceLT, Int.reduceLE, Int.reduceNe, Int.reduceToNat, len_hds, gt40, e1, len_ints, gt200, e2]
    refine callD_ans ans26 en26 rfl rfl ?_
    simp -implicitDefEqProofs only [sims.1, fx.1, tick_on, calleeK, List.getElem?_toArray, extractV, oneV, faddrK, nonnil, b_shr, b_shl, eq_self, beq_self_eq_true, fieldK, Option.bind_some, Option.map_some, Option.bind_none, Option.map_none, List.map_cons, List.map_nil, List.getD_cons_zero, List.getD_cons_succ, List.getD_nil, List.length_nil, List.length_cons, List.length_set, List.nil_append, List.cons_append, List.append_nil, List.getElem?_cons_zero, List.getElem?_cons_succ, List.getElem?_nil, List.set_cons_zero, List.set_cons_succ, Nat.reduceAdd, Nat.zero_add, Nat.add_zero, Nat.mul_one, Nat.mul_zero, Nat.zero_mul, Nat.reduceMul, Nat.reduceSub, Nat.reduceEqDiff, Nat.reduceLT, Nat.reduceLeDiff, Nat.reduceBEq, Nat.reduceBNe, Nat.succ_ne_self, reduceIte, if_true, if_false, ite_self, decide_true, decide_false, Bool.not_true, Bool.not_false, Bool.and_true, Bool.true_and, Bool.and_false, Bool.false_and, Bool.or_true, Bool.true_or, Bool.or_false, Bool.false_or, cond_true, cond_false, Int.reduceEq, Int.reduceLT, Int.reduceLE, Int.reduceNe, Int.reduceToNat]
    exact ans_ret rfl
  have hn : hs.length ≤ 40 := by simpa using of_decide_eq_false e1
  have nz : sz (hs.length : Int) = hs.length := sz_nat _ (by omega)
  have q27 := snd27 (hs.length : Int)
  rw [nz] at q27
  simp -implicitDefEqProofs only [sims.1, fx.1, tick_on, calleeK, List.getElem?_toArray, extractV, oneV, faddrK, nonnil, b_shr, b_shl, eq_self, beq_self_eq_true, fieldK, Option.bind_some, Option.map_some, Option.bind_none, Option.map_none, List.map_cons, List.map_nil, List.getD_cons_zero, List.getD_cons_succ, List.getD_nil, List.length_nil, List.length_cons, List.length_set, List.nil_append, List.cons_append, List.append_nil, List.getElem?_cons_zero, List.getElem?_cons_succ, List.getElem?_nil, List.set_cons_zero, List.set_cons_succ, Nat.reduceAdd, Nat.zero_add, Nat.add_zero, Nat.mul_one, Nat.mul_zero, Nat.zero_mul, Nat.reduceMul, Nat.reduceSub, Nat.reduceEqDiff, Nat.reduceLT, Nat.reduceLeDiff, Nat.reduceBEq, Nat.reduceBNe, Nat.succ_ne_self, reduceIte, if_true, if_false, ite_self, decide_true, decide_false, Bool.not_true, Bool.not_false, Bool.and_true, Bool.true_and, Bool.and_false, Bool.false_and, Bool.or_true, Bool.true_or, Bool.or_false, Bool.false_or, cond_true, cond_false, Int.reduceEq, Int.reduceLT, Int.reduceLE, Int.reduceNe, Int.reduceToNat, len_hds, gt40, e1, len_ints, gt200, e2]
  refine callD_new' (v := .ptr 0 0) (m' := caM (List.replicate hs.length e0) [] 0 0) q27 en27 rfl rfl rfl (all3 _ _ _ _) (by kernel_rfl) rfl ?_
  simp -implicitDefEqProofs only [sims.1, fx.1, tick_on, calleeK, List.getElem?_toArray, extractV, oneV, faddrK, nonnil, b_shr, b_shl, eq_self, beq_self_eq_true, fieldK, Option.bind_some, Option.map_some, Option.bind_none, Option.map_none, List.map_cons, List.map_nil, List.getD_cons_zero, List.getD_cons_succ, List.getD_nil, List.length_nil, List.length_cons, List.length_set, List.nil_append, List.cons_append, List.append_nil, List.getElem?_cons_zero, List.getElem?_cons_succ, List.getElem?_nil, List.set_cons_zero, List.set_cons_succ, Nat.reduceAdd, Nat.zero_add, Nat.add_zero, Nat.mul_one, Nat.mul_zero, Nat.zero_mul, Nat.reduceMul, Nat.reduceSub, Nat.reduceEqDiff, Nat.reduceLT, Nat.reduceLeDiff, Nat.reduceBEq, Nat.reduceBNe, Nat.succ_ne_self, reduceIte, if_true, if_false, ite_self, decide_true, decide_false, Bool.not_true, Bool.not_false, Bool.and_true, Bool.true_and, Bool.and_false, Bool.false_and, Bool.or_true, Bool.true_or, Bool.or_false, Bool.false_or, cond_true, cond_false, Int.reduceEq, Int.reduceLT, Int.reduceLE, Int.reduceNe, Int.reduceToNat]
  refine W_loop (fun x : Nat × List Ent × List (Hd × Nat) × Nat => (mkEnv [(6, .int .i64 (x.1 : Int)), (1, intsV asks), (5, .ptr 0 0), (0, hdsV hs)], caM x.2.1 x.2.2.1 0 x.2.2.2))
    (fun x => x.1 ≤ hs.length ∧ Inv x.2.1 x.2.2.1 ∧ x.2.1.length = hs.length ∧ (hs.length = 0 ∨ x.2.2.2 < hs.length) ∧ Room x.2.1 hs x.1) (fun x => hs.length + 1 - x.1) (0, List.replicate hs.length e0, [], 0)
    (canM [.int .i64 0, intsV asks, .ptr 0 0, hdsV hs] (by kernel_rfl) (by kernel_rfl) (inDs_cons rfl (inDs_cons (nf_inD _ _ (nf_ints asks)) (inDs_cons rfl (inDs_cons (nf_inD _ _ (nf_hds hs)) rfl)))) (by kernel_rfl) (by kernel_rfl))
    ⟨by simp, Inv.none, by simp, by simp only; omega, Room.none _ _⟩ ?_
  rintro ⟨i, l, a, hd⟩ ⟨h1, I, h2, h3, R⟩
  simp only at h1 I h2 h3 R
  rcases Nat.lt_or_ge i hs.length with hi | hi
  · have c1 : decide (i < hs.length) = true := by simpa using hi
    have w1 := wrap_i64s i (by omega)
    have io : ∀ {k : IntKind}, iaddrS 11 (hdsV hs) (.int k (i : Int)) = some (.ip (hdC hs[i])) := fun {k} => ia_hds hi
    have hu := hh _ (List.getElem_mem hi)
    have q31 := snd31 l a 0 hd hs[i] ((i : Int) + 1) I hu (by omega) (.inr (by omega))
    have P := putR_inv (t := 0) (hd := hd) (id := (i : Int) + 1) I hu (.inr (by omega))
    have R2 := R.put (hd := hd) I (List.getElem?_eq_getElem hi) (by omega)
    obtain ⟨l3, a3, hd3, hput⟩ : ∃ l3 a3 hd3, putR l a 0 hd hs[i] ((i : Int) + 1) = (l3, a3, hd3) := ⟨_, _, _, rfl⟩
    rw [hput] at q31 P R2
    simp only at q31 P R2
    simp -implicitDefEqProofs only [sims.1, fx.1, tick_on, calleeK, List.getElem?_toArray, extractV, oneV, faddrK, nonnil, b_shr, b_shl, eq_self, beq_self_eq_true, fieldK, Option.bind_some, Option.map_some, Option.bind_none, Option.map_none, List.map_cons, List.map_nil, List.getD_cons_zero, List.getD_cons_succ, List.getD_nil, List.length_nil, List.length_cons, List.length_set, List.nil_append, List.cons_append, List.append_nil, List.getElem?_cons_zero, List.getElem?_cons_succ, List.getElem?_nil, List.set_cons_zero, List.set_cons_succ, Nat.reduceAdd, Nat.zero_add, Nat.add_zero, Nat.mul_one, Nat.mul_zero, Nat.zero_mul, Nat.reduceMul, Nat.reduceSub, Nat.reduceEqDiff, Nat.reduceLT, Nat.reduceLeDiff, Nat.reduceBEq, Nat.reduceBNe, Nat.succ_ne_self, reduceIte, if_true, if_false, ite_self, decide_true, decide_false, Bool.not_true, Bool.not_false, Bool.and_true, Bool.true_and, Bool.and_false, Bool.false_and, Bool.or_true, Bool.true_or, Bool.or_false, Bool.false_or, cond_true, cond_false, Int.reduceEq, Int.reduceLT, Int.reduceLE, Int.reduceNe, Int.reduceToNat, len_hds, ltNat, c1, io, part_hd, w1]
    refine callD_c0 q31 en31 (by kernel_rfl) (by kernel_rfl) (by kernel_rfl) rfl ?_
    simp -implicitDefEqProofs only [sims.1, fx.1, tick_on, calleeK, List.getElem?_toArray, extractV, oneV, faddrK, nonnil, b_shr, b_shl, eq_self, beq_self_eq_true, fieldK, Option.bind_some, Option.map_some, Option.bind_none, Option.map_none, List.map_cons, List.map_nil, List.getD_cons_zero, List.getD_cons_succ, List.getD_nil, List.length_nil, List.length_cons, List.length_set, List.nil_append, List.cons_append, List.append_nil, List.getElem?_cons_zero, List.getElem?_cons_succ, List.getElem?_nil, List.set_cons_zero, List.set_cons_succ, Nat.reduceAdd, Nat.zero_add, Nat.add_zero, Nat.mul_one, Nat.mul_zero, Nat.zero_mul, Nat.reduceMul, Nat.reduceSub, Nat.reduceEqDiff, Nat.reduceLT, Nat.reduceLeDiff, Nat.reduceBEq, Nat.reduceBNe, Nat.succ_ne_self, reduceIte, if_true, if_false, ite_self, decide_true, decide_false, Bool.not_true, Bool.not_false, Bool.and_true, Bool.true_and, Bool.and_false, Bool.false_and, Bool.or_true, Bool.true_or, Bool.or_false, Bool.false_or, cond_true, cond_false, Int.reduceEq, Int.reduceLT, Int.reduceLE, Int.reduceNe, Int.reduceToNat, w1]
    exact ⟨(i + 1, l3, a3, hd3), canM [.int .i64 ((i + 1 : Nat) : Int), intsV asks, .ptr 0 0, hdsV hs] (by kernel_rfl) (by kernel_rfl) (inDs_cons rfl (inDs_cons (nf_inD _ _ (nf_ints asks)) (inDs_cons rfl (inDs_cons (nf_inD _ _ (nf_hds hs)) rfl)))) (by kernel_rfl) (by kernel_rfl),
      ⟨by simp only; omega, P.1, by simp only; omega, by have := P.2.2; simp only; omega, R2⟩, by simp only; omega⟩
  have c1 : decide (i < hs.length) = false := by simp; omega
  have : i = hs.length := by omega
  subst this
  simp -implicitDefEqProofs only [sims.1, fx.1, tick_on, calleeK, List.getElem?_toArray, extractV, oneV, faddrK, nonnil, b_shr, b_shl, eq_self, beq_self_eq_true, fieldK, Option.bind_some, Option.map_some, Option.bind_none, Option.map_none, List.map_cons, List.map_nil, List.getD_cons_zero, List.getD_cons_succ, List.getD_nil, List.length_nil, List.length_cons, List.length_set, List.nil_append, List.cons_append, List.append_nil, List.getElem?_cons_zero, List.getElem?_cons_succ, List.getElem?_nil, List.set_cons_zero, List.set_cons_succ, Nat.reduceAdd, Nat.zero_add, Nat.add_zero, Nat.mul_one, Nat.mul_zero, Nat.zero_mul, Nat.reduceMul, Nat.reduceSub, Nat.reduceEqDiff, Nat.reduceLT, Nat.reduceLeDiff, Nat.reduceBEq, Nat.reduceBNe, Nat.succ_ne_self, reduceIte, if_true, if_false, ite_self, decide_true, decide_false, Bool.not_true, Bool.not_false, Bool.and_true, Bool.true_and, Bool.and_false, Bool.false_and, Bool.or_true, Bool.true_or, Bool.or_false, Bool.false_or, cond_true, cond_false, Int.reduceEq, Int.reduceLT, Int.reduceLE, Int.reduceNe, Int.reduceToNat, len_hds, ltNat, c1]
  refine W_loop (fun x : Nat × List Ent × List (Hd × Nat) => (mkEnv [(1, intsV asks), (5, .ptr 0 0), (0, hdsV hs), (7, .int .i64 (x.1 : Int))], caM x.2.1 x.2.2 0 hd))
    (fun x => x.1 ≤ asks.length ∧ Inv x.2.1 x.2.2 ∧ x.2.1.length = hs.length ∧ Room x.2.1 hs hs.length) (fun x => asks.length + 1 - x.1) (0, l, a)
    (canM [intsV asks, .ptr 0 0, hdsV hs, .int .i64 0] (by kernel_rfl) (by kernel_rfl) (inDs_cons (nf_inD _ _ (nf_ints asks)) (inDs_cons rfl (inDs_cons (nf_inD _ _ (nf_hds hs)) rfl))) (by kernel_rfl) (by kernel_rfl)) ⟨by simp, I, h2, R⟩ ?_
  clear I R h2 h3 h1 hi
  rintro ⟨j, l, a⟩ ⟨h1, I, h2, R⟩
  simp only at h1 I h2 R
  rcases Nat.lt_or_ge j asks.length with hj | hj
  rotate_left
  · have c2 : decide (j < asks.length) = false := by simp; omega
    simp -implicitDefEqProofs only [sims.1, fx.1, tick_on, calleeK, List.getElem?_toArray, extractV, oneV, faddrK, nonnil, b_shr, b_shl, eq_self, beq_self_eq_true, fieldK, Option.bind_some, Option.map_some, Option.bind_none, Option.map_none, List.map_cons, List.map_nil, List.getD_cons_zero, List.getD_cons_succ, List.getD_nil, List.length_nil, List.length_cons, List.length_set, List.nil_append, List.cons_append, List.append_nil, List.getElem?_cons_zero, List.getElem?_cons_succ, List.getElem?_nil, List.set_cons_zero, List.set_cons_succ, Nat.reduceAdd, Nat.zero_add, Nat.add_zero, Nat.mul_one, Nat.mul_zero, Nat.zero_mul, Nat.reduceMul, Nat.reduceSub, Nat.reduceEqDiff, Nat.reduceLT, Nat.reduceLeDiff, Nat.reduceBEq, Nat.reduceBNe, Nat.succ_ne_self, reduceIte, if_true, if_false, ite_self, decide_true, decide_false, Bool.not_true, Bool.not_false, Bool.and_true, Bool.true_and, Bool.and_false, Bool.false_and, Bool.or_true, Bool.true_or, Bool.or_false, Bool.false_or, cond_true, cond_false, Int.reduceEq, Int.reduceLT, Int.reduceLE, Int.reduceNe, Int.reduceToNat, len_ints, ltNat, c2]
    refine callD_ans ans26 en26 rfl rfl ?_
    simp -implicitDefEqProofs only [sims.1, fx.1, tick_on, calleeK, List.getElem?_toArray, extractV, oneV, faddrK, nonnil, b_shr, b_shl, eq_self, beq_self_eq_true, fieldK, Option.bind_some, Option.map_some, Option.bind_none, Option.map_none, List.map_cons, List.map_nil, List.getD_cons_zero, List.getD_cons_succ, List.getD_nil, List.length_nil, List.length_cons, List.length_set, List.nil_append, List.cons_append, List.append_nil, List.getElem?_cons_zero, List.getElem?_cons_succ, List.getElem?_nil, List.set_cons_zero, List.set_cons_succ, Nat.reduceAdd, Nat.zero_add, Nat.add_zero, Nat.mul_one, Nat.mul_zero, Nat.zero_mul, Nat.reduceMul, Nat.reduceSub, Nat.reduceEqDiff, Nat.reduceLT, Nat.reduceLeDiff, Nat.reduceBEq, Nat.reduceBNe, Nat.succ_ne_self, reduceIte, if_true, if_false, ite_self, decide_true, decide_false, Bool.not_true, Bool.not_false, Bool.and_true, Bool.true_and, Bool.and_false, Bool.false_and, Bool.or_true, Bool.true_or, Bool.or_false, Bool.false_or, cond_true, cond_false, Int.reduceEq, Int.reduceLT, Int.reduceLE, Int.reduceNe, Int.reduceToNat]
    exact ans_ret rfl
  have c2 : decide (j < asks.length) = true := by simpa using hj
  have wj := wrap_i64s j (by omega)
  have ij : ∀ {k : IntKind}, iaddrS 1 (intsV asks) (.int k (j : Int)) = some (.ip [.int .i64 asks[j]]) := fun {k} => ia_ints hj
  cases e0' : decide (0 < hs.length)
  · simp -implicitDefEqProofs only [sims.1, fx.1, tick_on, calleeK, List.getElem?_toArray, extractV, oneV, faddrK, nonnil, b_shr, b_shl, eq_self, beq_self_eq_true, fieldK, Option.bind_some, Option.map_some, Option.bind_none, Option.map_none, List.map_cons, List.map_nil, List.getD_cons_zero, List.getD_cons_succ, List.getD_nil, List.length_nil, List.length_cons, List.length_set, List.nil_append, List.cons_append, List.append_nil, List.getElem?_cons_zero, List.getElem?_cons_succ, List.getElem?_nil, List.set_cons_zero, List.set_cons_succ, Nat.reduceAdd, Nat.zero_add, Nat.add_zero, Nat.mul_one, Nat.mul_zero, Nat.zero_mul, Nat.reduceMul, Nat.reduceSub, Nat.reduceEqDiff, Nat.reduceLT, Nat.reduceLeDiff, Nat.reduceBEq, Nat.reduceBNe, Nat.succ_ne_self, reduceIte, if_true, if_false, ite_self, decide_true, decide_false, Bool.not_true, Bool.not_false, Bool.and_true, Bool.true_and, Bool.and_false, Bool.false_and, Bool.or_true, Bool.true_or, Bool.or_false, Bool.false_or, cond_true, cond_false, Int.reduceEq, Int.reduceLT, Int.reduceLE, Int.reduceNe, Int.reduceToNat, len_ints, len_hds, ltNat, c2, pos0, e0']
    refine callD_ans ans26 en26 rfl rfl ?_
    simp -implicitDefEqProofs only [sims.1, fx.1, tick_on, calleeK, List.getElem?_toArray, extractV, oneV, faddrK, nonnil, b_shr, b_shl, eq_self, beq_self_eq_true, fieldK, Option.bind_some, Option.map_some, Option.bind_none, Option.map_none, List.map_cons, List.map_nil, List.getD_cons_zero, List.getD_cons_succ, List.getD_nil, List.length_nil, List.length_cons, List.length_set, List.nil_append, List.cons_append, List.append_nil, List.getElem?_cons_zero, List.getElem?_cons_succ, List.getElem?_nil, List.set_cons_zero, List.set_cons_succ, Nat.reduceAdd, Nat.zero_add, Nat.add_zero, Nat.mul_one, Nat.mul_zero, Nat.zero_mul, Nat.reduceMul, Nat.reduceSub, Nat.reduceEqDiff, Nat.reduceLT, Nat.reduceLeDiff, Nat.reduceBEq, Nat.reduceBNe, Nat.succ_ne_self, reduceIte, if_true, if_false, ite_self, decide_true, decide_false, Bool.not_true, Bool.not_false, Bool.and_true, Bool.true_and, Bool.and_false, Bool.false_and, Bool.or_true, Bool.true_or, Bool.or_false, Bool.false_or, cond_true, cond_false, Int.reduceEq, Int.reduceLT, Int.reduceLE, Int.reduceNe, Int.reduceToNat]
    exact ans_ret rfl
  have hpos : 0 < hs.length := of_decide_eq_true e0'
  have hpi : ¬ ((hs.length : Int) = 0) := by omega
  obtain ⟨k, hk, hke⟩ := modE asks[j] hs.length hpos hn
  have ik : ∀ {kk : IntKind}, iaddrS 11 (hdsV hs) (.int kk (k : Int)) = some (.ip (hdC hs[k])) := fun {kk} => ia_hds hk
  have hku := hh _ (List.getElem_mem hk)
  simp -implicitDefEqProofs only [sims.1, fx.1, tick_on, calleeK, List.getElem?_toArray, extractV, oneV, faddrK, nonnil, b_shr, b_shl, eq_self, beq_self_eq_true, fieldK, Option.bind_some, Option.map_some, Option.bind_none, Option.map_none, List.map_cons, List.map_nil, List.getD_cons_zero, List.getD_cons_succ, List.getD_nil, List.length_nil, List.length_cons, List.length_set, List.nil_append, List.cons_append, List.append_nil, List.getElem?_cons_zero, List.getElem?_cons_succ, List.getElem?_nil, List.set_cons_zero, List.set_cons_succ, Nat.reduceAdd, Nat.zero_add, Nat.add_zero, Nat.mul_one, Nat.mul_zero, Nat.zero_mul, Nat.reduceMul, Nat.reduceSub, Nat.reduceEqDiff, Nat.reduceLT, Nat.reduceLeDiff, Nat.reduceBEq, Nat.reduceBNe, Nat.succ_ne_self, reduceIte, if_true, if_false, ite_self, decide_true, decide_false, Bool.not_true, Bool.not_false, Bool.and_true, Bool.true_and, Bool.and_false, Bool.false_and, Bool.or_true, Bool.true_or, Bool.or_false, Bool.false_or, cond_true, cond_false, Int.reduceEq, Int.reduceLT, Int.reduceLE, Int.reduceNe, Int.reduceToNat, len_ints, len_hds, ltNat, c2, pos0, e0', ij, b_rem, hpi, hke]
  refine W_loop (fun x : Nat × Nat => (mkEnv [(10, .int .i64 (x.1 : Int)), (8, .int .i64 (k : Int)), (9, .int .i64 (x.2 : Int)), (7, .int .i64 (j : Int)), (1, intsV asks), (5, .ptr 0 0), (0, hdsV hs)], caM l a 0 hd))
    (fun x => x.1 ≤ hs.length ∧ x.2 < hs.length ∧ ((x.2 = k ∧ ∀ i (h : i < hs.length), i < x.1 → eqH hs[i] hs[k] = false) ∨ (x.2 < x.1 ∧ (∃ h : x.2 < hs.length, eqH hs[x.2] hs[k] = true) ∧ ∀ i (h : i < hs.length), x.2 < i → i < x.1 → eqH hs[i] hs[k] = false))) (fun x => hs.length + 1 - x.1) (0, k)
    (canM [.int .i64 0, .int .i64 (k : Int), .int .i64 (k : Int), .int .i64 (j : Int), intsV asks, .ptr 0 0, hdsV hs] (by kernel_rfl) (by kernel_rfl) (inDs_cons rfl (inDs_cons rfl (inDs_cons rfl (inDs_cons rfl (inDs_cons (nf_inD _ _ (nf_ints asks)) (inDs_cons rfl (inDs_cons (nf_inD _ _ (nf_hds hs)) rfl))))))) (by kernel_rfl) (by kernel_rfl))
    ⟨by simp, hk, .inl ⟨rfl, fun i _ h => by simp at h⟩⟩ ?_
  rintro ⟨i, last⟩ ⟨g1, g2, g3⟩
  simp only at g1 g2 g3
  rcases Nat.lt_or_ge i hs.length with hi | hi
  · have c3 : decide (i < hs.length) = true := by simpa using hi
    have w1 := wrap_i64s i (by omega)
    have io : ∀ {kk : IntKind}, iaddrS 11 (hdsV hs) (.int kk (i : Int)) = some (.ip (hdC hs[i])) := fun {kk} => ia_hds hi
    have cq := eq24 hs[i] hs[k] (hh _ (List.getElem_mem hi)) hku
    simp -implicitDefEqProofs only [sims.1, fx.1, tick_on, calleeK, List.getElem?_toArray, extractV, oneV, faddrK, nonnil, b_shr, b_shl, eq_self, beq_self_eq_true, fieldK, Option.bind_some, Option.map_some, Option.bind_none, Option.map_none, List.map_cons, List.map_nil, List.getD_cons_zero, List.getD_cons_succ, List.getD_nil, List.length_nil, List.length_cons, List.length_set, List.nil_append, List.cons_append, List.append_nil, List.getElem?_cons_zero, List.getElem?_cons_succ, List.getElem?_nil, List.set_cons_zero, List.set_cons_succ, Nat.reduceAdd, Nat.zero_add, Nat.add_zero, Nat.mul_one, Nat.mul_zero, Nat.zero_mul, Nat.reduceMul, Nat.reduceSub, Nat.reduceEqDiff, Nat.reduceLT, Nat.reduceLeDiff, Nat.reduceBEq, Nat.reduceBNe, Nat.succ_ne_self, reduceIte, if_true, if_false, ite_self, decide_true, decide_false, Bool.not_true, Bool.not_false, Bool.and_true, Bool.true_and, Bool.and_false, Bool.false_and, Bool.or_true, Bool.true_or, Bool.or_false, Bool.false_or, cond_true, cond_false, Int.reduceEq, Int.reduceLT, Int.reduceLE, Int.reduceNe, Int.reduceToNat, len_hds, ltNat, c3]
    refine w_quiet ?_
    simp -implicitDefEqProofs only [sims.1, fx.1, tick_on, calleeK, List.getElem?_toArray, extractV, oneV, faddrK, nonnil, b_shr, b_shl, eq_self, beq_self_eq_true, fieldK, Option.bind_some, Option.map_some, Option.bind_none, Option.map_none, List.map_cons, List.map_nil, List.getD_cons_zero, List.getD_cons_succ, List.getD_nil, List.length_nil, List.length_cons, List.length_set, List.nil_append, List.cons_append, List.append_nil, List.getElem?_cons_zero, List.getElem?_cons_succ, List.getElem?_nil, List.set_cons_zero, List.set_cons_succ, Nat.reduceAdd, Nat.zero_add, Nat.add_zero, Nat.mul_one, Nat.mul_zero, Nat.zero_mul, Nat.reduceMul, Nat.reduceSub, Nat.reduceEqDiff, Nat.reduceLT, Nat.reduceLeDiff, Nat.reduceBEq, Nat.reduceBNe, Nat.succ_ne_self, reduceIte, if_true, if_false, ite_self, decide_true, decide_false, Bool.not_true, Bool.not_false, Bool.and_true, Bool.true_and, Bool.and_false, Bool.false_and, Bool.or_true, Bool.true_or, Bool.or_false, Bool.false_or, cond_true, cond_false, Int.reduceEq, Int.reduceLT, Int.reduceLE, Int.reduceNe, Int.reduceToNat, io, ik, part_hd, cq]
    cases eo : eqH hs[i] hs[k]
    · simp -implicitDefEqProofs only [sims.1, fx.1, tick_on, calleeK, List.getElem?_toArray, extractV, oneV, faddrK, nonnil, b_shr, b_shl, eq_self, beq_self_eq_true, fieldK, Option.bind_some, Option.map_some, Option.bind_none, Option.map_none, List.map_cons, List.map_nil, List.getD_cons_zero, List.getD_cons_succ, List.getD_nil, List.length_nil, List.length_cons, List.length_set, List.nil_append, List.cons_append, List.append_nil, List.getElem?_cons_zero, List.getElem?_cons_succ, List.getElem?_nil, List.set_cons_zero, List.set_cons_succ, Nat.reduceAdd, Nat.zero_add, Nat.add_zero, Nat.mul_one, Nat.mul_zero, Nat.zero_mul, Nat.reduceMul, Nat.reduceSub, Nat.reduceEqDiff, Nat.reduceLT, Nat.reduceLeDiff, Nat.reduceBEq, Nat.reduceBNe, Nat.succ_ne_self, reduceIte, if_true, if_false, ite_self, decide_true, decide_false, Bool.not_true, Bool.not_false, Bool.and_true, Bool.true_and, Bool.and_false, Bool.false_and, Bool.or_true, Bool.true_or, Bool.or_false, Bool.false_or, cond_true, cond_false, Int.reduceEq, Int.reduceLT, Int.reduceLE, Int.reduceNe, Int.reduceToNat, w1]
      refine ⟨(i + 1, last), canM [.int .i64 ((i + 1 : Nat) : Int), .int .i64 (k : Int), .int .i64 (last : Int), .int .i64 (j : Int), intsV asks, .ptr 0 0, hdsV hs] (by kernel_rfl) (by kernel_rfl) (inDs_cons rfl (inDs_cons rfl (inDs_cons rfl (inDs_cons rfl (inDs_cons (nf_inD _ _ (nf_ints asks)) (inDs_cons rfl (inDs_cons (nf_inD _ _ (nf_hds hs)) rfl))))))) (by kernel_rfl) (by kernel_rfl), ⟨by simp only; omega, g2, ?_⟩, by simp only; omega⟩
      rcases g3 with ⟨q1, q2⟩ | ⟨q1, q2, q3⟩
      · refine .inl ⟨q1, fun x hx hx2 => ?_⟩
        by_cases hxi : x = i
        · subst hxi; exact eo
        · exact q2 x hx (by omega)
      · refine .inr ⟨by simp only; omega, q2, fun x hx hx1 hx2 => ?_⟩
        by_cases hxi : x = i
        · subst hxi; exact eo
        · exact q3 x hx hx1 (by omega)
    · simp -implicitDefEqProofs only [sims.1, fx.1, tick_on, calleeK, List.getElem?_toArray, extractV, oneV, faddrK, nonnil, b_shr, b_shl, eq_self, beq_self_eq_true, fieldK, Option.bind_some, Option.map_some, Option.bind_none, Option.map_none, List.map_cons, List.map_nil, List.getD_cons_zero, List.getD_cons_succ, List.getD_nil, List.length_nil, List.length_cons, List.length_set, List.nil_append, List.cons_append, List.append_nil, List.getElem?_cons_zero, List.getElem?_cons_succ, List.getElem?_nil, List.set_cons_zero, List.set_cons_succ, Nat.reduceAdd, Nat.zero_add, Nat.add_zero, Nat.mul_one, Nat.mul_zero, Nat.zero_mul, Nat.reduceMul, Nat.reduceSub, Nat.reduceEqDiff, Nat.reduceLT, Nat.reduceLeDiff, Nat.reduceBEq, Nat.reduceBNe, Nat.succ_ne_self, reduceIte, if_true, if_false, ite_self, decide_true, decide_false, Bool.not_true, Bool.not_false, Bool.and_true, Bool.true_and, Bool.and_false, Bool.false_and, Bool.or_true, Bool.true_or, Bool.or_false, Bool.false_or, cond_true, cond_false, Int.reduceEq, Int.reduceLT, Int.reduceLE, Int.reduceNe, Int.reduceToNat, w1]
      exact ⟨(i + 1, i), canM [.int .i64 ((i + 1 : Nat) : Int), .int .i64 (k : Int), .int .i64 (i : Int), .int .i64 (j : Int), intsV asks, .ptr 0 0, hdsV hs] (by kernel_rfl) (by kernel_rfl) (inDs_cons rfl (inDs_cons rfl (inDs_cons rfl (inDs_cons rfl (inDs_cons (nf_inD _ _ (nf_ints asks)) (inDs_cons rfl (inDs_cons (nf_inD _ _ (nf_hds hs)) rfl))))))) (by kernel_rfl) (by kernel_rfl),
        ⟨by simp only; omega, hi, .inr ⟨by simp only; omega, ⟨hi, eo⟩, fun x hx h1 h2 => by simp only at h1 h2; omega⟩⟩, by simp only; omega⟩
  · have c3 : decide (i < hs.length) = false := by simp; omega
    obtain ⟨r, r1, ⟨rg, r2, r3⟩, r4, r5, r6⟩ := R.got I hk (List.getElem?_eq_getElem hk)
    have hlast : last = r := by
      have hr : hs[r]? = some hs[r] := List.getElem?_eq_getElem r1
      rw [hr] at r2; cases r2
      rcases g3 with ⟨q1, q2⟩ | ⟨q1, ⟨q0, q2⟩, q3⟩
      · have := q2 k hk (by omega)
        rw [eqH_refl] at this; cases this
      · rcases Nat.lt_trichotomy last r with h | h | h
        · have := q3 r r1 h (by omega)
          rw [r3] at this; cases this
        · exact h
        · have := r4 last hs[last] h q0 (List.getElem?_eq_getElem q0)
          rw [q2] at this; cases this
    subst hlast
    have q29 := snd29' l a 0 hd hs[k] I hku
    rw [r5] at q29
    have wl : IntKind.i64.wrap ((last + 1 : Nat) : Int) = ((last + 1 : Nat) : Int) := by simp [IntKind.wrap, IntKind.bits, IntKind.signed]; omega
    have wl2 : ((last : Int) + 1) = ((last + 1 : Nat) : Int) := by omega
    simp -implicitDefEqProofs only [sims.1, fx.1, tick_on, calleeK, List.getElem?_toArray, extractV, oneV, faddrK, nonnil, b_shr, b_shl, eq_self, beq_self_eq_true, fieldK, Option.bind_some, Option.map_some, Option.bind_none, Option.map_none, List.map_cons, List.map_nil, List.getD_cons_zero, List.getD_cons_succ, List.getD_nil, List.length_nil, List.length_cons, List.length_set, List.nil_append, List.cons_append, List.append_nil, List.getElem?_cons_zero, List.getElem?_cons_succ, List.getElem?_nil, List.set_cons_zero, List.set_cons_succ, Nat.reduceAdd, Nat.zero_add, Nat.add_zero, Nat.mul_one, Nat.mul_zero, Nat.zero_mul, Nat.reduceMul, Nat.reduceSub, Nat.reduceEqDiff, Nat.reduceLT, Nat.reduceLeDiff, Nat.reduceBEq, Nat.reduceBNe, Nat.succ_ne_self, reduceIte, if_true, if_false, ite_self, decide_true, decide_false, Bool.not_true, Bool.not_false, Bool.and_true, Bool.true_and, Bool.and_false, Bool.false_and, Bool.or_true, Bool.true_or, Bool.or_false, Bool.false_or, cond_true, cond_false, Int.reduceEq, Int.reduceLT, Int.reduceLE, Int.reduceNe, Int.reduceToNat, len_hds, ltNat, c3, ik, part_hd]
    refine callD_c0 q29 en29 (by kernel_rfl) (by kernel_rfl) (by kernel_rfl) rfl ?_
    simp -implicitDefEqProofs only [sims.1, fx.1, tick_on, calleeK, List.getElem?_toArray, extractV, oneV, faddrK, nonnil, b_shr, b_shl, eq_self, beq_self_eq_true, fieldK, Option.bind_some, Option.map_some, Option.bind_none, Option.map_none, List.map_cons, List.map_nil, List.getD_cons_zero, List.getD_cons_succ, List.getD_nil, List.length_nil, List.length_cons, List.length_set, List.nil_append, List.cons_append, List.append_nil, List.getElem?_cons_zero, List.getElem?_cons_succ, List.getElem?_nil, List.set_cons_zero, List.set_cons_succ, Nat.reduceAdd, Nat.zero_add, Nat.add_zero, Nat.mul_one, Nat.mul_zero, Nat.zero_mul, Nat.reduceMul, Nat.reduceSub, Nat.reduceEqDiff, Nat.reduceLT, Nat.reduceLeDiff, Nat.reduceBEq, Nat.reduceBNe, Nat.succ_ne_self, reduceIte, if_true, if_false, ite_self, decide_true, decide_false, Bool.not_true, Bool.not_false, Bool.and_true, Bool.true_and, Bool.and_false, Bool.false_and, Bool.or_true, Bool.true_or, Bool.or_false, Bool.false_or, cond_true, cond_false, Int.reduceEq, Int.reduceLT, Int.reduceLE, Int.reduceNe, Int.reduceToNat, wl, wl2, wj]
    exact ⟨(j + 1, getL l 0 hs[k], getA l a 0 hs[k]), canM [intsV asks, .ptr 0 0, hdsV hs, .int .i64 ((j + 1 : Nat) : Int)] (by kernel_rfl) (by kernel_rfl) (inDs_cons (nf_inD _ _ (nf_ints asks)) (inDs_cons rfl (inDs_cons (nf_inD _ _ (nf_hds hs)) rfl))) (by kernel_rfl) (by kernel_rfl), ⟨by simp only; omega, get_inv I 0 _, by rw [get_len]; exact h2, r6⟩, by simp only; omega⟩
end Go.Proofs.Ytnhejkfbnjopjaa
