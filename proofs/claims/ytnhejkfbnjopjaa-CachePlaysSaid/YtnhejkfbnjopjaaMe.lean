/- 'Put' of a cache. No condition. -/
import Derived.Test.YtnhejkfbnjopjaaMd
namespace Go.Proofs.Ytnhejkfbnjopjaa
open Go Ab
set_option linter.unusedSimpArgs false
set_option linter.unusedVariables false
set_option maxRecDepth 20000

theorem closed3 {b0 : B} {ty s : Nat} {es : List (List V)} {ms : List (V × V)} {ex : Mem} (h0 : inDB (fun k => [0, 1, 2].contains k) b0 = true) (he : nfss es = true) (hm : nfp ms = true) : closedB [0, 1, 2] (b0 :: .row ty s es :: .map ms :: ex) = true := by
  have h1 : inDB (fun k => [0, 1, 2].contains k) (.row ty s es) = true := he
  have h2 : inDB (fun k => [0, 1, 2].contains k) (.map ms) = true := hm
  have h4 : nodupB [0, 1, 2] = true := rfl
  simp only [closedB, List.all_cons, List.all_nil, List.getD_cons_zero, List.getD_cons_succ, h0, h1, h2, h4, List.length_cons]
  simp

/-- A call that a cache's blocks are handed to. -/
theorem callD_ca {f : FuncId} {vs vs1 : List V} {v : V} {K Kp : V → Mem → Prop} {b0 b0' : B} {ty s ty' s' : Nat} {es es' : List (List V)} {ms ms' : List (V × V)} {ex : Mem}
    (h : Snd Try.prog f vs1 [b0, .row ty s es, .map ms] fun r => r = .ret v [b0', .row ty' s' es', .map ms']) (he : enterable Try.prog f = true) (hr : rootsV (b0 :: .row ty s es :: .map ms :: ex) vs = [0, 1, 2]) (hi : inDs (fun k => [0, 1, 2].contains k) vs = true)
    (hv1 : rens (idx [0, 1, 2]) vs = vs1) (h0 : inDB (fun k => [0, 1, 2].contains k) b0 = true) (hes : nfss es = true) (hms : nfp ms = true) (hb : renB (idx [0, 1, 2]) b0 = b0)
    (hv : nf v = true) (h0' : inDB (fun _ => true) b0' = true) (hes' : nfss es' = true) (hms' : nfp ms' = true) (hb' : ∀ N, renB (back [0, 1, 2] N) b0' = b0') (hk : K v (b0' :: .row ty' s' es' :: .map ms' :: ex)) :
    callD Try.prog f vs (b0 :: .row ty s es :: .map ms :: ex) K Kp := by
  have hview : view [0, 1, 2] (b0 :: .row ty s es :: .map ms :: ex) = [b0, .row ty s es, .map ms] := by
    simp only [view, List.map_cons, List.map_nil, List.getD_cons_zero, List.getD_cons_succ, hb]
    rfl
  unfold callD
  rw [hr]
  refine ⟨?_, he, _, by rw [hv1, hview]; exact h, ?_⟩
  · unfold okCall
    rw [hi, closed3 h0 hes hms]
    rfl
  · rintro r rfl
    have h1 : inDB (fun _ => true) (.row ty' s' es') = true := hes'
    have h2 : inDB (fun _ => true) (.map ms') = true := hms'
    refine ⟨?_, ?_⟩
    · simp only [okRes, CR.val, CR.mem, okBack, nf_inD _ _ hv, List.all_cons, List.all_nil, h0', h1, h2]
      simp
    · simp only [backV, List.isEmpty_cons, Bool.false_and, cond_false, ren_nf _ _ hv]
      have : merge [0, 1, 2] (b0 :: .row ty s es :: .map ms :: ex) [b0', .row ty' s' es', .map ms'] = b0' :: .row ty' s' es' :: .map ms' :: ex := by
        unfold merge
        simp only [List.length_cons, List.length_nil, List.take_succ_cons, List.take_zero, List.map_cons, List.map_nil, hb', List.drop_succ_cons, List.drop_zero, List.append_nil]
        rfl
      rw [this]
      exact hk

def en1 (h : Hd) (id : Int) (t : Nat) : Ent := ⟨h, id, t, false, true⟩
theorem bu_en (h : Hd) (id : Int) (t : Nat) : buildV Try.prog 69 [(0, .agg (hdC h)), (1, .int .i64 id), (2, .int .i64 (t : Int)), (4, .bool true)] = some (.agg (enC (en1 h id t))) := by kernel_rfl
def putR (l : List Ent) (a : List (Hd × Nat)) (t hd : Nat) (h : Hd) (id : Int) : List Ent × List (Hd × Nat) × Nat :=
  if l.length = 0 then (l, a, hd) else match fnd l h with
  | some k => match l[k]? with
    | some e => (l.set k { e with id := id, turn := t }, a, hd)
    | none => (l, a, hd)
  | none => match free l with
    | some k => (l.set k (en1 h id t), a ++ [(h, k)], hd)
    | none => match (clk t (l.length + 1) l hd).1[(clk t (l.length + 1) l hd).2]? with
      | some e => ((clk t (l.length + 1) l hd).1.set (clk t (l.length + 1) l hd).2 (en1 h id t), atDel e.h a ++ [(h, (clk t (l.length + 1) l hd).2)], ((clk t (l.length + 1) l hd).2 + 1) % l.length)
      | none => (l, a, hd)
theorem free_some {l : List Ent} {k : Nat} (h : free l = some k) : ∃ hk : k < l.length, l[k].full = false := by
  unfold free at h
  obtain ⟨hk, h1, _⟩ := List.findIdx?_eq_some_iff_getElem.1 h
  exact ⟨hk, by simpa using h1⟩
theorem free_all {l : List Ent} (h : free l = none) : ∀ e ∈ l, e.full = true := by
  unfold free at h
  rw [List.findIdx?_eq_none_iff] at h
  intro e he
  simpa using h e he
theorem fnd_clk {h : Hd} (t : Nat) : ∀ (n : Nat) (l : List Ent) (i : Nat), fnd l h = none → fnd (clk t n l i).1 h = none
  | 0, _, _, hf => hf
  | n + 1, l, i, hf => by
    unfold clk
    split
    · rename_i e he
      cases hot t e with
      | true =>
        simp only [cond_true]
        refine fnd_clk t n _ _ ?_
        unfold fnd
        rw [List.findIdx?_eq_none_iff]
        intro x hx
        rcases List.mem_or_eq_of_mem_set hx with h' | rfl
        · have := fnd_none hf x h'
          cases hfl : x.full with
          | false => rfl
          | true => simp [this hfl]
        · have := fnd_none hf e (List.mem_of_getElem? he)
          cases hfl : e.full with
          | false => simp [hfl]
          | true => simp [this hfl]
      | false => exact hf
    · exact hf
theorem atDel_sub {h : Hd} {a : List (Hd × Nat)} (ha : Apart a) : ∀ p ∈ atDel h a, p ∈ a := by
  rw [atDel_filter h ha]
  intro p hp
  exact (List.mem_filter.1 hp).1

theorem putR_inv {l : List Ent} {a : List (Hd × Nat)} {t hd : Nat} {h : Hd} {id : Int} (I : Inv l a) (hh : U64h h) (hd0 : l.length = 0 ∨ hd < l.length) : Inv (putR l a t hd h id).1 (putR l a t hd h id).2.1 ∧ (putR l a t hd h id).1.length = l.length ∧ ((putR l a t hd h id).1.length = 0 ∨ (putR l a t hd h id).2.2 < l.length) := by
  unfold putR
  by_cases h0 : l.length = 0
  · rw [if_pos h0]
    exact ⟨I, rfl, .inl h0⟩
  · rw [if_neg h0]
    have hlt : hd < l.length := by omega
    cases hf : fnd l h with
    | some k =>
      simp only
      cases hk : l[k]? with
      | none => exact ⟨I, rfl, .inr hlt⟩
      | some e =>
        obtain ⟨hk', rfl⟩ := List.getElem?_eq_some_iff.1 hk
        exact ⟨I.same hk' rfl rfl, by simp, .inr hlt⟩
    | none =>
      simp only
      cases hfr : free l with
      | some k =>
        obtain ⟨hk, hfull⟩ := free_some hfr
        exact ⟨I.fill hk hfull (e := en1 h id t) rfl hh hf, by simp, .inr hlt⟩
      | none =>
        simp only
        have hx := clk_lt t (l.length + 1) l hd hlt
        have hlen := clk_len t (l.length + 1) l hd
        rw [List.getElem?_eq_getElem (by omega)]
        simp only
        have I2 := clk_inv t (l.length + 1) l hd I
        have hfull := clk_full t (l.length + 1) l hd (free_all hfr)
        exact ⟨I2.swap (by omega) (hfull _ (List.getElem_mem _)) (e := en1 h id t) rfl hh (fnd_clk t _ _ _ hf), by rw [List.length_set]; exact hlen, .inr (Nat.mod_lt _ (by omega))⟩

theorem nat0 (n : Nat) : decide ((n : Int) = 0) = decide (n = 0) := by rw [Bool.eq_iff_iff]; simp
theorem rs31 (env : Env) (m : Mem) : resV Try.prog Try.prog.funcs[31] env m = some (.tup []) := rfl
theorem rs33 (env : Env) (m : Mem) : resV Try.prog Try.prog.funcs[33] env m = some (.tup []) := rfl
theorem hb3 (n t hd : Nat) : ∀ N, renB (back [0, 1, 2] N) (caV n t hd) = caV n t hd := fun N => rfl

set_option maxHeartbeats 4000000 in
theorem snd31 (l : List Ent) (a : List (Hd × Nat)) (t hd : Nat) (h : Hd) (id : Int) (I : Inv l a) (hh : U64h h) (hs : l.length ≤ 1024) (hd0 : l.length = 0 ∨ hd < l.length) :
    Snd Try.prog 31 [.ptr 0 0, hdA h, .int .i64 id] (caM l a t hd) fun r => r = .ret (.tup []) (caM (putR l a t hd h id).1 (putR l a t hd h id).2.1 t (putR l a t hd h id).2.2) := by
  refine Snd_trim (Snd_of_W fol rfl rfl (by kernel_rfl) (by kernel_rfl) ?_)
  have hI := I.find h
  unfold putR
  unfold caM caV hdA
  by_cases h0 : l.length = 0
  · rw [if_pos h0]
    have c0 : decide (l.length = 0) = true := by simpa using h0
    simp -implicitDefEqProofs only [sims.1, fx.1, tick_on, calleeK, List.getElem?_toArray, extractV, oneV, faddrK, nonnil, b_shr, b_shl, eq_self, beq_self_eq_true, fieldK, Option.bind_some, Option.map_some, Option.bind_none, Option.map_none, List.map_cons, List.map_nil, List.getD_cons_zero, List.getD_cons_succ, List.getD_nil, List.length_nil, List.length_cons, List.length_set, List.nil_append, List.cons_append, List.append_nil, List.getElem?_cons_zero, List.getElem?_cons_succ, List.getElem?_nil, List.set_cons_zero, List.set_cons_succ, Nat.reduceAdd, Nat.zero_add, Nat.add_zero, Nat.mul_one, Nat.mul_zero, Nat.zero_mul, Nat.reduceMul, Nat.reduceSub, Nat.reduceEqDiff, Nat.reduceLT, Nat.reduceLeDiff, Nat.reduceBEq, Nat.reduceBNe, Nat.succ_ne_self, reduceIte, if_true, if_false, ite_self, decide_true, decide_false, Bool.not_true, Bool.not_false, Bool.and_true, Bool.true_and, Bool.and_false, Bool.false_and, Bool.or_true, Bool.true_or, Bool.or_false, Bool.false_or, cond_true, cond_false, Int.reduceEq, Int.reduceLT, Int.reduceLE, Int.reduceNe, Int.reduceToNat, evO_nilp, pe1, rl1, lns60, nat0, c0, rs31]
    exact ⟨_, _, _, _, rfl, rfl, canC [] (by kernel_rfl) (by kernel_rfl) rfl (by kernel_rfl) (nfs_ens l) (nfp_at a) rfl rfl (by kernel_rfl), rfl⟩
  rw [if_neg h0]
  have c0 : decide (l.length = 0) = false := by simpa using h0
  simp -implicitDefEqProofs only [sims.1, fx.1, tick_on, calleeK, List.getElem?_toArray, extractV, oneV, faddrK, nonnil, b_shr, b_shl, eq_self, beq_self_eq_true, fieldK, Option.bind_some, Option.map_some, Option.bind_none, Option.map_none, List.map_cons, List.map_nil, List.getD_cons_zero, List.getD_cons_succ, List.getD_nil, List.length_nil, List.length_cons, List.length_set, List.nil_append, List.cons_append, List.append_nil, List.getElem?_cons_zero, List.getElem?_cons_succ, List.getElem?_nil, List.set_cons_zero, List.set_cons_succ, Nat.reduceAdd, Nat.zero_add, Nat.add_zero, Nat.mul_one, Nat.mul_zero, Nat.zero_mul, Nat.reduceMul, Nat.reduceSub, Nat.reduceEqDiff, Nat.reduceLT, Nat.reduceLeDiff, Nat.reduceBEq, Nat.reduceBNe, Nat.succ_ne_self, reduceIte, if_true, if_false, ite_self, decide_true, decide_false, Bool.not_true, Bool.not_false, Bool.and_true, Bool.true_and, Bool.and_false, Bool.false_and, Bool.or_true, Bool.true_or, Bool.or_false, Bool.false_or, cond_true, cond_false, Int.reduceEq, Int.reduceLT, Int.reduceLE, Int.reduceNe, Int.reduceToNat, evO_nilp, pe1, rl1, lns60, nat0, c0]
  refine w_quiet ?_
  simp -implicitDefEqProofs only [sims.1, fx.1, tick_on, calleeK, List.getElem?_toArray, extractV, oneV, faddrK, nonnil, b_shr, b_shl, eq_self, beq_self_eq_true, fieldK, Option.bind_some, Option.map_some, Option.bind_none, Option.map_none, List.map_cons, List.map_nil, List.getD_cons_zero, List.getD_cons_succ, List.getD_nil, List.length_nil, List.length_cons, List.length_set, List.nil_append, List.cons_append, List.append_nil, List.getElem?_cons_zero, List.getElem?_cons_succ, List.getElem?_nil, List.set_cons_zero, List.set_cons_succ, Nat.reduceAdd, Nat.zero_add, Nat.add_zero, Nat.mul_one, Nat.mul_zero, Nat.zero_mul, Nat.reduceMul, Nat.reduceSub, Nat.reduceEqDiff, Nat.reduceLT, Nat.reduceLeDiff, Nat.reduceBEq, Nat.reduceBNe, Nat.succ_ne_self, reduceIte, if_true, if_false, ite_self, decide_true, decide_false, Bool.not_true, Bool.not_false, Bool.and_true, Bool.true_and, Bool.and_false, Bool.false_and, Bool.or_true, Bool.true_or, Bool.or_false, Bool.false_or, cond_true, cond_false, Int.reduceEq, Int.reduceLT, Int.reduceLE, Int.reduceNe, Int.reduceToNat, part_hd, rl1, look_at' hh, findV_at hh I.keys]
  cases hf : fnd l h with
  | some k =>
    rw [hf] at hI
    obtain ⟨i, hi⟩ := hI
    obtain ⟨hk, hfull, heq⟩ := fnd_some hf
    have hle : l[k]? = some l[k] := List.getElem?_eq_getElem hk
    have he : (l.map enC)[k]? = some (enC l[k]) := rows_at hk
    simp -implicitDefEqProofs only [sims.1, fx.1, tick_on, calleeK, List.getElem?_toArray, extractV, oneV, faddrK, nonnil, b_shr, b_shl, eq_self, beq_self_eq_true, fieldK, Option.bind_some, Option.map_some, Option.bind_none, Option.map_none, List.map_cons, List.map_nil, List.getD_cons_zero, List.getD_cons_succ, List.getD_nil, List.length_nil, List.length_cons, List.length_set, List.nil_append, List.cons_append, List.append_nil, List.getElem?_cons_zero, List.getElem?_cons_succ, List.getElem?_nil, List.set_cons_zero, List.set_cons_succ, Nat.reduceAdd, Nat.zero_add, Nat.add_zero, Nat.mul_one, Nat.mul_zero, Nat.zero_mul, Nat.reduceMul, Nat.reduceSub, Nat.reduceEqDiff, Nat.reduceLT, Nat.reduceLeDiff, Nat.reduceBEq, Nat.reduceBNe, Nat.succ_ne_self, reduceIte, if_true, if_false, ite_self, decide_true, decide_false, Bool.not_true, Bool.not_false, Bool.and_true, Bool.true_and, Bool.and_false, Bool.false_and, Bool.or_true, Bool.true_or, Bool.or_false, Bool.false_or, cond_true, cond_false, Int.reduceEq, Int.reduceLT, Int.reduceLE, Int.reduceNe, Int.reduceToNat, hi, hle]
    generalize l[k] = e at *
    refine w_noisy ?_
    simp -implicitDefEqProofs only [sims.1, fx.1, tick_on, calleeK, List.getElem?_toArray, extractV, oneV, faddrK, nonnil, b_shr, b_shl, eq_self, beq_self_eq_true, fieldK, Option.bind_some, Option.map_some, Option.bind_none, Option.map_none, List.map_cons, List.map_nil, List.getD_cons_zero, List.getD_cons_succ, List.getD_nil, List.length_nil, List.length_cons, List.length_set, List.nil_append, List.cons_append, List.append_nil, List.getElem?_cons_zero, List.getElem?_cons_succ, List.getElem?_nil, List.set_cons_zero, List.set_cons_succ, Nat.reduceAdd, Nat.zero_add, Nat.add_zero, Nat.mul_one, Nat.mul_zero, Nat.zero_mul, Nat.reduceMul, Nat.reduceSub, Nat.reduceEqDiff, Nat.reduceLT, Nat.reduceLeDiff, Nat.reduceBEq, Nat.reduceBNe, Nat.succ_ne_self, reduceIte, if_true, if_false, ite_self, decide_true, decide_false, Bool.not_true, Bool.not_false, Bool.and_true, Bool.true_and, Bool.and_false, Bool.false_and, Bool.or_true, Bool.true_or, Bool.or_false, Bool.false_or, cond_true, cond_false, Int.reduceEq, Int.reduceLT, Int.reduceLE, Int.reduceNe, Int.reduceToNat, rl1, rl2, iaS hk]
    iterate 3
      refine orderP_of (by kernel_rfl) ?_
      simp -implicitDefEqProofs only [sims.1, fx.1, tick_on, calleeK, List.getElem?_toArray, extractV, oneV, faddrK, nonnil, b_shr, b_shl, eq_self, beq_self_eq_true, fieldK, Option.bind_some, Option.map_some, Option.bind_none, Option.map_none, List.map_cons, List.map_nil, List.getD_cons_zero, List.getD_cons_succ, List.getD_nil, List.length_nil, List.length_cons, List.length_set, List.nil_append, List.cons_append, List.append_nil, List.getElem?_cons_zero, List.getElem?_cons_succ, List.getElem?_nil, List.set_cons_zero, List.set_cons_succ, Nat.reduceAdd, Nat.zero_add, Nat.add_zero, Nat.mul_one, Nat.mul_zero, Nat.zero_mul, Nat.reduceMul, Nat.reduceSub, Nat.reduceEqDiff, Nat.reduceLT, Nat.reduceLeDiff, Nat.reduceBEq, Nat.reduceBNe, Nat.succ_ne_self, reduceIte, if_true, if_false, ite_self, decide_true, decide_false, Bool.not_true, Bool.not_false, Bool.and_true, Bool.true_and, Bool.and_false, Bool.false_and, Bool.or_true, Bool.true_or, Bool.or_false, Bool.false_or, cond_true, cond_false, Int.reduceEq, Int.reduceLT, Int.reduceLE, Int.reduceNe, Int.reduceToNat, rl1, rl2, iaS hk]
    refine bindO_some' (st_ep rfl rfl he (by rw [en_len]; decide)) ?_
    refine orderP_of (by kernel_rfl) ?_
    simp -implicitDefEqProofs only [sims.1, fx.1, tick_on, calleeK, List.getElem?_toArray, extractV, oneV, faddrK, nonnil, b_shr, b_shl, eq_self, beq_self_eq_true, fieldK, Option.bind_some, Option.map_some, Option.bind_none, Option.map_none, List.map_cons, List.map_nil, List.getD_cons_zero, List.getD_cons_succ, List.getD_nil, List.length_nil, List.length_cons, List.length_set, List.nil_append, List.cons_append, List.append_nil, List.getElem?_cons_zero, List.getElem?_cons_succ, List.getElem?_nil, List.set_cons_zero, List.set_cons_succ, Nat.reduceAdd, Nat.zero_add, Nat.add_zero, Nat.mul_one, Nat.mul_zero, Nat.zero_mul, Nat.reduceMul, Nat.reduceSub, Nat.reduceEqDiff, Nat.reduceLT, Nat.reduceLeDiff, Nat.reduceBEq, Nat.reduceBNe, Nat.succ_ne_self, reduceIte, if_true, if_false, ite_self, decide_true, decide_false, Bool.not_true, Bool.not_false, Bool.and_true, Bool.true_and, Bool.and_false, Bool.false_and, Bool.or_true, Bool.true_or, Bool.or_false, Bool.false_or, cond_true, cond_false, Int.reduceEq, Int.reduceLT, Int.reduceLE, Int.reduceNe, Int.reduceToNat, rl1, rl2, iaS hk, en_id, rows_set]
    have he2 : ((l.set k { e with id := id }).map enC)[k]? = some (enC { e with id := id }) := by rw [List.getElem?_map, List.getElem?_set_self hk]; rfl
    refine bindO_some' (st_ep rfl rfl he2 (by rw [en_len]; decide)) ?_
    refine orderP_of (by kernel_rfl) ?_
    simp -implicitDefEqProofs only [sims.1, fx.1, tick_on, calleeK, List.getElem?_toArray, extractV, oneV, faddrK, nonnil, b_shr, b_shl, eq_self, beq_self_eq_true, fieldK, Option.bind_some, Option.map_some, Option.bind_none, Option.map_none, List.map_cons, List.map_nil, List.getD_cons_zero, List.getD_cons_succ, List.getD_nil, List.length_nil, List.length_cons, List.length_set, List.nil_append, List.cons_append, List.append_nil, List.getElem?_cons_zero, List.getElem?_cons_succ, List.getElem?_nil, List.set_cons_zero, List.set_cons_succ, Nat.reduceAdd, Nat.zero_add, Nat.add_zero, Nat.mul_one, Nat.mul_zero, Nat.zero_mul, Nat.reduceMul, Nat.reduceSub, Nat.reduceEqDiff, Nat.reduceLT, Nat.reduceLeDiff, Nat.reduceBEq, Nat.reduceBNe, Nat.succ_ne_self, reduceIte, if_true, if_false, ite_self, decide_true, decide_false, Bool.not_true, Bool.not_false, Bool.and_true, Bool.true_and, Bool.and_false, Bool.false_and, Bool.or_true, Bool.true_or, Bool.or_false, Bool.false_or, cond_true, cond_false, Int.reduceEq, Int.reduceLT, Int.reduceLE, Int.reduceNe, Int.reduceToNat, rl1, rl2, iaS hk, en_turn, rows_set, List.set_set, rs31]
    refine ⟨_, _, _, _, rfl, rfl, canC [] (by kernel_rfl) (by kernel_rfl) rfl (by kernel_rfl) (nfs_ens _) (nfp_at _) rfl rfl (by kernel_rfl), ?_⟩
    simp only [caM, caV, hle, List.length_set]
  | none =>
    rw [hf] at hI
    simp -implicitDefEqProofs only [sims.1, fx.1, tick_on, calleeK, List.getElem?_toArray, extractV, oneV, faddrK, nonnil, b_shr, b_shl, eq_self, beq_self_eq_true, fieldK, Option.bind_some, Option.map_some, Option.bind_none, Option.map_none, List.map_cons, List.map_nil, List.getD_cons_zero, List.getD_cons_succ, List.getD_nil, List.length_nil, List.length_cons, List.length_set, List.nil_append, List.cons_append, List.append_nil, List.getElem?_cons_zero, List.getElem?_cons_succ, List.getElem?_nil, List.set_cons_zero, List.set_cons_succ, Nat.reduceAdd, Nat.zero_add, Nat.add_zero, Nat.mul_one, Nat.mul_zero, Nat.zero_mul, Nat.reduceMul, Nat.reduceSub, Nat.reduceEqDiff, Nat.reduceLT, Nat.reduceLeDiff, Nat.reduceBEq, Nat.reduceBNe, Nat.succ_ne_self, reduceIte, if_true, if_false, ite_self, decide_true, decide_false, Bool.not_true, Bool.not_false, Bool.and_true, Bool.true_and, Bool.and_false, Bool.false_and, Bool.or_true, Bool.true_or, Bool.or_false, Bool.false_or, cond_true, cond_false, Int.reduceEq, Int.reduceLT, Int.reduceLE, Int.reduceNe, Int.reduceToNat, hI]
    have hlt : hd < l.length := by omega
    have q := snd41 l a t hd I (by omega) hs hlt
    have qi := putR_inv (t := t) (id := id) I hh hd0
    unfold placeR at q
    cases hfr : free l with
    | some k =>
      rw [hfr] at q
      obtain ⟨hk, hfull⟩ := free_some hfr
      have he : (l.map enC)[k]? = some (enC l[k]) := rows_at hk
      refine callD_ca (b0' := caV l.length t hd) (es' := l.map enC) (ms' := a.map atC) (v := .int .i64 (k : Int)) q en41 (by kernel_rfl) rfl rfl (by kernel_rfl) (nfs_ens l) (nfp_at a) (by kernel_rfl) rfl (by kernel_rfl) (nfs_ens l) (nfp_at a) (hb3 _ _ _) ?_
      unfold caV
      simp -implicitDefEqProofs only [sims.1, fx.1, tick_on, calleeK, List.getElem?_toArray, extractV, oneV, faddrK, nonnil, b_shr, b_shl, eq_self, beq_self_eq_true, fieldK, Option.bind_some, Option.map_some, Option.bind_none, Option.map_none, List.map_cons, List.map_nil, List.getD_cons_zero, List.getD_cons_succ, List.getD_nil, List.length_nil, List.length_cons, List.length_set, List.nil_append, List.cons_append, List.append_nil, List.getElem?_cons_zero, List.getElem?_cons_succ, List.getElem?_nil, List.set_cons_zero, List.set_cons_succ, Nat.reduceAdd, Nat.zero_add, Nat.add_zero, Nat.mul_one, Nat.mul_zero, Nat.zero_mul, Nat.reduceMul, Nat.reduceSub, Nat.reduceEqDiff, Nat.reduceLT, Nat.reduceLeDiff, Nat.reduceBEq, Nat.reduceBNe, Nat.succ_ne_self, reduceIte, if_true, if_false, ite_self, decide_true, decide_false, Bool.not_true, Bool.not_false, Bool.and_true, Bool.true_and, Bool.and_false, Bool.false_and, Bool.or_true, Bool.true_or, Bool.or_false, Bool.false_or, cond_true, cond_false, Int.reduceEq, Int.reduceLT, Int.reduceLE, Int.reduceNe, Int.reduceToNat]
      refine w_noisy ?_
      simp -implicitDefEqProofs only [sims.1, fx.1, tick_on, calleeK, List.getElem?_toArray, extractV, oneV, faddrK, nonnil, b_shr, b_shl, eq_self, beq_self_eq_true, fieldK, Option.bind_some, Option.map_some, Option.bind_none, Option.map_none, List.map_cons, List.map_nil, List.getD_cons_zero, List.getD_cons_succ, List.getD_nil, List.length_nil, List.length_cons, List.length_set, List.nil_append, List.cons_append, List.append_nil, List.getElem?_cons_zero, List.getElem?_cons_succ, List.getElem?_nil, List.set_cons_zero, List.set_cons_succ, Nat.reduceAdd, Nat.zero_add, Nat.add_zero, Nat.mul_one, Nat.mul_zero, Nat.zero_mul, Nat.reduceMul, Nat.reduceSub, Nat.reduceEqDiff, Nat.reduceLT, Nat.reduceLeDiff, Nat.reduceBEq, Nat.reduceBNe, Nat.succ_ne_self, reduceIte, if_true, if_false, ite_self, decide_true, decide_false, Bool.not_true, Bool.not_false, Bool.and_true, Bool.true_and, Bool.and_false, Bool.false_and, Bool.or_true, Bool.true_or, Bool.or_false, Bool.false_or, cond_true, cond_false, Int.reduceEq, Int.reduceLT, Int.reduceLE, Int.reduceNe, Int.reduceToNat, rl1, rl2, iaS hk, part_hd]
      iterate 4
        first
        | (refine orderP_of (by kernel_rfl) ?_
           simp -implicitDefEqProofs only [sims.1, fx.1, tick_on, calleeK, List.getElem?_toArray, extractV, oneV, faddrK, nonnil, b_shr, b_shl, eq_self, beq_self_eq_true, fieldK, Option.bind_some, Option.map_some, Option.bind_none, Option.map_none, List.map_cons, List.map_nil, List.getD_cons_zero, List.getD_cons_succ, List.getD_nil, List.length_nil, List.length_cons, List.length_set, List.nil_append, List.cons_append, List.append_nil, List.getElem?_cons_zero, List.getElem?_cons_succ, List.getElem?_nil, List.set_cons_zero, List.set_cons_succ, Nat.reduceAdd, Nat.zero_add, Nat.add_zero, Nat.mul_one, Nat.mul_zero, Nat.zero_mul, Nat.reduceMul, Nat.reduceSub, Nat.reduceEqDiff, Nat.reduceLT, Nat.reduceLeDiff, Nat.reduceBEq, Nat.reduceBNe, Nat.succ_ne_self, reduceIte, if_true, if_false, ite_self, decide_true, decide_false, Bool.not_true, Bool.not_false, Bool.and_true, Bool.true_and, Bool.and_false, Bool.false_and, Bool.or_true, Bool.true_or, Bool.or_false, Bool.false_or, cond_true, cond_false, Int.reduceEq, Int.reduceLT, Int.reduceLE, Int.reduceNe, Int.reduceToNat, rl1, rl2, iaS hk, part_hd, bu_en])
        | skip
      refine bindO_some' (st_epA rfl he (en_len _) (en_len _)) ?_
      refine orderP_of (by kernel_rfl) ?_
      simp -implicitDefEqProofs only [sims.1, fx.1, tick_on, calleeK, List.getElem?_toArray, extractV, oneV, faddrK, nonnil, b_shr, b_shl, eq_self, beq_self_eq_true, fieldK, Option.bind_some, Option.map_some, Option.bind_none, Option.map_none, List.map_cons, List.map_nil, List.getD_cons_zero, List.getD_cons_succ, List.getD_nil, List.length_nil, List.length_cons, List.length_set, List.nil_append, List.cons_append, List.append_nil, List.getElem?_cons_zero, List.getElem?_cons_succ, List.getElem?_nil, List.set_cons_zero, List.set_cons_succ, Nat.reduceAdd, Nat.zero_add, Nat.add_zero, Nat.mul_one, Nat.mul_zero, Nat.zero_mul, Nat.reduceMul, Nat.reduceSub, Nat.reduceEqDiff, Nat.reduceLT, Nat.reduceLeDiff, Nat.reduceBEq, Nat.reduceBNe, Nat.succ_ne_self, reduceIte, if_true, if_false, ite_self, decide_true, decide_false, Bool.not_true, Bool.not_false, Bool.and_true, Bool.true_and, Bool.and_false, Bool.false_and, Bool.or_true, Bool.true_or, Bool.or_false, Bool.false_or, cond_true, cond_false, Int.reduceEq, Int.reduceLT, Int.reduceLE, Int.reduceNe, Int.reduceToNat, en_put, rows_set]
      refine w_noisy ?_
      simp -implicitDefEqProofs only [sims.1, fx.1, tick_on, calleeK, List.getElem?_toArray, extractV, oneV, faddrK, nonnil, b_shr, b_shl, eq_self, beq_self_eq_true, fieldK, Option.bind_some, Option.map_some, Option.bind_none, Option.map_none, List.map_cons, List.map_nil, List.getD_cons_zero, List.getD_cons_succ, List.getD_nil, List.length_nil, List.length_cons, List.length_set, List.nil_append, List.cons_append, List.append_nil, List.getElem?_cons_zero, List.getElem?_cons_succ, List.getElem?_nil, List.set_cons_zero, List.set_cons_succ, Nat.reduceAdd, Nat.zero_add, Nat.add_zero, Nat.mul_one, Nat.mul_zero, Nat.zero_mul, Nat.reduceMul, Nat.reduceSub, Nat.reduceEqDiff, Nat.reduceLT, Nat.reduceLeDiff, Nat.reduceBEq, Nat.reduceBNe, Nat.succ_ne_self, reduceIte, if_true, if_false, ite_self, decide_true, decide_false, Bool.not_true, Bool.not_false, Bool.and_true, Bool.true_and, Bool.and_false, Bool.false_and, Bool.or_true, Bool.true_or, Bool.or_false, Bool.false_or, cond_true, cond_false, Int.reduceEq, Int.reduceLT, Int.reduceLE, Int.reduceNe, Int.reduceToNat, rl1, rl2, part_hd]
      iterate 4
        first
        | (refine orderP_of (by kernel_rfl) ?_
           simp -implicitDefEqProofs only [sims.1, fx.1, tick_on, calleeK, List.getElem?_toArray, extractV, oneV, faddrK, nonnil, b_shr, b_shl, eq_self, beq_self_eq_true, fieldK, Option.bind_some, Option.map_some, Option.bind_none, Option.map_none, List.map_cons, List.map_nil, List.getD_cons_zero, List.getD_cons_succ, List.getD_nil, List.length_nil, List.length_cons, List.length_set, List.nil_append, List.cons_append, List.append_nil, List.getElem?_cons_zero, List.getElem?_cons_succ, List.getElem?_nil, List.set_cons_zero, List.set_cons_succ, Nat.reduceAdd, Nat.zero_add, Nat.add_zero, Nat.mul_one, Nat.mul_zero, Nat.zero_mul, Nat.reduceMul, Nat.reduceSub, Nat.reduceEqDiff, Nat.reduceLT, Nat.reduceLeDiff, Nat.reduceBEq, Nat.reduceBNe, Nat.succ_ne_self, reduceIte, if_true, if_false, ite_self, decide_true, decide_false, Bool.not_true, Bool.not_false, Bool.and_true, Bool.true_and, Bool.and_false, Bool.false_and, Bool.or_true, Bool.true_or, Bool.or_false, Bool.false_or, cond_true, cond_false, Int.reduceEq, Int.reduceLT, Int.reduceLE, Int.reduceNe, Int.reduceToNat, rl1, rl2, part_hd])
        | skip
      refine bindO_some' (put_at (l := a) rfl hh I.keys hI) ?_
      refine orderP_of (by kernel_rfl) ?_
      simp -implicitDefEqProofs only [sims.1, fx.1, tick_on, calleeK, List.getElem?_toArray, extractV, oneV, faddrK, nonnil, b_shr, b_shl, eq_self, beq_self_eq_true, fieldK, Option.bind_some, Option.map_some, Option.bind_none, Option.map_none, List.map_cons, List.map_nil, List.getD_cons_zero, List.getD_cons_succ, List.getD_nil, List.length_nil, List.length_cons, List.length_set, List.nil_append, List.cons_append, List.append_nil, List.getElem?_cons_zero, List.getElem?_cons_succ, List.getElem?_nil, List.set_cons_zero, List.set_cons_succ, Nat.reduceAdd, Nat.zero_add, Nat.add_zero, Nat.mul_one, Nat.mul_zero, Nat.zero_mul, Nat.reduceMul, Nat.reduceSub, Nat.reduceEqDiff, Nat.reduceLT, Nat.reduceLeDiff, Nat.reduceBEq, Nat.reduceBNe, Nat.succ_ne_self, reduceIte, if_true, if_false, ite_self, decide_true, decide_false, Bool.not_true, Bool.not_false, Bool.and_true, Bool.true_and, Bool.and_false, Bool.false_and, Bool.or_true, Bool.true_or, Bool.or_false, Bool.false_or, cond_true, cond_false, Int.reduceEq, Int.reduceLT, Int.reduceLE, Int.reduceNe, Int.reduceToNat, rs31]
      refine ⟨_, _, _, _, rfl, rfl, canC [] (by kernel_rfl) (by kernel_rfl) rfl (by kernel_rfl) (nfs_ens _) (nfp_at _) rfl rfl (by kernel_rfl), ?_⟩
      simp only [caM, caV, List.length_set]
    | none =>
      rw [hfr] at q
      simp only at q
      have hx := clk_lt t (l.length + 1) l hd hlt
      have hlen := clk_len t (l.length + 1) l hd
      have I2 := clk_inv t (l.length + 1) l hd I
      generalize (clk t (l.length + 1) l hd).1 = l2 at *
      generalize (clk t (l.length + 1) l hd).2 = k at *
      have hk : k < l2.length := by omega
      rw [List.getElem?_eq_getElem hk] at q ⊢
      simp only at q ⊢
      have he : (l2.map enC)[k]? = some (enC l2[k]) := rows_at hk
      have hI2 : atFind h (atDel l2[k].h a) 0 = none := atFind_none.2 fun p hp => atFind_none.1 hI p (atDel_sub I.apart p hp)
      have hkeys : U64at (atDel l2[k].h a) := fun p hp => I.keys p (atDel_sub I.apart p hp)
      generalize l2[k] = e at *
      generalize atDel e.h a = a2 at *
      refine callD_ca (b0' := caV l2.length t ((k + 1) % l.length)) (es' := l2.map enC) (ms' := a2.map atC) (v := .int .i64 (k : Int)) q en41 (by kernel_rfl) rfl rfl (by kernel_rfl) (nfs_ens l) (nfp_at a) (by kernel_rfl) rfl (by kernel_rfl) (nfs_ens l2) (nfp_at a2) (hb3 _ _ _) ?_
      unfold caV
      simp -implicitDefEqProofs only [sims.1, fx.1, tick_on, calleeK, List.getElem?_toArray, extractV, oneV, faddrK, nonnil, b_shr, b_shl, eq_self, beq_self_eq_true, fieldK, Option.bind_some, Option.map_some, Option.bind_none, Option.map_none, List.map_cons, List.map_nil, List.getD_cons_zero, List.getD_cons_succ, List.getD_nil, List.length_nil, List.length_cons, List.length_set, List.nil_append, List.cons_append, List.append_nil, List.getElem?_cons_zero, List.getElem?_cons_succ, List.getElem?_nil, List.set_cons_zero, List.set_cons_succ, Nat.reduceAdd, Nat.zero_add, Nat.add_zero, Nat.mul_one, Nat.mul_zero, Nat.zero_mul, Nat.reduceMul, Nat.reduceSub, Nat.reduceEqDiff, Nat.reduceLT, Nat.reduceLeDiff, Nat.reduceBEq, Nat.reduceBNe, Nat.succ_ne_self, reduceIte, if_true, if_false, ite_self, decide_true, decide_false, Bool.not_true, Bool.not_false, Bool.and_true, Bool.true_and, Bool.and_false, Bool.false_and, Bool.or_true, Bool.true_or, Bool.or_false, Bool.false_or, cond_true, cond_false, Int.reduceEq, Int.reduceLT, Int.reduceLE, Int.reduceNe, Int.reduceToNat]
      refine w_noisy ?_
      simp -implicitDefEqProofs only [sims.1, fx.1, tick_on, calleeK, List.getElem?_toArray, extractV, oneV, faddrK, nonnil, b_shr, b_shl, eq_self, beq_self_eq_true, fieldK, Option.bind_some, Option.map_some, Option.bind_none, Option.map_none, List.map_cons, List.map_nil, List.getD_cons_zero, List.getD_cons_succ, List.getD_nil, List.length_nil, List.length_cons, List.length_set, List.nil_append, List.cons_append, List.append_nil, List.getElem?_cons_zero, List.getElem?_cons_succ, List.getElem?_nil, List.set_cons_zero, List.set_cons_succ, Nat.reduceAdd, Nat.zero_add, Nat.add_zero, Nat.mul_one, Nat.mul_zero, Nat.zero_mul, Nat.reduceMul, Nat.reduceSub, Nat.reduceEqDiff, Nat.reduceLT, Nat.reduceLeDiff, Nat.reduceBEq, Nat.reduceBNe, Nat.succ_ne_self, reduceIte, if_true, if_false, ite_self, decide_true, decide_false, Bool.not_true, Bool.not_false, Bool.and_true, Bool.true_and, Bool.and_false, Bool.false_and, Bool.or_true, Bool.true_or, Bool.or_false, Bool.false_or, cond_true, cond_false, Int.reduceEq, Int.reduceLT, Int.reduceLE, Int.reduceNe, Int.reduceToNat, rl1, rl2, iaS hk, part_hd]
      iterate 4
        first
        | (refine orderP_of (by kernel_rfl) ?_
           simp -implicitDefEqProofs only [sims.1, fx.1, tick_on, calleeK, List.getElem?_toArray, extractV, oneV, faddrK, nonnil, b_shr, b_shl, eq_self, beq_self_eq_true, fieldK, Option.bind_some, Option.map_some, Option.bind_none, Option.map_none, List.map_cons, List.map_nil, List.getD_cons_zero, List.getD_cons_succ, List.getD_nil, List.length_nil, List.length_cons, List.length_set, List.nil_append, List.cons_append, List.append_nil, List.getElem?_cons_zero, List.getElem?_cons_succ, List.getElem?_nil, List.set_cons_zero, List.set_cons_succ, Nat.reduceAdd, Nat.zero_add, Nat.add_zero, Nat.mul_one, Nat.mul_zero, Nat.zero_mul, Nat.reduceMul, Nat.reduceSub, Nat.reduceEqDiff, Nat.reduceLT, Nat.reduceLeDiff, Nat.reduceBEq, Nat.reduceBNe, Nat.succ_ne_self, reduceIte, if_true, if_false, ite_self, decide_true, decide_false, Bool.not_true, Bool.not_false, Bool.and_true, Bool.true_and, Bool.and_false, Bool.false_and, Bool.or_true, Bool.true_or, Bool.or_false, Bool.false_or, cond_true, cond_false, Int.reduceEq, Int.reduceLT, Int.reduceLE, Int.reduceNe, Int.reduceToNat, rl1, rl2, iaS hk, part_hd, bu_en])
        | skip
      refine bindO_some' (st_epA rfl he (en_len _) (en_len _)) ?_
      refine orderP_of (by kernel_rfl) ?_
      simp -implicitDefEqProofs only [sims.1, fx.1, tick_on, calleeK, List.getElem?_toArray, extractV, oneV, faddrK, nonnil, b_shr, b_shl, eq_self, beq_self_eq_true, fieldK, Option.bind_some, Option.map_some, Option.bind_none, Option.map_none, List.map_cons, List.map_nil, List.getD_cons_zero, List.getD_cons_succ, List.getD_nil, List.length_nil, List.length_cons, List.length_set, List.nil_append, List.cons_append, List.append_nil, List.getElem?_cons_zero, List.getElem?_cons_succ, List.getElem?_nil, List.set_cons_zero, List.set_cons_succ, Nat.reduceAdd, Nat.zero_add, Nat.add_zero, Nat.mul_one, Nat.mul_zero, Nat.zero_mul, Nat.reduceMul, Nat.reduceSub, Nat.reduceEqDiff, Nat.reduceLT, Nat.reduceLeDiff, Nat.reduceBEq, Nat.reduceBNe, Nat.succ_ne_self, reduceIte, if_true, if_false, ite_self, decide_true, decide_false, Bool.not_true, Bool.not_false, Bool.and_true, Bool.true_and, Bool.and_false, Bool.false_and, Bool.or_true, Bool.true_or, Bool.or_false, Bool.false_or, cond_true, cond_false, Int.reduceEq, Int.reduceLT, Int.reduceLE, Int.reduceNe, Int.reduceToNat, en_put, rows_set]
      refine w_noisy ?_
      simp -implicitDefEqProofs only [sims.1, fx.1, tick_on, calleeK, List.getElem?_toArray, extractV, oneV, faddrK, nonnil, b_shr, b_shl, eq_self, beq_self_eq_true, fieldK, Option.bind_some, Option.map_some, Option.bind_none, Option.map_none, List.map_cons, List.map_nil, List.getD_cons_zero, List.getD_cons_succ, List.getD_nil, List.length_nil, List.length_cons, List.length_set, List.nil_append, List.cons_append, List.append_nil, List.getElem?_cons_zero, List.getElem?_cons_succ, List.getElem?_nil, List.set_cons_zero, List.set_cons_succ, Nat.reduceAdd, Nat.zero_add, Nat.add_zero, Nat.mul_one, Nat.mul_zero, Nat.zero_mul, Nat.reduceMul, Nat.reduceSub, Nat.reduceEqDiff, Nat.reduceLT, Nat.reduceLeDiff, Nat.reduceBEq, Nat.reduceBNe, Nat.succ_ne_self, reduceIte, if_true, if_false, ite_self, decide_true, decide_false, Bool.not_true, Bool.not_false, Bool.and_true, Bool.true_and, Bool.and_false, Bool.false_and, Bool.or_true, Bool.true_or, Bool.or_false, Bool.false_or, cond_true, cond_false, Int.reduceEq, Int.reduceLT, Int.reduceLE, Int.reduceNe, Int.reduceToNat, rl1, rl2, part_hd]
      iterate 4
        first
        | (refine orderP_of (by kernel_rfl) ?_
           simp -implicitDefEqProofs only [sims.1, fx.1, tick_on, calleeK, List.getElem?_toArray, extractV, oneV, faddrK, nonnil, b_shr, b_shl, eq_self, beq_self_eq_true, fieldK, Option.bind_some, Option.map_some, Option.bind_none, Option.map_none, List.map_cons, List.map_nil, List.getD_cons_zero, List.getD_cons_succ, List.getD_nil, List.length_nil, List.length_cons, List.length_set, List.nil_append, List.cons_append, List.append_nil, List.getElem?_cons_zero, List.getElem?_cons_succ, List.getElem?_nil, List.set_cons_zero, List.set_cons_succ, Nat.reduceAdd, Nat.zero_add, Nat.add_zero, Nat.mul_one, Nat.mul_zero, Nat.zero_mul, Nat.reduceMul, Nat.reduceSub, Nat.reduceEqDiff, Nat.reduceLT, Nat.reduceLeDiff, Nat.reduceBEq, Nat.reduceBNe, Nat.succ_ne_self, reduceIte, if_true, if_false, ite_self, decide_true, decide_false, Bool.not_true, Bool.not_false, Bool.and_true, Bool.true_and, Bool.and_false, Bool.false_and, Bool.or_true, Bool.true_or, Bool.or_false, Bool.false_or, cond_true, cond_false, Int.reduceEq, Int.reduceLT, Int.reduceLE, Int.reduceNe, Int.reduceToNat, rl1, rl2, part_hd])
        | skip
      refine bindO_some' (put_at (l := a2) rfl hh hkeys hI2) ?_
      refine orderP_of (by kernel_rfl) ?_
      simp -implicitDefEqProofs only [sims.1, fx.1, tick_on, calleeK, List.getElem?_toArray, extractV, oneV, faddrK, nonnil, b_shr, b_shl, eq_self, beq_self_eq_true, fieldK, Option.bind_some, Option.map_some, Option.bind_none, Option.map_none, List.map_cons, List.map_nil, List.getD_cons_zero, List.getD_cons_succ, List.getD_nil, List.length_nil, List.length_cons, List.length_set, List.nil_append, List.cons_append, List.append_nil, List.getElem?_cons_zero, List.getElem?_cons_succ, List.getElem?_nil, List.set_cons_zero, List.set_cons_succ, Nat.reduceAdd, Nat.zero_add, Nat.add_zero, Nat.mul_one, Nat.mul_zero, Nat.zero_mul, Nat.reduceMul, Nat.reduceSub, Nat.reduceEqDiff, Nat.reduceLT, Nat.reduceLeDiff, Nat.reduceBEq, Nat.reduceBNe, Nat.succ_ne_self, reduceIte, if_true, if_false, ite_self, decide_true, decide_false, Bool.not_true, Bool.not_false, Bool.and_true, Bool.true_and, Bool.and_false, Bool.false_and, Bool.or_true, Bool.true_or, Bool.or_false, Bool.false_or, cond_true, cond_false, Int.reduceEq, Int.reduceLT, Int.reduceLE, Int.reduceNe, Int.reduceToNat, rs31]
      refine ⟨_, _, _, _, rfl, rfl, canC [] (by kernel_rfl) (by kernel_rfl) rfl (by kernel_rfl) (nfs_ens _) (nfp_at _) rfl rfl (by kernel_rfl), ?_⟩
      simp only [caM, caV, List.length_set]
end Go.Proofs.Ytnhejkfbnjopjaa
