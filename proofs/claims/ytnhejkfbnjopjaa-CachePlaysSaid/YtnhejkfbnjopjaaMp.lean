/- The cache's reference: in memory, 'find' and 'Get'. No condition. -/
import Derived.Test.YtnhejkfbnjopjaaMo
namespace Go.Proofs.Ytnhejkfbnjopjaa
open Go Ab
set_option linter.unusedSimpArgs false
set_option linter.unusedVariables false
set_option maxRecDepth 20000

def rnC (e : Ent) : List V := .bool e.full :: (hdC e.h ++ [.int .i64 e.id, .int .i64 (e.turn : Int), .bool e.mark])
theorem rn_len (e : Ent) : (rnC e).length = 15 := rfl
theorem nfs_rn (e : Ent) : nfs (rnC e) = true := rfl
theorem nfs_rns : ∀ l : List Ent, nfss (l.map rnC) = true
  | [] => rfl
  | a :: r => by simp [nfss, nfs_rn, nfs_rns r]
theorem rc0 (e : Ent) : (rnC e)[0]? = some (.bool e.full) := rfl
theorem rc12 (e : Ent) : (rnC e)[12]? = some (.int .i64 e.id) := rfl
theorem rc13 (e : Ent) : (rnC e)[13]? = some (.int .i64 (e.turn : Int)) := rfl
theorem rc14 (e : Ent) : (rnC e)[14]? = some (.bool e.mark) := rfl
theorem rn_hd (e : Ent) : partK true 11 (rnC e) 1 = some (.agg (hdC e.h)) := rfl
theorem rn_all (e : Ent) : partK true 15 (rnC e) 0 = some (.agg (rnC e)) := partK_row (rn_len e)
theorem rn_id (e : Ent) (i : Int) : splice (rnC e) 12 [.int .i64 i] = rnC { e with id := i } := rfl
theorem rn_turn (e : Ent) (t : Nat) : splice (rnC e) 13 [.int .i64 (t : Int)] = rnC { e with turn := t } := rfl
theorem rn_mark (e : Ent) (b : Bool) : splice (rnC e) 14 [.bool b] = rnC { e with mark := b } := rfl
theorem rn_put (e e' : Ent) : splice (rnC e) 0 (rnC e') = rnC e' := by rw [splice_all]; rw [rn_len, rn_len]
theorem rrows_at {l : List Ent} {k : Nat} (h : k < l.length) : (l.map rnC)[k]? = some (rnC l[k]) := by simp [h]
theorem rrows_set (l : List Ent) (k : Nat) (e : Ent) : (l.map rnC).set k (rnC e) = (l.set k e).map rnC := by rw [List.map_set]
theorem e_r0 : [V.bool false, V.int .u64 0, V.int .u64 0, V.int .u64 0, V.int .u64 0, V.int .u64 0, V.int .u64 0, V.int .u64 0, V.int .u64 0, V.int .u64 0, V.int .u64 0, V.int .u64 0, V.int .i64 0, V.int .i64 0, V.bool false] = rnC e0 := rfl
theorem bu_rn (h : Hd) (id : Int) (t : Nat) : buildV Try.prog 72 [(0, .bool true), (1, .agg (hdC h)), (2, .int .i64 id), (3, .int .i64 (t : Int))] = some (.agg (rnC (en1 h id t))) := by kernel_rfl

def rcV (n t hd : Nat) : B := .var 66 [.sl 15 1 0 n, .int .i64 (t : Int), .int .i64 (hd : Int)]
def rcM (l : List Ent) (t hd : Nat) : Mem := [rcV l.length t hd, .row 72 15 (l.map rnC)]

theorem closedG {m : Mem} {L : List Nat} (hd : nodupB L = true) (h : ∀ n ∈ L, ∃ b, m[n]? = some b ∧ inDB (fun k => L.contains k) b = true) : closedB L m = true := by
  unfold closedB
  simp only [Bool.and_eq_true, List.all_eq_true]
  have g : ∀ {n : Nat} {b : B}, m[n]? = some b → m.getD n .dead = b ∧ n < m.length := fun h => ⟨by simp [List.getD, h], (List.getElem?_eq_some_iff.1 h).1⟩
  refine ⟨hd, fun n hn => ?_, fun n hn => ?_⟩
  · obtain ⟨b, h1, h2⟩ := h n hn
    simpa using (g h1).2
  · obtain ⟨b, h1, h2⟩ := h n hn
    rw [(g h1).1]
    exact h2
theorem inR (L : List Nat) (l : List Ent) : inDB (fun k => L.contains k) (.row 72 15 (l.map rnC)) = true := nfs_rns l
theorem closedR (l : List Ent) (t hd : Nat) (ex : Mem) : closedB [0, 1] (rcM l t hd ++ ex) = true := by
  refine closedG rfl ?_
  intro n hn
  simp only [List.mem_cons, List.not_mem_nil, or_false] at hn
  rcases hn with rfl | rfl
  · exact ⟨_, rfl, rfl⟩
  · exact ⟨_, rfl, inR _ l⟩
/-- What is left behind a call. -/
theorem canR {l : List Ent} {t hd : Nat} {env : Env} (ex : Mem) : canon 2 [] env (rcM l t hd ++ ex) = some (mkEnv [], rcM l t hd) := by
  refine canon_of [] [0, 1] rfl (by kernel_rfl) rfl ?_ rfl rfl rfl
  rw [closedR]
  rfl
/-- A loop's state: the cache, and one block more at n. -/
theorem canR1 {keep : List Nat} {env : Env} {l : List Ent} {t hd ty : Nat} {ex : Mem} {c : List V} (n : Nat) (vs vs' : List V) {e' : Env} (hk : keep.map env = vs) (hx : (rcM l t hd ++ ex)[n]? = some (.var ty c)) (hc : nfs c = true)
    (hL : reach (rcM l t hd ++ ex) 80 (List.range 2 ++ nmss vs) [] = [0, 1, n]) (hi : inDs (fun k => [0, 1, n].contains k) vs = true) (hnd : (nodupB [0, 1, n] && prefixB 2 [0, 1, n]) = true) (hv : rens (idx [0, 1, n]) vs = vs') (hE : mkEnv (keep.zip vs') = e')
    (hview : view [0, 1, n] (rcM l t hd ++ ex) = rcM l t hd ++ [.var ty c]) : canon 2 keep env (rcM l t hd ++ ex) = some (e', rcM l t hd ++ [.var ty c]) := by
  rw [Bool.and_eq_true] at hnd
  refine canon_of vs [0, 1, n] hk hL hi ?_ hv hE hview
  rw [closedG hnd.1, hnd.2]
  · rfl
  · intro k hk
    simp only [List.mem_cons, List.not_mem_nil, or_false] at hk
    rcases hk with rfl | rfl | rfl
    · exact ⟨_, rfl, rfl⟩
    · exact ⟨_, rfl, inR _ l⟩
    · exact ⟨_, hx, nfs_inDs _ _ hc⟩

def fndI (l : List Ent) (h : Hd) : Int := match fnd l h with
  | some k => (k : Int)
  | none => -1
theorem fnd_at {l : List Ent} {h : Hd} {k : Nat} (hk : k < l.length) (h1 : (l[k].full && eqH l[k].h h) = true) (h2 : ∀ i (hi : i < l.length), i < k → (l[i].full && eqH l[i].h h) = false) : fnd l h = some k := by
  unfold fnd
  rw [List.findIdx?_eq_some_iff_getElem]
  exact ⟨hk, h1, fun j hj => by rw [h2 j (by omega) hj]; decide⟩
theorem fnd_no {l : List Ent} {h : Hd} (h2 : ∀ i (hi : i < l.length), (l[i].full && eqH l[i].h h) = false) : fnd l h = none := by
  unfold fnd
  rw [List.findIdx?_eq_none_iff]
  intro x hx
  obtain ⟨i, hi, rfl⟩ := List.getElem_of_mem hx
  exact h2 i hi

set_option maxHeartbeats 2000000 in
theorem snd40 (l : List Ent) (t hd : Nat) (h : Hd) (hu : ∀ e ∈ l, U64h e.h) (hh : U64h h) (hs : l.length ≤ 1024) : Snd Try.prog 40 [.ptr 0 0, hdA h] (rcM l t hd) fun r => r = .ret (.int .i64 (fndI l h)) (rcM l t hd) := by
  refine Snd_trim (Snd_of_W fol rfl rfl (by kernel_rfl) (by kernel_rfl) ?_)
  unfold rcM rcV hdA
  simp -implicitDefEqProofs only [sims.1, fx.1, tick_on, calleeK, List.getElem?_toArray, extractV, oneV, faddrK, nonnil, b_shr, b_shl, eq_self, beq_self_eq_true, fieldK, Option.bind_some, Option.map_some, Option.bind_none, Option.map_none, List.map_cons, List.map_nil, List.getD_cons_zero, List.getD_cons_succ, List.getD_nil, List.length_nil, List.length_cons, List.length_set, List.nil_append, List.cons_append, List.append_nil, List.getElem?_cons_zero, List.getElem?_cons_succ, List.getElem?_nil, List.set_cons_zero, List.set_cons_succ, Nat.reduceAdd, Nat.zero_add, Nat.add_zero, Nat.mul_one, Nat.mul_zero, Nat.zero_mul, Nat.reduceMul, Nat.reduceSub, Nat.reduceEqDiff, Nat.reduceLT, Nat.reduceLeDiff, Nat.reduceBEq, Nat.reduceBNe, Nat.succ_ne_self, reduceIte, if_true, if_false, ite_self, decide_true, decide_false, Bool.not_true, Bool.not_false, Bool.and_true, Bool.true_and, Bool.and_false, Bool.false_and, Bool.or_true, Bool.true_or, Bool.or_false, Bool.false_or, cond_true, cond_false, Int.reduceEq, Int.reduceLT, Int.reduceLE, Int.reduceNe, Int.reduceToNat]
  refine W_loop (fun j : Nat => (mkEnv [(0, .ptr 0 0), (3, .ptr 2 0), (5, .int .i64 (j : Int))], rcM l t hd ++ [.var 24 (hdC h)])) (fun j => j ≤ l.length ∧ ∀ i (hi : i < l.length), i < j → (l[i].full && eqH l[i].h h) = false) (fun j => l.length + 1 - j) 0
    (canR1 (ex := [.var 24 (hdC h)]) 2 [.ptr 0 0, .ptr 2 0, .int .i64 0] [.ptr 0 0, .ptr 2 0, .int .i64 0] (by kernel_rfl) rfl (nfs_hd h) (by kernel_rfl) (by kernel_rfl) rfl (by kernel_rfl) (by kernel_rfl) rfl) ⟨by omega, by omega⟩ ?_
  rintro j ⟨h1, h2⟩
  unfold rcM rcV
  rcases Nat.lt_or_ge j l.length with hj | hj
  · have c1 : decide (j < l.length) = true := by simpa using hj
    have w1 := wrap_i64s j (by omega)
    have cq := eq24 l[j].h h (hu _ (List.getElem_mem hj)) hh
    simp -implicitDefEqProofs only [sims.1, fx.1, tick_on, calleeK, List.getElem?_toArray, extractV, oneV, faddrK, nonnil, b_shr, b_shl, eq_self, beq_self_eq_true, fieldK, Option.bind_some, Option.map_some, Option.bind_none, Option.map_none, List.map_cons, List.map_nil, List.getD_cons_zero, List.getD_cons_succ, List.getD_nil, List.length_nil, List.length_cons, List.length_set, List.nil_append, List.cons_append, List.append_nil, List.getElem?_cons_zero, List.getElem?_cons_succ, List.getElem?_nil, List.set_cons_zero, List.set_cons_succ, Nat.reduceAdd, Nat.zero_add, Nat.add_zero, Nat.mul_one, Nat.mul_zero, Nat.zero_mul, Nat.reduceMul, Nat.reduceSub, Nat.reduceEqDiff, Nat.reduceLT, Nat.reduceLeDiff, Nat.reduceBEq, Nat.reduceBNe, Nat.succ_ne_self, reduceIte, if_true, if_false, ite_self, decide_true, decide_false, Bool.not_true, Bool.not_false, Bool.and_true, Bool.true_and, Bool.and_false, Bool.false_and, Bool.or_true, Bool.true_or, Bool.or_false, Bool.false_or, cond_true, cond_false, Int.reduceEq, Int.reduceLT, Int.reduceLE, Int.reduceNe, Int.reduceToNat, ltNat, c1, rl1, lns64]
    refine w_quiet ?_
    cases f1 : l[j].full
    · simp -implicitDefEqProofs only [sims.1, fx.1, tick_on, calleeK, List.getElem?_toArray, extractV, oneV, faddrK, nonnil, b_shr, b_shl, eq_self, beq_self_eq_true, fieldK, Option.bind_some, Option.map_some, Option.bind_none, Option.map_none, List.map_cons, List.map_nil, List.getD_cons_zero, List.getD_cons_succ, List.getD_nil, List.length_nil, List.length_cons, List.length_set, List.nil_append, List.cons_append, List.append_nil, List.getElem?_cons_zero, List.getElem?_cons_succ, List.getElem?_nil, List.set_cons_zero, List.set_cons_succ, Nat.reduceAdd, Nat.zero_add, Nat.add_zero, Nat.mul_one, Nat.mul_zero, Nat.zero_mul, Nat.reduceMul, Nat.reduceSub, Nat.reduceEqDiff, Nat.reduceLT, Nat.reduceLeDiff, Nat.reduceBEq, Nat.reduceBNe, Nat.succ_ne_self, reduceIte, if_true, if_false, ite_self, decide_true, decide_false, Bool.not_true, Bool.not_false, Bool.and_true, Bool.true_and, Bool.and_false, Bool.false_and, Bool.or_true, Bool.true_or, Bool.or_false, Bool.false_or, cond_true, cond_false, Int.reduceEq, Int.reduceLT, Int.reduceLE, Int.reduceNe, Int.reduceToNat, rl1, rl2, iaS hj, loadK_ep, rrows_at hj, rc0, f1, w1]
      refine ⟨j + 1, canR1 (ex := [.var 24 (hdC h)]) 2 [.ptr 0 0, .ptr 2 0, .int .i64 ((j + 1 : Nat) : Int)] [.ptr 0 0, .ptr 2 0, .int .i64 ((j + 1 : Nat) : Int)] (by kernel_rfl) rfl (nfs_hd h) (by kernel_rfl) (by kernel_rfl) rfl (by kernel_rfl) (by kernel_rfl) rfl, ⟨by omega, fun i hi h3 => ?_⟩, by omega⟩
      by_cases hij : i = j
      · subst hij; rw [f1]; rfl
      · exact h2 i hi (by omega)
    cases f2 : eqH l[j].h h
    · simp -implicitDefEqProofs only [sims.1, fx.1, tick_on, calleeK, List.getElem?_toArray, extractV, oneV, faddrK, nonnil, b_shr, b_shl, eq_self, beq_self_eq_true, fieldK, Option.bind_some, Option.map_some, Option.bind_none, Option.map_none, List.map_cons, List.map_nil, List.getD_cons_zero, List.getD_cons_succ, List.getD_nil, List.length_nil, List.length_cons, List.length_set, List.nil_append, List.cons_append, List.append_nil, List.getElem?_cons_zero, List.getElem?_cons_succ, List.getElem?_nil, List.set_cons_zero, List.set_cons_succ, Nat.reduceAdd, Nat.zero_add, Nat.add_zero, Nat.mul_one, Nat.mul_zero, Nat.zero_mul, Nat.reduceMul, Nat.reduceSub, Nat.reduceEqDiff, Nat.reduceLT, Nat.reduceLeDiff, Nat.reduceBEq, Nat.reduceBNe, Nat.succ_ne_self, reduceIte, if_true, if_false, ite_self, decide_true, decide_false, Bool.not_true, Bool.not_false, Bool.and_true, Bool.true_and, Bool.and_false, Bool.false_and, Bool.or_true, Bool.true_or, Bool.or_false, Bool.false_or, cond_true, cond_false, Int.reduceEq, Int.reduceLT, Int.reduceLE, Int.reduceNe, Int.reduceToNat, rl1, rl2, iaS hj, loadK_ep, rrows_at hj, rc0, f1, w1, rn_hd, part_hd, cq, f2]
      refine ⟨j + 1, canR1 (ex := [.var 24 (hdC h)]) 2 [.ptr 0 0, .ptr 2 0, .int .i64 ((j + 1 : Nat) : Int)] [.ptr 0 0, .ptr 2 0, .int .i64 ((j + 1 : Nat) : Int)] (by kernel_rfl) rfl (nfs_hd h) (by kernel_rfl) (by kernel_rfl) rfl (by kernel_rfl) (by kernel_rfl) rfl, ⟨by omega, fun i hi h3 => ?_⟩, by omega⟩
      by_cases hij : i = j
      · subst hij; rw [f1, f2]; rfl
      · exact h2 i hi (by omega)
    · simp -implicitDefEqProofs only [sims.1, fx.1, tick_on, calleeK, List.getElem?_toArray, extractV, oneV, faddrK, nonnil, b_shr, b_shl, eq_self, beq_self_eq_true, fieldK, Option.bind_some, Option.map_some, Option.bind_none, Option.map_none, List.map_cons, List.map_nil, List.getD_cons_zero, List.getD_cons_succ, List.getD_nil, List.length_nil, List.length_cons, List.length_set, List.nil_append, List.cons_append, List.append_nil, List.getElem?_cons_zero, List.getElem?_cons_succ, List.getElem?_nil, List.set_cons_zero, List.set_cons_succ, Nat.reduceAdd, Nat.zero_add, Nat.add_zero, Nat.mul_one, Nat.mul_zero, Nat.zero_mul, Nat.reduceMul, Nat.reduceSub, Nat.reduceEqDiff, Nat.reduceLT, Nat.reduceLeDiff, Nat.reduceBEq, Nat.reduceBNe, Nat.succ_ne_self, reduceIte, if_true, if_false, ite_self, decide_true, decide_false, Bool.not_true, Bool.not_false, Bool.and_true, Bool.true_and, Bool.and_false, Bool.false_and, Bool.or_true, Bool.true_or, Bool.or_false, Bool.false_or, cond_true, cond_false, Int.reduceEq, Int.reduceLT, Int.reduceLE, Int.reduceNe, Int.reduceToNat, rl1, rl2, iaS hj, loadK_ep, rrows_at hj, rc0, f1, w1, rn_hd, part_hd, cq, f2]
      refine ⟨_, _, _, _, rfl, rfl, canR [.var 24 (hdC h)], ?_⟩
      have := fnd_at hj (by rw [f1, f2]; rfl) h2
      simp only [fndI, this, rcM, rcV]
  · have c1 : decide (j < l.length) = false := by simp; omega
    simp -implicitDefEqProofs only [sims.1, fx.1, tick_on, calleeK, List.getElem?_toArray, extractV, oneV, faddrK, nonnil, b_shr, b_shl, eq_self, beq_self_eq_true, fieldK, Option.bind_some, Option.map_some, Option.bind_none, Option.map_none, List.map_cons, List.map_nil, List.getD_cons_zero, List.getD_cons_succ, List.getD_nil, List.length_nil, List.length_cons, List.length_set, List.nil_append, List.cons_append, List.append_nil, List.getElem?_cons_zero, List.getElem?_cons_succ, List.getElem?_nil, List.set_cons_zero, List.set_cons_succ, Nat.reduceAdd, Nat.zero_add, Nat.add_zero, Nat.mul_one, Nat.mul_zero, Nat.zero_mul, Nat.reduceMul, Nat.reduceSub, Nat.reduceEqDiff, Nat.reduceLT, Nat.reduceLeDiff, Nat.reduceBEq, Nat.reduceBNe, Nat.succ_ne_self, reduceIte, if_true, if_false, ite_self, decide_true, decide_false, Bool.not_true, Bool.not_false, Bool.and_true, Bool.true_and, Bool.and_false, Bool.false_and, Bool.or_true, Bool.true_or, Bool.or_false, Bool.false_or, cond_true, cond_false, Int.reduceEq, Int.reduceLT, Int.reduceLE, Int.reduceNe, Int.reduceToNat, ltNat, c1, rl1, lns64]
    refine ⟨_, _, _, _, rfl, rfl, canR [.var 24 (hdC h)], ?_⟩
    have := fnd_no fun i hi => h2 i hi (by omega)
    simp only [fndI, this, rcM, rcV]

/-- A call on the reference's cache, which lies first in memory. -/
theorem callD_r0 {f : FuncId} {vs vs1 : List V} {v : V} {K Kp : V → Mem → Prop} {ex : Mem} {l l' : List Ent} {t t' hd hd' : Nat} (h : Snd Try.prog f vs1 (rcM l t hd) fun r => r = .ret v (rcM l' t' hd')) (he : enterable Try.prog f = true)
    (hr : rootsV (rcM l t hd ++ ex) vs = [0, 1]) (hi : inDs (fun k => [0, 1].contains k) vs = true) (hv1 : rens (idx [0, 1]) vs = vs1) (hv : nf v = true) (hk : K v (rcM l' t' hd' ++ ex)) : callD Try.prog f vs (rcM l t hd ++ ex) K Kp := by
  have hm : merge [0, 1] (rcM l t hd ++ ex) (rcM l' t' hd') = rcM l' t' hd' ++ ex := by
    unfold merge rcM
    simp only [List.length_cons, List.length_nil, List.take_succ_cons, List.take_zero, List.map_cons, List.map_nil, List.drop_succ_cons, List.drop_zero, List.append_nil, List.cons_append, List.nil_append]
    rfl
  refine callD_at (m1 := rcM l' t' hd') [0, 1] h he hr ?_ hv1 rfl hv ?_ rfl rfl hm hk
  · unfold okCall
    rw [hi, closedR]
    rfl
  · have h1 : inDB (fun _ => true) (.row 72 15 (l'.map rnC)) = true := nfs_rns l'
    simp only [rcM, List.all_cons, List.all_nil, h1]
    rfl
theorem negK (k : Nat) : decide ((k : Int) < 0) = false := by simp
theorem neg1 : decide ((-1 : Int) < 0) = true := rfl
theorem geK (k : Nat) : decide ((0 : Int) ≤ (k : Int)) = true := by simp
theorem ge1 : decide ((0 : Int) ≤ -1) = false := rfl

set_option maxHeartbeats 2000000 in
theorem snd30 (l : List Ent) (t hd : Nat) (h : Hd) (hu : ∀ e ∈ l, U64h e.h) (hh : U64h h) (hs : l.length ≤ 1024) : Snd Try.prog 30 [.ptr 0 0, hdA h] (rcM l t hd) fun r => r = .ret (.tup [.int .i64 (getI l t h).1, .bool (getI l t h).2]) (rcM (getL l t h) t hd) := by
  refine Snd_trim (Snd_of_W fol rfl rfl (by kernel_rfl) (by kernel_rfl) ?_)
  have q40 := snd40 l t hd h hu hh hs
  unfold fndI at q40
  unfold hdA
  simp -implicitDefEqProofs only [sims.1, fx.1, tick_on, calleeK, List.getElem?_toArray, extractV, oneV, faddrK, nonnil, b_shr, b_shl, eq_self, beq_self_eq_true, fieldK, Option.bind_some, Option.map_some, Option.bind_none, Option.map_none, List.map_cons, List.map_nil, List.getD_cons_zero, List.getD_cons_succ, List.getD_nil, List.length_nil, List.length_cons, List.length_set, List.nil_append, List.cons_append, List.append_nil, List.getElem?_cons_zero, List.getElem?_cons_succ, List.getElem?_nil, List.set_cons_zero, List.set_cons_succ, Nat.reduceAdd, Nat.zero_add, Nat.add_zero, Nat.mul_one, Nat.mul_zero, Nat.zero_mul, Nat.reduceMul, Nat.reduceSub, Nat.reduceEqDiff, Nat.reduceLT, Nat.reduceLeDiff, Nat.reduceBEq, Nat.reduceBNe, Nat.succ_ne_self, reduceIte, if_true, if_false, ite_self, decide_true, decide_false, Bool.not_true, Bool.not_false, Bool.and_true, Bool.true_and, Bool.and_false, Bool.false_and, Bool.or_true, Bool.true_or, Bool.or_false, Bool.false_or, cond_true, cond_false, Int.reduceEq, Int.reduceLT, Int.reduceLE, Int.reduceNe, Int.reduceToNat, rcM, part_hd]
  unfold getI getL
  cases hf : fnd l h with
  | none =>
    rw [hf] at q40
    refine callD_r0 (ex := [.var 24 (hdC h)]) q40 en40 (by kernel_rfl) (by kernel_rfl) (by kernel_rfl) rfl ?_
    simp -implicitDefEqProofs only [sims.1, fx.1, tick_on, calleeK, List.getElem?_toArray, extractV, oneV, faddrK, nonnil, b_shr, b_shl, eq_self, beq_self_eq_true, fieldK, Option.bind_some, Option.map_some, Option.bind_none, Option.map_none, List.map_cons, List.map_nil, List.getD_cons_zero, List.getD_cons_succ, List.getD_nil, List.length_nil, List.length_cons, List.length_set, List.nil_append, List.cons_append, List.append_nil, List.getElem?_cons_zero, List.getElem?_cons_succ, List.getElem?_nil, List.set_cons_zero, List.set_cons_succ, Nat.reduceAdd, Nat.zero_add, Nat.add_zero, Nat.mul_one, Nat.mul_zero, Nat.zero_mul, Nat.reduceMul, Nat.reduceSub, Nat.reduceEqDiff, Nat.reduceLT, Nat.reduceLeDiff, Nat.reduceBEq, Nat.reduceBNe, Nat.succ_ne_self, reduceIte, if_true, if_false, ite_self, decide_true, decide_false, Bool.not_true, Bool.not_false, Bool.and_true, Bool.true_and, Bool.and_false, Bool.false_and, Bool.or_true, Bool.true_or, Bool.or_false, Bool.false_or, cond_true, cond_false, Int.reduceEq, Int.reduceLT, Int.reduceLE, Int.reduceNe, Int.reduceToNat, rcM, neg1]
    exact ⟨_, _, _, _, rfl, rfl, canR [.var 24 (hdC h)], rfl⟩
  | some k =>
    rw [hf] at q40
    obtain ⟨hk, hfull, heq⟩ := fnd_some hf
    have hle : l[k]? = some l[k] := List.getElem?_eq_getElem hk
    refine callD_r0 (ex := [.var 24 (hdC h)]) q40 en40 (by kernel_rfl) (by kernel_rfl) (by kernel_rfl) rfl ?_
    have he : (l.map rnC)[k]? = some (rnC l[k]) := rrows_at hk
    simp only [hle]
    generalize l[k] = e at *
    simp -implicitDefEqProofs only [sims.1, fx.1, tick_on, calleeK, List.getElem?_toArray, extractV, oneV, faddrK, nonnil, b_shr, b_shl, eq_self, beq_self_eq_true, fieldK, Option.bind_some, Option.map_some, Option.bind_none, Option.map_none, List.map_cons, List.map_nil, List.getD_cons_zero, List.getD_cons_succ, List.getD_nil, List.length_nil, List.length_cons, List.length_set, List.nil_append, List.cons_append, List.append_nil, List.getElem?_cons_zero, List.getElem?_cons_succ, List.getElem?_nil, List.set_cons_zero, List.set_cons_succ, Nat.reduceAdd, Nat.zero_add, Nat.add_zero, Nat.mul_one, Nat.mul_zero, Nat.zero_mul, Nat.reduceMul, Nat.reduceSub, Nat.reduceEqDiff, Nat.reduceLT, Nat.reduceLeDiff, Nat.reduceBEq, Nat.reduceBNe, Nat.succ_ne_self, reduceIte, if_true, if_false, ite_self, decide_true, decide_false, Bool.not_true, Bool.not_false, Bool.and_true, Bool.true_and, Bool.and_false, Bool.false_and, Bool.or_true, Bool.true_or, Bool.or_false, Bool.false_or, cond_true, cond_false, Int.reduceEq, Int.reduceLT, Int.reduceLE, Int.reduceNe, Int.reduceToNat, rcM, rcV, negK]
    refine w_quiet ?_
    cases ht : decide (e.turn = t)
    · simp -implicitDefEqProofs only [sims.1, fx.1, tick_on, calleeK, List.getElem?_toArray, extractV, oneV, faddrK, nonnil, b_shr, b_shl, eq_self, beq_self_eq_true, fieldK, Option.bind_some, Option.map_some, Option.bind_none, Option.map_none, List.map_cons, List.map_nil, List.getD_cons_zero, List.getD_cons_succ, List.getD_nil, List.length_nil, List.length_cons, List.length_set, List.nil_append, List.cons_append, List.append_nil, List.getElem?_cons_zero, List.getElem?_cons_succ, List.getElem?_nil, List.set_cons_zero, List.set_cons_succ, Nat.reduceAdd, Nat.zero_add, Nat.add_zero, Nat.mul_one, Nat.mul_zero, Nat.zero_mul, Nat.reduceMul, Nat.reduceSub, Nat.reduceEqDiff, Nat.reduceLT, Nat.reduceLeDiff, Nat.reduceBEq, Nat.reduceBNe, Nat.succ_ne_self, reduceIte, if_true, if_false, ite_self, decide_true, decide_false, Bool.not_true, Bool.not_false, Bool.and_true, Bool.true_and, Bool.and_false, Bool.false_and, Bool.or_true, Bool.true_or, Bool.or_false, Bool.false_or, cond_true, cond_false, Int.reduceEq, Int.reduceLT, Int.reduceLE, Int.reduceNe, Int.reduceToNat, rl1, rl2, iaS hk, loadK_ep, he, rc13, eqNat, ht, e_r0]
      refine bindO_some' (st_epA rfl he (rn_len _) (rn_len _)) ?_
      simp -implicitDefEqProofs only [sims.1, fx.1, tick_on, calleeK, List.getElem?_toArray, extractV, oneV, faddrK, nonnil, b_shr, b_shl, eq_self, beq_self_eq_true, fieldK, Option.bind_some, Option.map_some, Option.bind_none, Option.map_none, List.map_cons, List.map_nil, List.getD_cons_zero, List.getD_cons_succ, List.getD_nil, List.length_nil, List.length_cons, List.length_set, List.nil_append, List.cons_append, List.append_nil, List.getElem?_cons_zero, List.getElem?_cons_succ, List.getElem?_nil, List.set_cons_zero, List.set_cons_succ, Nat.reduceAdd, Nat.zero_add, Nat.add_zero, Nat.mul_one, Nat.mul_zero, Nat.zero_mul, Nat.reduceMul, Nat.reduceSub, Nat.reduceEqDiff, Nat.reduceLT, Nat.reduceLeDiff, Nat.reduceBEq, Nat.reduceBNe, Nat.succ_ne_self, reduceIte, if_true, if_false, ite_self, decide_true, decide_false, Bool.not_true, Bool.not_false, Bool.and_true, Bool.true_and, Bool.and_false, Bool.false_and, Bool.or_true, Bool.true_or, Bool.or_false, Bool.false_or, cond_true, cond_false, Int.reduceEq, Int.reduceLT, Int.reduceLE, Int.reduceNe, Int.reduceToNat, rn_put, rrows_set]
      refine ⟨_, _, mkEnv [], _, rfl, rfl, ?_, rfl⟩
      have := canR (l := l.set k e0) (t := t) (hd := hd) (env := fun _ => .unk) [.var 24 (hdC h)]
      unfold rcM rcV at this
      rw [List.length_set] at this
      refine this.trans ?_
      rfl
    · simp -implicitDefEqProofs only [sims.1, fx.1, tick_on, calleeK, List.getElem?_toArray, extractV, oneV, faddrK, nonnil, b_shr, b_shl, eq_self, beq_self_eq_true, fieldK, Option.bind_some, Option.map_some, Option.bind_none, Option.map_none, List.map_cons, List.map_nil, List.getD_cons_zero, List.getD_cons_succ, List.getD_nil, List.length_nil, List.length_cons, List.length_set, List.nil_append, List.cons_append, List.append_nil, List.getElem?_cons_zero, List.getElem?_cons_succ, List.getElem?_nil, List.set_cons_zero, List.set_cons_succ, Nat.reduceAdd, Nat.zero_add, Nat.add_zero, Nat.mul_one, Nat.mul_zero, Nat.zero_mul, Nat.reduceMul, Nat.reduceSub, Nat.reduceEqDiff, Nat.reduceLT, Nat.reduceLeDiff, Nat.reduceBEq, Nat.reduceBNe, Nat.succ_ne_self, reduceIte, if_true, if_false, ite_self, decide_true, decide_false, Bool.not_true, Bool.not_false, Bool.and_true, Bool.true_and, Bool.and_false, Bool.false_and, Bool.or_true, Bool.true_or, Bool.or_false, Bool.false_or, cond_true, cond_false, Int.reduceEq, Int.reduceLT, Int.reduceLE, Int.reduceNe, Int.reduceToNat, rl1, rl2, iaS hk, loadK_ep, he, rc13, eqNat, ht, e_r0]
      refine bindO_some' (st_ep rfl rfl he (by rw [rn_len]; decide)) ?_
      have he2 : ((l.set k { e with mark := true }).map rnC)[k]? = some (rnC { e with mark := true }) := by rw [List.getElem?_map, List.getElem?_set_self hk]; rfl
      simp -implicitDefEqProofs only [sims.1, fx.1, tick_on, calleeK, List.getElem?_toArray, extractV, oneV, faddrK, nonnil, b_shr, b_shl, eq_self, beq_self_eq_true, fieldK, Option.bind_some, Option.map_some, Option.bind_none, Option.map_none, List.map_cons, List.map_nil, List.getD_cons_zero, List.getD_cons_succ, List.getD_nil, List.length_nil, List.length_cons, List.length_set, List.nil_append, List.cons_append, List.append_nil, List.getElem?_cons_zero, List.getElem?_cons_succ, List.getElem?_nil, List.set_cons_zero, List.set_cons_succ, Nat.reduceAdd, Nat.zero_add, Nat.add_zero, Nat.mul_one, Nat.mul_zero, Nat.zero_mul, Nat.reduceMul, Nat.reduceSub, Nat.reduceEqDiff, Nat.reduceLT, Nat.reduceLeDiff, Nat.reduceBEq, Nat.reduceBNe, Nat.succ_ne_self, reduceIte, if_true, if_false, ite_self, decide_true, decide_false, Bool.not_true, Bool.not_false, Bool.and_true, Bool.true_and, Bool.and_false, Bool.false_and, Bool.or_true, Bool.true_or, Bool.or_false, Bool.false_or, cond_true, cond_false, Int.reduceEq, Int.reduceLT, Int.reduceLE, Int.reduceNe, Int.reduceToNat, rl1, rl2, iaS hk, rn_mark, rrows_set, loadK_ep, he2, rc12]
      refine ⟨_, _, mkEnv [], _, rfl, rfl, ?_, rfl⟩
      have := canR (l := l.set k { e with mark := true }) (t := t) (hd := hd) (env := fun _ => .unk) [.var 24 (hdC h)]
      unfold rcM rcV at this
      rw [List.length_set] at this
      refine this.trans ?_
      rfl
end Go.Proofs.Ytnhejkfbnjopjaa
