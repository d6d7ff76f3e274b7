/- What the document says of a cache of two places comes true; no cache. No condition. -/
import Derived.Test.YtnhejkfbnjopjaaMg
namespace Go.Proofs.Ytnhejkfbnjopjaa
open Go Ab
set_option linter.unusedSimpArgs false
set_option linter.unusedVariables false
set_option maxRecDepth 20000

def getL (l : List Ent) (t : Nat) (h : Hd) : List Ent := match fnd l h with
  | none => l
  | some k => match l[k]? with
    | some e => bif decide (e.turn = t) then l.set k { e with mark := true } else l.set k e0
    | none => l
def getA (l : List Ent) (a : List (Hd × Nat)) (t : Nat) (h : Hd) : List (Hd × Nat) := match fnd l h with
  | none => a
  | some k => match l[k]? with
    | some e => bif decide (e.turn = t) then a else atDel h a
    | none => a
def getI (l : List Ent) (t : Nat) (h : Hd) : Int × Bool := match fnd l h with
  | none => (0, false)
  | some k => match l[k]? with
    | some e => bif decide (e.turn = t) then (e.id, true) else (0, false)
    | none => (0, false)
theorem getR_eq (l : List Ent) (a : List (Hd × Nat)) (t hd : Nat) (h : Hd) : getR l a t hd h = .ret (.tup [.int .i64 (getI l t h).1, .bool (getI l t h).2]) (caM (getL l t h) (getA l a t h) t hd) := by
  unfold getR getI getL getA
  cases fnd l h with
  | none => rfl
  | some k =>
    simp only
    cases l[k]? with
    | none => rfl
    | some e =>
      simp only
      cases decide (e.turn = t) <;> rfl
theorem get_inv {l : List Ent} {a : List (Hd × Nat)} (I : Inv l a) (t : Nat) (h : Hd) : Inv (getL l t h) (getA l a t h) := by
  unfold getL getA
  cases hf : fnd l h with
  | none => exact I
  | some k =>
    obtain ⟨hk, h1, h2⟩ := fnd_some hf
    simp only [List.getElem?_eq_getElem hk]
    cases decide (l[k].turn = t) with
    | true => exact I.same hk rfl rfl
    | false => exact I.drop hk h1 h2
theorem get_len (l : List Ent) (t : Nat) (h : Hd) : (getL l t h).length = l.length := by
  unfold getL
  split
  · rfl
  · split
    · rename_i e _
      cases decide (e.turn = t) <;> simp
    · rfl
theorem snd29' (l : List Ent) (a : List (Hd × Nat)) (t hd : Nat) (h : Hd) (I : Inv l a) (hh : U64h h) : Snd Try.prog 29 [.ptr 0 0, hdA h] (caM l a t hd) fun r => r = .ret (.tup [.int .i64 (getI l t h).1, .bool (getI l t h).2]) (caM (getL l t h) (getA l a t h) t hd) := by
  have := snd29 l a t hd h I hh
  rw [getR_eq] at this
  exact this

theorem all3 (l : List Ent) (a : List (Hd × Nat)) (t hd : Nat) : (caM l a t hd).all (inDB fun _ => true) = true := by
  have h1 : inDB (fun _ => true) (.row 69 15 (l.map enC)) = true := nfs_ens l
  have h2 : inDB (fun _ => true) (.map (a.map atC)) = true := nfp_at a
  have h0 : inDB (fun _ => true) (caV l.length t hd) = true := rfl
  simp only [caM, List.all_cons, List.all_nil, h0, h1, h2, Bool.and_self]
theorem callD_new' {f : FuncId} {vs : List V} {m m1 m' : Mem} {K Kp : V → Mem → Prop} {v0 v : V} (h : Snd Try.prog f vs [] fun r => r = .ret v0 m1) (he : enterable Try.prog f = true) (hn : nfs vs = true) (hnv : nf v0 = false) (hd : inD (fun _ => true) v0 = true) (hall : m1.all (inDB fun _ => true) = true)
    (hv : ren (back [] m.length) v0 = v) (hm : m ++ m1.map (renB (back [] m.length)) = m') (hk : K v m') : callD Try.prog f vs m K Kp := by
  have hroots : rootsV m vs = [] := by unfold rootsV; rw [nfs_nmss vs hn]; rfl
  unfold callD
  rw [hroots]
  refine ⟨?_, he, _, (by rw [rens_nf _ _ hn]; exact h), ?_⟩
  · simp [okCall, nfs_inDs _ vs hn, closedB, nodupB]
  · rintro r rfl
    refine ⟨?_, ?_⟩
    · simp only [okRes, CR.val, CR.mem, okBack, hd, hall]
      simp
    · simp only [backV, hnv, Bool.and_false, cond_false, hv]
      have : merge [] m m1 = m' := by
        rw [← hm]
        rfl
      rw [this]
      exact hk
theorem callD_cm {f : FuncId} {vs vs1 : List V} {v : V} {K Kp : V → Mem → Prop} {l l' : List Ent} {a a' : List (Hd × Nat)} {t t' hd hd' : Nat} {ex : Mem} (h : Snd Try.prog f vs1 (caM l a t hd) fun r => r = .ret v (caM l' a' t' hd')) (he : enterable Try.prog f = true)
    (hr : rootsV (caM l a t hd ++ ex) vs = [0, 1, 2]) (hi : inDs (fun k => [0, 1, 2].contains k) vs = true) (hv1 : rens (idx [0, 1, 2]) vs = vs1) (hv : nf v = true) (hk : K v (caM l' a' t' hd' ++ ex)) : callD Try.prog f vs (caM l a t hd ++ ex) K Kp :=
  callD_ca h he hr hi hv1 rfl (nfs_ens l) (nfp_at a) rfl hv rfl (nfs_ens l') (nfp_at a') (hb3 _ _ _) hk

/-! ### Two places -/
def E (n : Nat) (m : Bool) : Ent := ⟨hN n, (n : Int), 0, m, true⟩
def L0 : List Ent := [e0, e0]
def A0 : List (Hd × Nat) := []
def L1 : List Ent := [E 1 false, e0]
def A1 : List (Hd × Nat) := [(hN 1, 0)]
def L2 : List Ent := [E 1 false, E 2 false]
def A2 : List (Hd × Nat) := [(hN 1, 0), (hN 2, 1)]
def L3 : List Ent := [E 1 true, E 2 false]
def A3 : List (Hd × Nat) := [(hN 1, 0), (hN 2, 1)]
def L4 : List Ent := [E 1 false, E 3 false]
def A4 : List (Hd × Nat) := [(hN 1, 0), (hN 3, 1)]
def L5 : List Ent := [E 1 true, E 3 false]
def A5 : List (Hd × Nat) := [(hN 1, 0), (hN 3, 1)]
def L6 : List Ent := [E 1 true, E 3 true]
def A6 : List (Hd × Nat) := [(hN 1, 0), (hN 3, 1)]
def L7 : List Ent := [e0, E 3 true]
def A7 : List (Hd × Nat) := [(hN 3, 1)]
theorem I0 : Inv L0 A0 := Inv.none (n := 2)
theorem P1 : putR L0 A0 0 0 (hN 1) 1 = (L1, A1, 0) := by kernel_rfl
theorem I1 : Inv L1 A1 := by
  have := (putR_inv (t := 0) (hd := 0) (id := 1) I0 (hN_lt (n := 1) (by omega)) (.inr (by decide))).1
  rw [P1] at this
  exact this
theorem S1 : Snd Try.prog 31 [.ptr 0 0, hdA (hN 1), .int .i64 1] (caM L0 A0 0 0) fun r => r = .ret (.tup []) (caM L1 A1 0 0) := by
  have := snd31 L0 A0 0 0 (hN 1) 1 I0 (hN_lt (by omega)) (by decide) (.inr (by decide))
  rw [P1] at this
  exact this
theorem P2 : putR L1 A1 0 0 (hN 2) 2 = (L2, A2, 0) := by kernel_rfl
theorem I2 : Inv L2 A2 := by
  have := (putR_inv (t := 0) (hd := 0) (id := 2) I1 (hN_lt (n := 2) (by omega)) (.inr (by decide))).1
  rw [P2] at this
  exact this
theorem S2 : Snd Try.prog 31 [.ptr 0 0, hdA (hN 2), .int .i64 2] (caM L1 A1 0 0) fun r => r = .ret (.tup []) (caM L2 A2 0 0) := by
  have := snd31 L1 A1 0 0 (hN 2) 2 I1 (hN_lt (by omega)) (by decide) (.inr (by decide))
  rw [P2] at this
  exact this
theorem G3 : getL L2 0 (hN 1) = L3 ∧ getA L2 A2 0 (hN 1) = A3 ∧ getI L2 0 (hN 1) = (1, true) := ⟨by kernel_rfl, by kernel_rfl, by kernel_rfl⟩
theorem I3 : Inv L3 A3 := by
  have := get_inv I2 0 (hN 1)
  rw [G3.1, G3.2.1] at this
  exact this
theorem T3 : Snd Try.prog 29 [.ptr 0 0, hdA (hN 1)] (caM L2 A2 0 0) fun r => r = .ret (.tup [.int .i64 1, .bool true]) (caM L3 A3 0 0) := by
  have := snd29' L2 A2 0 0 (hN 1) I2 (hN_lt (by omega))
  rw [G3.1, G3.2.1, G3.2.2] at this
  exact this
theorem P4 : putR L3 A3 0 0 (hN 3) 3 = (L4, A4, 0) := by kernel_rfl
theorem I4 : Inv L4 A4 := by
  have := (putR_inv (t := 0) (hd := 0) (id := 3) I3 (hN_lt (n := 3) (by omega)) (.inr (by decide))).1
  rw [P4] at this
  exact this
theorem S4 : Snd Try.prog 31 [.ptr 0 0, hdA (hN 3), .int .i64 3] (caM L3 A3 0 0) fun r => r = .ret (.tup []) (caM L4 A4 0 0) := by
  have := snd31 L3 A3 0 0 (hN 3) 3 I3 (hN_lt (by omega)) (by decide) (.inr (by decide))
  rw [P4] at this
  exact this
theorem G5 : getL L4 0 (hN 1) = L5 ∧ getA L4 A4 0 (hN 1) = A5 ∧ getI L4 0 (hN 1) = (1, true) := ⟨by kernel_rfl, by kernel_rfl, by kernel_rfl⟩
theorem I5 : Inv L5 A5 := by
  have := get_inv I4 0 (hN 1)
  rw [G5.1, G5.2.1] at this
  exact this
theorem T5 : Snd Try.prog 29 [.ptr 0 0, hdA (hN 1)] (caM L4 A4 0 0) fun r => r = .ret (.tup [.int .i64 1, .bool true]) (caM L5 A5 0 0) := by
  have := snd29' L4 A4 0 0 (hN 1) I4 (hN_lt (by omega))
  rw [G5.1, G5.2.1, G5.2.2] at this
  exact this
theorem G5b : getL L5 0 (hN 2) = L5 ∧ getA L5 A5 0 (hN 2) = A5 ∧ getI L5 0 (hN 2) = (0, false) := ⟨by kernel_rfl, by kernel_rfl, by kernel_rfl⟩
theorem T5b : Snd Try.prog 29 [.ptr 0 0, hdA (hN 2)] (caM L5 A5 0 0) fun r => r = .ret (.tup [.int .i64 0, .bool false]) (caM L5 A5 0 0) := by
  have := snd29' L5 A5 0 0 (hN 2) I5 (hN_lt (by omega))
  rw [G5b.1, G5b.2.1, G5b.2.2] at this
  exact this
theorem G6 : getL L5 0 (hN 3) = L6 ∧ getA L5 A5 0 (hN 3) = A6 ∧ getI L5 0 (hN 3) = (3, true) := ⟨by kernel_rfl, by kernel_rfl, by kernel_rfl⟩
theorem I6 : Inv L6 A6 := by
  have := get_inv I5 0 (hN 3)
  rw [G6.1, G6.2.1] at this
  exact this
theorem T6 : Snd Try.prog 29 [.ptr 0 0, hdA (hN 3)] (caM L5 A5 0 0) fun r => r = .ret (.tup [.int .i64 3, .bool true]) (caM L6 A6 0 0) := by
  have := snd29' L5 A5 0 0 (hN 3) I5 (hN_lt (by omega))
  rw [G6.1, G6.2.1, G6.2.2] at this
  exact this
theorem G7 : getL L6 1 (hN 1) = L7 ∧ getA L6 A6 1 (hN 1) = A7 ∧ getI L6 1 (hN 1) = (0, false) := ⟨by kernel_rfl, by kernel_rfl, by kernel_rfl⟩
theorem I7 : Inv L7 A7 := by
  have := get_inv I6 1 (hN 1)
  rw [G7.1, G7.2.1] at this
  exact this
theorem T7 : Snd Try.prog 29 [.ptr 0 0, hdA (hN 1)] (caM L6 A6 1 0) fun r => r = .ret (.tup [.int .i64 0, .bool false]) (caM L7 A7 1 0) := by
  have := snd29' L6 A6 1 0 (hN 1) I6 (hN_lt (by omega))
  rw [G7.1, G7.2.1, G7.2.2] at this
  exact this
theorem N0 : Snd Try.prog 27 [.int .i64 2] [] fun r => r = .ret (.ptr 0 0) (caM L0 A0 0 0) := snd27 2
theorem H7 : Snd Try.prog 35 [.ptr 0 0] (caM L7 A7 1 0) fun r => r = .ret (.int .i64 0) (caM L7 A7 1 0) := snd35 L7 A7 1 0 (by decide)
theorem V6 : Snd Try.prog 33 [.ptr 0 0] (caM L6 A6 0 0) fun r => r = .ret (.tup []) (caM L6 A6 1 0) := snd33 L6 A6 0 0 (by decide)

set_option maxHeartbeats 2000000 in
theorem ans26 : Ans Try.prog 26 [] (.bool true) := by
  refine Snd_of_W fol rfl rfl (by kernel_rfl) (by kernel_rfl) ?_
  simp -implicitDefEqProofs only [sims.1, fx.1, tick_on, calleeK, List.getElem?_toArray, extractV, oneV, faddrK, nonnil, b_shr, b_shl, eq_self, beq_self_eq_true, fieldK, Option.bind_some, Option.map_some, Option.bind_none, Option.map_none, List.map_cons, List.map_nil, List.getD_cons_zero, List.getD_cons_succ, List.getD_nil, List.length_nil, List.length_cons, List.length_set, List.nil_append, List.cons_append, List.append_nil, List.getElem?_cons_zero, List.getElem?_cons_succ, List.getElem?_nil, List.set_cons_zero, List.set_cons_succ, Nat.reduceAdd, Nat.zero_add, Nat.add_zero, Nat.mul_one, Nat.mul_zero, Nat.zero_mul, Nat.reduceMul, Nat.reduceSub, Nat.reduceEqDiff, Nat.reduceLT, Nat.reduceLeDiff, Nat.reduceBEq, Nat.reduceBNe, Nat.succ_ne_self, reduceIte, if_true, if_false, ite_self, decide_true, decide_false, Bool.not_true, Bool.not_false, Bool.and_true, Bool.true_and, Bool.and_false, Bool.false_and, Bool.or_true, Bool.true_or, Bool.or_false, Bool.false_or, cond_true, cond_false, Int.reduceEq, Int.reduceLT, Int.reduceLE, Int.reduceNe, Int.reduceToNat]
  refine callD_new' (v := .ptr 0 0) (m' := caM L0 A0 0 0 ++ []) N0 en27 rfl rfl rfl (all3 _ _ _ _) (by kernel_rfl) (by kernel_rfl) ?_
  simp -implicitDefEqProofs only [sims.1, fx.1, tick_on, calleeK, List.getElem?_toArray, extractV, oneV, faddrK, nonnil, b_shr, b_shl, eq_self, beq_self_eq_true, fieldK, Option.bind_some, Option.map_some, Option.bind_none, Option.map_none, List.map_cons, List.map_nil, List.getD_cons_zero, List.getD_cons_succ, List.getD_nil, List.length_nil, List.length_cons, List.length_set, List.nil_append, List.cons_append, List.append_nil, List.getElem?_cons_zero, List.getElem?_cons_succ, List.getElem?_nil, List.set_cons_zero, List.set_cons_succ, Nat.reduceAdd, Nat.zero_add, Nat.add_zero, Nat.mul_one, Nat.mul_zero, Nat.zero_mul, Nat.reduceMul, Nat.reduceSub, Nat.reduceEqDiff, Nat.reduceLT, Nat.reduceLeDiff, Nat.reduceBEq, Nat.reduceBNe, Nat.succ_ne_self, reduceIte, if_true, if_false, ite_self, decide_true, decide_false, Bool.not_true, Bool.not_false, Bool.and_true, Bool.true_and, Bool.and_false, Bool.false_and, Bool.or_true, Bool.true_or, Bool.or_false, Bool.false_or, cond_true, cond_false, Int.reduceEq, Int.reduceLT, Int.reduceLE, Int.reduceNe, Int.reduceToNat]
  refine callD_ans ans39_1 en39 rfl (nf_hdA _) ?_
  simp -implicitDefEqProofs only [sims.1, fx.1, tick_on, calleeK, List.getElem?_toArray, extractV, oneV, faddrK, nonnil, b_shr, b_shl, eq_self, beq_self_eq_true, fieldK, Option.bind_some, Option.map_some, Option.bind_none, Option.map_none, List.map_cons, List.map_nil, List.getD_cons_zero, List.getD_cons_succ, List.getD_nil, List.length_nil, List.length_cons, List.length_set, List.nil_append, List.cons_append, List.append_nil, List.getElem?_cons_zero, List.getElem?_cons_succ, List.getElem?_nil, List.set_cons_zero, List.set_cons_succ, Nat.reduceAdd, Nat.zero_add, Nat.add_zero, Nat.mul_one, Nat.mul_zero, Nat.zero_mul, Nat.reduceMul, Nat.reduceSub, Nat.reduceEqDiff, Nat.reduceLT, Nat.reduceLeDiff, Nat.reduceBEq, Nat.reduceBNe, Nat.succ_ne_self, reduceIte, if_true, if_false, ite_self, decide_true, decide_false, Bool.not_true, Bool.not_false, Bool.and_true, Bool.true_and, Bool.and_false, Bool.false_and, Bool.or_true, Bool.true_or, Bool.or_false, Bool.false_or, cond_true, cond_false, Int.reduceEq, Int.reduceLT, Int.reduceLE, Int.reduceNe, Int.reduceToNat]
  refine callD_cm S1 en31 (by kernel_rfl) rfl (by kernel_rfl) rfl ?_
  simp -implicitDefEqProofs only [sims.1, fx.1, tick_on, calleeK, List.getElem?_toArray, extractV, oneV, faddrK, nonnil, b_shr, b_shl, eq_self, beq_self_eq_true, fieldK, Option.bind_some, Option.map_some, Option.bind_none, Option.map_none, List.map_cons, List.map_nil, List.getD_cons_zero, List.getD_cons_succ, List.getD_nil, List.length_nil, List.length_cons, List.length_set, List.nil_append, List.cons_append, List.append_nil, List.getElem?_cons_zero, List.getElem?_cons_succ, List.getElem?_nil, List.set_cons_zero, List.set_cons_succ, Nat.reduceAdd, Nat.zero_add, Nat.add_zero, Nat.mul_one, Nat.mul_zero, Nat.zero_mul, Nat.reduceMul, Nat.reduceSub, Nat.reduceEqDiff, Nat.reduceLT, Nat.reduceLeDiff, Nat.reduceBEq, Nat.reduceBNe, Nat.succ_ne_self, reduceIte, if_true, if_false, ite_self, decide_true, decide_false, Bool.not_true, Bool.not_false, Bool.and_true, Bool.true_and, Bool.and_false, Bool.false_and, Bool.or_true, Bool.true_or, Bool.or_false, Bool.false_or, cond_true, cond_false, Int.reduceEq, Int.reduceLT, Int.reduceLE, Int.reduceNe, Int.reduceToNat]
  refine callD_ans ans39_2 en39 rfl (nf_hdA _) ?_
  simp -implicitDefEqProofs only [sims.1, fx.1, tick_on, calleeK, List.getElem?_toArray, extractV, oneV, faddrK, nonnil, b_shr, b_shl, eq_self, beq_self_eq_true, fieldK, Option.bind_some, Option.map_some, Option.bind_none, Option.map_none, List.map_cons, List.map_nil, List.getD_cons_zero, List.getD_cons_succ, List.getD_nil, List.length_nil, List.length_cons, List.length_set, List.nil_append, List.cons_append, List.append_nil, List.getElem?_cons_zero, List.getElem?_cons_succ, List.getElem?_nil, List.set_cons_zero, List.set_cons_succ, Nat.reduceAdd, Nat.zero_add, Nat.add_zero, Nat.mul_one, Nat.mul_zero, Nat.zero_mul, Nat.reduceMul, Nat.reduceSub, Nat.reduceEqDiff, Nat.reduceLT, Nat.reduceLeDiff, Nat.reduceBEq, Nat.reduceBNe, Nat.succ_ne_self, reduceIte, if_true, if_false, ite_self, decide_true, decide_false, Bool.not_true, Bool.not_false, Bool.and_true, Bool.true_and, Bool.and_false, Bool.false_and, Bool.or_true, Bool.true_or, Bool.or_false, Bool.false_or, cond_true, cond_false, Int.reduceEq, Int.reduceLT, Int.reduceLE, Int.reduceNe, Int.reduceToNat]
  refine callD_cm S2 en31 (by kernel_rfl) rfl (by kernel_rfl) rfl ?_
  simp -implicitDefEqProofs only [sims.1, fx.1, tick_on, calleeK, List.getElem?_toArray, extractV, oneV, faddrK, nonnil, b_shr, b_shl, eq_self, beq_self_eq_true, fieldK, Option.bind_some, Option.map_some, Option.bind_none, Option.map_none, List.map_cons, List.map_nil, List.getD_cons_zero, List.getD_cons_succ, List.getD_nil, List.length_nil, List.length_cons, List.length_set, List.nil_append, List.cons_append, List.append_nil, List.getElem?_cons_zero, List.getElem?_cons_succ, List.getElem?_nil, List.set_cons_zero, List.set_cons_succ, Nat.reduceAdd, Nat.zero_add, Nat.add_zero, Nat.mul_one, Nat.mul_zero, Nat.zero_mul, Nat.reduceMul, Nat.reduceSub, Nat.reduceEqDiff, Nat.reduceLT, Nat.reduceLeDiff, Nat.reduceBEq, Nat.reduceBNe, Nat.succ_ne_self, reduceIte, if_true, if_false, ite_self, decide_true, decide_false, Bool.not_true, Bool.not_false, Bool.and_true, Bool.true_and, Bool.and_false, Bool.false_and, Bool.or_true, Bool.true_or, Bool.or_false, Bool.false_or, cond_true, cond_false, Int.reduceEq, Int.reduceLT, Int.reduceLE, Int.reduceNe, Int.reduceToNat]
  refine callD_ans ans39_1 en39 rfl (nf_hdA _) ?_
  simp -implicitDefEqProofs only [sims.1, fx.1, tick_on, calleeK, List.getElem?_toArray, extractV, oneV, faddrK, nonnil, b_shr, b_shl, eq_self, beq_self_eq_true, fieldK, Option.bind_some, Option.map_some, Option.bind_none, Option.map_none, List.map_cons, List.map_nil, List.getD_cons_zero, List.getD_cons_succ, List.getD_nil, List.length_nil, List.length_cons, List.length_set, List.nil_append, List.cons_append, List.append_nil, List.getElem?_cons_zero, List.getElem?_cons_succ, List.getElem?_nil, List.set_cons_zero, List.set_cons_succ, Nat.reduceAdd, Nat.zero_add, Nat.add_zero, Nat.mul_one, Nat.mul_zero, Nat.zero_mul, Nat.reduceMul, Nat.reduceSub, Nat.reduceEqDiff, Nat.reduceLT, Nat.reduceLeDiff, Nat.reduceBEq, Nat.reduceBNe, Nat.succ_ne_self, reduceIte, if_true, if_false, ite_self, decide_true, decide_false, Bool.not_true, Bool.not_false, Bool.and_true, Bool.true_and, Bool.and_false, Bool.false_and, Bool.or_true, Bool.true_or, Bool.or_false, Bool.false_or, cond_true, cond_false, Int.reduceEq, Int.reduceLT, Int.reduceLE, Int.reduceNe, Int.reduceToNat]
  refine callD_cm T3 en29 (by kernel_rfl) rfl (by kernel_rfl) rfl ?_
  simp -implicitDefEqProofs only [sims.1, fx.1, tick_on, calleeK, List.getElem?_toArray, extractV, oneV, faddrK, nonnil, b_shr, b_shl, eq_self, beq_self_eq_true, fieldK, Option.bind_some, Option.map_some, Option.bind_none, Option.map_none, List.map_cons, List.map_nil, List.getD_cons_zero, List.getD_cons_succ, List.getD_nil, List.length_nil, List.length_cons, List.length_set, List.nil_append, List.cons_append, List.append_nil, List.getElem?_cons_zero, List.getElem?_cons_succ, List.getElem?_nil, List.set_cons_zero, List.set_cons_succ, Nat.reduceAdd, Nat.zero_add, Nat.add_zero, Nat.mul_one, Nat.mul_zero, Nat.zero_mul, Nat.reduceMul, Nat.reduceSub, Nat.reduceEqDiff, Nat.reduceLT, Nat.reduceLeDiff, Nat.reduceBEq, Nat.reduceBNe, Nat.succ_ne_self, reduceIte, if_true, if_false, ite_self, decide_true, decide_false, Bool.not_true, Bool.not_false, Bool.and_true, Bool.true_and, Bool.and_false, Bool.false_and, Bool.or_true, Bool.true_or, Bool.or_false, Bool.false_or, cond_true, cond_false, Int.reduceEq, Int.reduceLT, Int.reduceLE, Int.reduceNe, Int.reduceToNat]
  refine callD_ans ans39_3 en39 rfl (nf_hdA _) ?_
  simp -implicitDefEqProofs only [sims.1, fx.1, tick_on, calleeK, List.getElem?_toArray, extractV, oneV, faddrK, nonnil, b_shr, b_shl, eq_self, beq_self_eq_true, fieldK, Option.bind_some, Option.map_some, Option.bind_none, Option.map_none, List.map_cons, List.map_nil, List.getD_cons_zero, List.getD_cons_succ, List.getD_nil, List.length_nil, List.length_cons, List.length_set, List.nil_append, List.cons_append, List.append_nil, List.getElem?_cons_zero, List.getElem?_cons_succ, List.getElem?_nil, List.set_cons_zero, List.set_cons_succ, Nat.reduceAdd, Nat.zero_add, Nat.add_zero, Nat.mul_one, Nat.mul_zero, Nat.zero_mul, Nat.reduceMul, Nat.reduceSub, Nat.reduceEqDiff, Nat.reduceLT, Nat.reduceLeDiff, Nat.reduceBEq, Nat.reduceBNe, Nat.succ_ne_self, reduceIte, if_true, if_false, ite_self, decide_true, decide_false, Bool.not_true, Bool.not_false, Bool.and_true, Bool.true_and, Bool.and_false, Bool.false_and, Bool.or_true, Bool.true_or, Bool.or_false, Bool.false_or, cond_true, cond_false, Int.reduceEq, Int.reduceLT, Int.reduceLE, Int.reduceNe, Int.reduceToNat]
  refine callD_cm S4 en31 (by kernel_rfl) rfl (by kernel_rfl) rfl ?_
  simp -implicitDefEqProofs only [sims.1, fx.1, tick_on, calleeK, List.getElem?_toArray, extractV, oneV, faddrK, nonnil, b_shr, b_shl, eq_self, beq_self_eq_true, fieldK, Option.bind_some, Option.map_some, Option.bind_none, Option.map_none, List.map_cons, List.map_nil, List.getD_cons_zero, List.getD_cons_succ, List.getD_nil, List.length_nil, List.length_cons, List.length_set, List.nil_append, List.cons_append, List.append_nil, List.getElem?_cons_zero, List.getElem?_cons_succ, List.getElem?_nil, List.set_cons_zero, List.set_cons_succ, Nat.reduceAdd, Nat.zero_add, Nat.add_zero, Nat.mul_one, Nat.mul_zero, Nat.zero_mul, Nat.reduceMul, Nat.reduceSub, Nat.reduceEqDiff, Nat.reduceLT, Nat.reduceLeDiff, Nat.reduceBEq, Nat.reduceBNe, Nat.succ_ne_self, reduceIte, if_true, if_false, ite_self, decide_true, decide_false, Bool.not_true, Bool.not_false, Bool.and_true, Bool.true_and, Bool.and_false, Bool.false_and, Bool.or_true, Bool.true_or, Bool.or_false, Bool.false_or, cond_true, cond_false, Int.reduceEq, Int.reduceLT, Int.reduceLE, Int.reduceNe, Int.reduceToNat]
  refine callD_ans ans39_1 en39 rfl (nf_hdA _) ?_
  simp -implicitDefEqProofs only [sims.1, fx.1, tick_on, calleeK, List.getElem?_toArray, extractV, oneV, faddrK, nonnil, b_shr, b_shl, eq_self, beq_self_eq_true, fieldK, Option.bind_some, Option.map_some, Option.bind_none, Option.map_none, List.map_cons, List.map_nil, List.getD_cons_zero, List.getD_cons_succ, List.getD_nil, List.length_nil, List.length_cons, List.length_set, List.nil_append, List.cons_append, List.append_nil, List.getElem?_cons_zero, List.getElem?_cons_succ, List.getElem?_nil, List.set_cons_zero, List.set_cons_succ, Nat.reduceAdd, Nat.zero_add, Nat.add_zero, Nat.mul_one, Nat.mul_zero, Nat.zero_mul, Nat.reduceMul, Nat.reduceSub, Nat.reduceEqDiff, Nat.reduceLT, Nat.reduceLeDiff, Nat.reduceBEq, Nat.reduceBNe, Nat.succ_ne_self, reduceIte, if_true, if_false, ite_self, decide_true, decide_false, Bool.not_true, Bool.not_false, Bool.and_true, Bool.true_and, Bool.and_false, Bool.false_and, Bool.or_true, Bool.true_or, Bool.or_false, Bool.false_or, cond_true, cond_false, Int.reduceEq, Int.reduceLT, Int.reduceLE, Int.reduceNe, Int.reduceToNat]
  refine callD_cm T5 en29 (by kernel_rfl) rfl (by kernel_rfl) rfl ?_
  simp -implicitDefEqProofs only [sims.1, fx.1, tick_on, calleeK, List.getElem?_toArray, extractV, oneV, faddrK, nonnil, b_shr, b_shl, eq_self, beq_self_eq_true, fieldK, Option.bind_some, Option.map_some, Option.bind_none, Option.map_none, List.map_cons, List.map_nil, List.getD_cons_zero, List.getD_cons_succ, List.getD_nil, List.length_nil, List.length_cons, List.length_set, List.nil_append, List.cons_append, List.append_nil, List.getElem?_cons_zero, List.getElem?_cons_succ, List.getElem?_nil, List.set_cons_zero, List.set_cons_succ, Nat.reduceAdd, Nat.zero_add, Nat.add_zero, Nat.mul_one, Nat.mul_zero, Nat.zero_mul, Nat.reduceMul, Nat.reduceSub, Nat.reduceEqDiff, Nat.reduceLT, Nat.reduceLeDiff, Nat.reduceBEq, Nat.reduceBNe, Nat.succ_ne_self, reduceIte, if_true, if_false, ite_self, decide_true, decide_false, Bool.not_true, Bool.not_false, Bool.and_true, Bool.true_and, Bool.and_false, Bool.false_and, Bool.or_true, Bool.true_or, Bool.or_false, Bool.false_or, cond_true, cond_false, Int.reduceEq, Int.reduceLT, Int.reduceLE, Int.reduceNe, Int.reduceToNat]
  refine callD_ans ans39_2 en39 rfl (nf_hdA _) ?_
  simp -implicitDefEqProofs only [sims.1, fx.1, tick_on, calleeK, List.getElem?_toArray, extractV, oneV, faddrK, nonnil, b_shr, b_shl, eq_self, beq_self_eq_true, fieldK, Option.bind_some, Option.map_some, Option.bind_none, Option.map_none, List.map_cons, List.map_nil, List.getD_cons_zero, List.getD_cons_succ, List.getD_nil, List.length_nil, List.length_cons, List.length_set, List.nil_append, List.cons_append, List.append_nil, List.getElem?_cons_zero, List.getElem?_cons_succ, List.getElem?_nil, List.set_cons_zero, List.set_cons_succ, Nat.reduceAdd, Nat.zero_add, Nat.add_zero, Nat.mul_one, Nat.mul_zero, Nat.zero_mul, Nat.reduceMul, Nat.reduceSub, Nat.reduceEqDiff, Nat.reduceLT, Nat.reduceLeDiff, Nat.reduceBEq, Nat.reduceBNe, Nat.succ_ne_self, reduceIte, if_true, if_false, ite_self, decide_true, decide_false, Bool.not_true, Bool.not_false, Bool.and_true, Bool.true_and, Bool.and_false, Bool.false_and, Bool.or_true, Bool.true_or, Bool.or_false, Bool.false_or, cond_true, cond_false, Int.reduceEq, Int.reduceLT, Int.reduceLE, Int.reduceNe, Int.reduceToNat]
  refine callD_cm T5b en29 (by kernel_rfl) rfl (by kernel_rfl) rfl ?_
  simp -implicitDefEqProofs only [sims.1, fx.1, tick_on, calleeK, List.getElem?_toArray, extractV, oneV, faddrK, nonnil, b_shr, b_shl, eq_self, beq_self_eq_true, fieldK, Option.bind_some, Option.map_some, Option.bind_none, Option.map_none, List.map_cons, List.map_nil, List.getD_cons_zero, List.getD_cons_succ, List.getD_nil, List.length_nil, List.length_cons, List.length_set, List.nil_append, List.cons_append, List.append_nil, List.getElem?_cons_zero, List.getElem?_cons_succ, List.getElem?_nil, List.set_cons_zero, List.set_cons_succ, Nat.reduceAdd, Nat.zero_add, Nat.add_zero, Nat.mul_one, Nat.mul_zero, Nat.zero_mul, Nat.reduceMul, Nat.reduceSub, Nat.reduceEqDiff, Nat.reduceLT, Nat.reduceLeDiff, Nat.reduceBEq, Nat.reduceBNe, Nat.succ_ne_self, reduceIte, if_true, if_false, ite_self, decide_true, decide_false, Bool.not_true, Bool.not_false, Bool.and_true, Bool.true_and, Bool.and_false, Bool.false_and, Bool.or_true, Bool.true_or, Bool.or_false, Bool.false_or, cond_true, cond_false, Int.reduceEq, Int.reduceLT, Int.reduceLE, Int.reduceNe, Int.reduceToNat]
  refine callD_ans ans39_3 en39 rfl (nf_hdA _) ?_
  simp -implicitDefEqProofs only [sims.1, fx.1, tick_on, calleeK, List.getElem?_toArray, extractV, oneV, faddrK, nonnil, b_shr, b_shl, eq_self, beq_self_eq_true, fieldK, Option.bind_some, Option.map_some, Option.bind_none, Option.map_none, List.map_cons, List.map_nil, List.getD_cons_zero, List.getD_cons_succ, List.getD_nil, List.length_nil, List.length_cons, List.length_set, List.nil_append, List.cons_append, List.append_nil, List.getElem?_cons_zero, List.getElem?_cons_succ, List.getElem?_nil, List.set_cons_zero, List.set_cons_succ, Nat.reduceAdd, Nat.zero_add, Nat.add_zero, Nat.mul_one, Nat.mul_zero, Nat.zero_mul, Nat.reduceMul, Nat.reduceSub, Nat.reduceEqDiff, Nat.reduceLT, Nat.reduceLeDiff, Nat.reduceBEq, Nat.reduceBNe, Nat.succ_ne_self, reduceIte, if_true, if_false, ite_self, decide_true, decide_false, Bool.not_true, Bool.not_false, Bool.and_true, Bool.true_and, Bool.and_false, Bool.false_and, Bool.or_true, Bool.true_or, Bool.or_false, Bool.false_or, cond_true, cond_false, Int.reduceEq, Int.reduceLT, Int.reduceLE, Int.reduceNe, Int.reduceToNat]
  refine callD_cm T6 en29 (by kernel_rfl) rfl (by kernel_rfl) rfl ?_
  simp -implicitDefEqProofs only [sims.1, fx.1, tick_on, calleeK, List.getElem?_toArray, extractV, oneV, faddrK, nonnil, b_shr, b_shl, eq_self, beq_self_eq_true, fieldK, Option.bind_some, Option.map_some, Option.bind_none, Option.map_none, List.map_cons, List.map_nil, List.getD_cons_zero, List.getD_cons_succ, List.getD_nil, List.length_nil, List.length_cons, List.length_set, List.nil_append, List.cons_append, List.append_nil, List.getElem?_cons_zero, List.getElem?_cons_succ, List.getElem?_nil, List.set_cons_zero, List.set_cons_succ, Nat.reduceAdd, Nat.zero_add, Nat.add_zero, Nat.mul_one, Nat.mul_zero, Nat.zero_mul, Nat.reduceMul, Nat.reduceSub, Nat.reduceEqDiff, Nat.reduceLT, Nat.reduceLeDiff, Nat.reduceBEq, Nat.reduceBNe, Nat.succ_ne_self, reduceIte, if_true, if_false, ite_self, decide_true, decide_false, Bool.not_true, Bool.not_false, Bool.and_true, Bool.true_and, Bool.and_false, Bool.false_and, Bool.or_true, Bool.true_or, Bool.or_false, Bool.false_or, cond_true, cond_false, Int.reduceEq, Int.reduceLT, Int.reduceLE, Int.reduceNe, Int.reduceToNat]
  refine callD_cm V6 en33 (by kernel_rfl) rfl (by kernel_rfl) rfl ?_
  simp -implicitDefEqProofs only [sims.1, fx.1, tick_on, calleeK, List.getElem?_toArray, extractV, oneV, faddrK, nonnil, b_shr, b_shl, eq_self, beq_self_eq_true, fieldK, Option.bind_some, Option.map_some, Option.bind_none, Option.map_none, List.map_cons, List.map_nil, List.getD_cons_zero, List.getD_cons_succ, List.getD_nil, List.length_nil, List.length_cons, List.length_set, List.nil_append, List.cons_append, List.append_nil, List.getElem?_cons_zero, List.getElem?_cons_succ, List.getElem?_nil, List.set_cons_zero, List.set_cons_succ, Nat.reduceAdd, Nat.zero_add, Nat.add_zero, Nat.mul_one, Nat.mul_zero, Nat.zero_mul, Nat.reduceMul, Nat.reduceSub, Nat.reduceEqDiff, Nat.reduceLT, Nat.reduceLeDiff, Nat.reduceBEq, Nat.reduceBNe, Nat.succ_ne_self, reduceIte, if_true, if_false, ite_self, decide_true, decide_false, Bool.not_true, Bool.not_false, Bool.and_true, Bool.true_and, Bool.and_false, Bool.false_and, Bool.or_true, Bool.true_or, Bool.or_false, Bool.false_or, cond_true, cond_false, Int.reduceEq, Int.reduceLT, Int.reduceLE, Int.reduceNe, Int.reduceToNat]
  refine callD_ans ans39_1 en39 rfl (nf_hdA _) ?_
  simp -implicitDefEqProofs only [sims.1, fx.1, tick_on, calleeK, List.getElem?_toArray, extractV, oneV, faddrK, nonnil, b_shr, b_shl, eq_self, beq_self_eq_true, fieldK, Option.bind_some, Option.map_some, Option.bind_none, Option.map_none, List.map_cons, List.map_nil, List.getD_cons_zero, List.getD_cons_succ, List.getD_nil, List.length_nil, List.length_cons, List.length_set, List.nil_append, List.cons_append, List.append_nil, List.getElem?_cons_zero, List.getElem?_cons_succ, List.getElem?_nil, List.set_cons_zero, List.set_cons_succ, Nat.reduceAdd, Nat.zero_add, Nat.add_zero, Nat.mul_one, Nat.mul_zero, Nat.zero_mul, Nat.reduceMul, Nat.reduceSub, Nat.reduceEqDiff, Nat.reduceLT, Nat.reduceLeDiff, Nat.reduceBEq, Nat.reduceBNe, Nat.succ_ne_self, reduceIte, if_true, if_false, ite_self, decide_true, decide_false, Bool.not_true, Bool.not_false, Bool.and_true, Bool.true_and, Bool.and_false, Bool.false_and, Bool.or_true, Bool.true_or, Bool.or_false, Bool.false_or, cond_true, cond_false, Int.reduceEq, Int.reduceLT, Int.reduceLE, Int.reduceNe, Int.reduceToNat]
  refine callD_cm T7 en29 (by kernel_rfl) rfl (by kernel_rfl) rfl ?_
  simp -implicitDefEqProofs only [sims.1, fx.1, tick_on, calleeK, List.getElem?_toArray, extractV, oneV, faddrK, nonnil, b_shr, b_shl, eq_self, beq_self_eq_true, fieldK, Option.bind_some, Option.map_some, Option.bind_none, Option.map_none, List.map_cons, List.map_nil, List.getD_cons_zero, List.getD_cons_succ, List.getD_nil, List.length_nil, List.length_cons, List.length_set, List.nil_append, List.cons_append, List.append_nil, List.getElem?_cons_zero, List.getElem?_cons_succ, List.getElem?_nil, List.set_cons_zero, List.set_cons_succ, Nat.reduceAdd, Nat.zero_add, Nat.add_zero, Nat.mul_one, Nat.mul_zero, Nat.zero_mul, Nat.reduceMul, Nat.reduceSub, Nat.reduceEqDiff, Nat.reduceLT, Nat.reduceLeDiff, Nat.reduceBEq, Nat.reduceBNe, Nat.succ_ne_self, reduceIte, if_true, if_false, ite_self, decide_true, decide_false, Bool.not_true, Bool.not_false, Bool.and_true, Bool.true_and, Bool.and_false, Bool.false_and, Bool.or_true, Bool.true_or, Bool.or_false, Bool.false_or, cond_true, cond_false, Int.reduceEq, Int.reduceLT, Int.reduceLE, Int.reduceNe, Int.reduceToNat]
  refine callD_cm H7 en35 (by kernel_rfl) rfl (by kernel_rfl) rfl ?_
  simp -implicitDefEqProofs only [sims.1, fx.1, tick_on, calleeK, List.getElem?_toArray, extractV, oneV, faddrK, nonnil, b_shr, b_shl, eq_self, beq_self_eq_true, fieldK, Option.bind_some, Option.map_some, Option.bind_none, Option.map_none, List.map_cons, List.map_nil, List.getD_cons_zero, List.getD_cons_succ, List.getD_nil, List.length_nil, List.length_cons, List.length_set, List.nil_append, List.cons_append, List.append_nil, List.getElem?_cons_zero, List.getElem?_cons_succ, List.getElem?_nil, List.set_cons_zero, List.set_cons_succ, Nat.reduceAdd, Nat.zero_add, Nat.add_zero, Nat.mul_one, Nat.mul_zero, Nat.zero_mul, Nat.reduceMul, Nat.reduceSub, Nat.reduceEqDiff, Nat.reduceLT, Nat.reduceLeDiff, Nat.reduceBEq, Nat.reduceBNe, Nat.succ_ne_self, reduceIte, if_true, if_false, ite_self, decide_true, decide_false, Bool.not_true, Bool.not_false, Bool.and_true, Bool.true_and, Bool.and_false, Bool.false_and, Bool.or_true, Bool.true_or, Bool.or_false, Bool.false_or, cond_true, cond_false, Int.reduceEq, Int.reduceLT, Int.reduceLE, Int.reduceNe, Int.reduceToNat]
  exact ans_ret rfl
end Go.Proofs.Ytnhejkfbnjopjaa
