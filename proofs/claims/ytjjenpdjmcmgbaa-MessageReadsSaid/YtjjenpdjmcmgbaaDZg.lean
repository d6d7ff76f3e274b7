/- Which way a Type has. No condition. -/
import Derived.Test.YtjjenpdjmcmgbaaDZf
namespace Go.Proofs.Ytjjenpdjmcmgbaa
open Go Ab
set_option linter.unusedSimpArgs false
set_option linter.unusedVariables false
set_option maxRecDepth 20000
theorem at_app {m : Mem} {l : Mem} (k : Nat) : (m ++ l)[m.length + k]? = l[k]? := by rw [List.getElem?_append_right (by omega)]; congr 1; omega
theorem at_app0 {m : Mem} {l : Mem} : (m ++ l)[m.length]? = l[0]? := at_app 0
theorem set_app {m : Mem} {l : Mem} (k : Nat) (b : B) : (m ++ l).set (m.length + k) b = m ++ l.set k b := by
  rw [List.set_append_right _ _ (by omega)]; congr 2; omega
theorem set_app0 {m : Mem} {l : Mem} (b : B) : (m ++ l).set m.length b = m ++ l.set 0 b := set_app 0 b
theorem add_assoc1 (n a b : Nat) : n + a + b = n + (a + b) := Nat.add_assoc _ _ _
def isTy (t : Int) : Bool := decide (0 ≤ t) && decide (t ≤ 13)
/-- The closure of a Type; cells a and b hold how a port and how ports are gone through. -/
def goV (t : Int) (a b : Nat) : V :=
  if t = 4 then .fn 50 [] [.ptr b 0] else if t = 5 then .fn 51 [] [] else if t = 6 ∨ t = 7 then .fn 46 [] [.ptr a 0] else if t = 11 then .fn 54 [] [.ptr a 0]
  else if t = 12 then .fn 57 [] [.ptr a 0] else if t = 13 then .fn 59 [] [] else if isTy t then .fn 60 [] [] else .nilf
def wayRow (a b : Nat) : List (List V) := [[.nilf], [.nilf], [.nilf], [.nilf], [.fn 50 [] [.ptr b 0]], [.fn 51 [] []], [.fn 46 [] [.ptr a 0]], [.fn 46 [] [.ptr a 0]], [.nilf], [.nilf], [.nilf], [.fn 54 [] [.ptr a 0]], [.fn 57 [] [.ptr a 0]], [.fn 59 [] []]]
theorem bs120 (a b : Nat) (m : Mem) : bsliceV Try.prog 120 14 [(4, .agg [.fn 50 [] [.ptr b 0]]), (5, .agg [.fn 51 [] []]), (6, .agg [.fn 46 [] [.ptr a 0]]), (7, .agg [.fn 46 [] [.ptr a 0]]), (11, .agg [.fn 54 [] [.ptr a 0]]), (12, .agg [.fn 57 [] [.ptr a 0]]), (13, .agg [.fn 59 [] []])] m = some (.sl 1 m.length 0 14, m ++ [.row 66 1 (wayRow a b)]) := by kernel_rfl
theorem eqfn (f : Nat) (a b : List V) : binV Try.prog .eql 64 (.fn f a b) .nilf = some (.bool false) := by kernel_rfl
theorem eqnf : binV Try.prog .eql 64 .nilf .nilf = some (.bool true) := by kernel_rfl
theorem evO_nilf (env : Env) : evO env (.const .nilFunc) = .nilf := rfl
theorem bu66f (f : Nat) (a b : List V) : buildV Try.prog 66 [(0, .fn f a b)] = some (.agg [.fn f a b]) := by kernel_rfl
theorem pk1 (v : V) : partK true 1 [v] 0 = some (.agg [v]) := rfl
theorem lt0 (t : Int) (h : 0 ≤ t) : decide (t < 0) = false := by simp; omega
def QW (t : Int) (m : Mem) (r : CR) : Prop := ∃ ex a b, r = .ret (.tup [.agg [goV t a b], .bool (isTy t)]) (m ++ ex) ∧ (m ++ ex)[a]? = some (.var 64 [.fn 41 [] []]) ∧ (m ++ ex)[b]? = some (.var 105 [.fn 43 [] []])
set_option maxHeartbeats 8000000 in
theorem snd21 (t : Int) (m : Mem) : Snd Try.prog 21 [.int .i8 t] m (QW t m) := by
  refine Snd_of_W fol rfl rfl (by kernel_rfl) (by kernel_rfl) ?_
  have stf : ∀ (M : Mem) (n : Nat) (f : Nat) (a b : List V), storeK 1 M (.ptr n 0) (.fn f a b) = (M[n]?).bind fun b' => match b' with | .var ty l => if 0 < l.length then some (M.set n (.var ty (l.set 0 (.fn f a b)))) else none | _ => none := fun M n f a b => storeK_one rfl
  have c13 : decide ((13 : Int) < t) = !decide (t ≤ 13) := by rw [Bool.eq_iff_iff]; simp
  cases e0 : decide (t < 0)
  · cases e1 : decide (t ≤ 13)
    · rw [e1] at c13
      have hT : isTy t = false := by unfold isTy; rw [e1, Bool.and_false]
      have hG : ∀ a b, goV t a b = .nilf := by
        intro a b
        have : ¬ t ≤ 13 := by simpa using e1
        unfold goV
        rw [if_neg (by omega), if_neg (by omega), if_neg (by omega), if_neg (by omega), if_neg (by omega), if_neg (by omega), hT]
        rfl
      simp -implicitDefEqProofs only [sims.1, fx.1, keeps.1, tick_on, Nat.reduceAdd, Nat.reduceEqDiff, Nat.reduceLT, Nat.reduceLeDiff, stf, bu66f, bs120, pk1, storeK_agg, splice_all, List.append_assoc, List.length_append, at_app, at_app0, set_app, set_app0, e0, c13]
      exact ⟨[B.var 66 [V.nilf], B.var 64 [V.fn 41 [] []], B.var 105 [V.fn 43 [] []], B.var 66 [V.fn 46 [] [V.ptr (m.length + 1) 0]], B.row 66 1 (wayRow (m.length + 1) (m.length + 2))], m.length + 1, m.length + 2, by rw [hG, hT], at_app 1, at_app 2⟩
    · rw [e1] at c13
      have h0 : 0 ≤ t := by have := of_decide_eq_false e0; omega
      have h13 : t ≤ 13 := of_decide_eq_true e1
      obtain ⟨j, rfl⟩ : ∃ j : Nat, t = (j : Int) := ⟨t.toNat, by omega⟩
      have hj : j < 14 := by omega
      have ia : ∀ {k : Nat} {kk : IntKind}, iaddrS 1 (.sl 1 k 0 14) (.int kk (j : Int)) = some (.ep 1 k (0 + j) 0) := iaddrS_sl hj
      match j, hj with
      | 0, _ =>
        have wr : (wayRow (m.length + 1) (m.length + 2))[0]? = some [V.nilf] := rfl
        simp -implicitDefEqProofs only [sims.1, fx.1, keeps.1, tick_on, faddrK, Nat.reduceAdd, Nat.reduceEqDiff, Nat.reduceLT, Nat.reduceLeDiff, stf, evO_nilf, bu66f, bs120, pk1, storeK_agg, splice_all, List.append_assoc, List.length_append, at_app, at_app0, set_app, set_app0, e0, c13, ia, loadK_ep, wr, eqnf]
        exact ⟨_, m.length + 1, m.length + 2, rfl, at_app 1, at_app 2⟩
      | 1, _ =>
        have wr : (wayRow (m.length + 1) (m.length + 2))[1]? = some [V.nilf] := rfl
        simp -implicitDefEqProofs only [sims.1, fx.1, keeps.1, tick_on, faddrK, Nat.reduceAdd, Nat.reduceEqDiff, Nat.reduceLT, Nat.reduceLeDiff, stf, evO_nilf, bu66f, bs120, pk1, storeK_agg, splice_all, List.append_assoc, List.length_append, at_app, at_app0, set_app, set_app0, e0, c13, ia, loadK_ep, wr, eqnf]
        exact ⟨_, m.length + 1, m.length + 2, rfl, at_app 1, at_app 2⟩
      | 2, _ =>
        have wr : (wayRow (m.length + 1) (m.length + 2))[2]? = some [V.nilf] := rfl
        simp -implicitDefEqProofs only [sims.1, fx.1, keeps.1, tick_on, faddrK, Nat.reduceAdd, Nat.reduceEqDiff, Nat.reduceLT, Nat.reduceLeDiff, stf, evO_nilf, bu66f, bs120, pk1, storeK_agg, splice_all, List.append_assoc, List.length_append, at_app, at_app0, set_app, set_app0, e0, c13, ia, loadK_ep, wr, eqnf]
        exact ⟨_, m.length + 1, m.length + 2, rfl, at_app 1, at_app 2⟩
      | 3, _ =>
        have wr : (wayRow (m.length + 1) (m.length + 2))[3]? = some [V.nilf] := rfl
        simp -implicitDefEqProofs only [sims.1, fx.1, keeps.1, tick_on, faddrK, Nat.reduceAdd, Nat.reduceEqDiff, Nat.reduceLT, Nat.reduceLeDiff, stf, evO_nilf, bu66f, bs120, pk1, storeK_agg, splice_all, List.append_assoc, List.length_append, at_app, at_app0, set_app, set_app0, e0, c13, ia, loadK_ep, wr, eqnf]
        exact ⟨_, m.length + 1, m.length + 2, rfl, at_app 1, at_app 2⟩
      | 4, _ =>
        have wr : (wayRow (m.length + 1) (m.length + 2))[4]? = some [V.fn 50 [] [V.ptr (m.length + 2) 0]] := rfl
        simp -implicitDefEqProofs only [sims.1, fx.1, keeps.1, tick_on, faddrK, Nat.reduceAdd, Nat.reduceEqDiff, Nat.reduceLT, Nat.reduceLeDiff, stf, evO_nilf, bu66f, bs120, pk1, storeK_agg, splice_all, List.append_assoc, List.length_append, at_app, at_app0, set_app, set_app0, e0, c13, ia, loadK_ep, wr, eqfn]
        exact ⟨_, m.length + 1, m.length + 2, rfl, at_app 1, at_app 2⟩
      | 5, _ =>
        have wr : (wayRow (m.length + 1) (m.length + 2))[5]? = some [V.fn 51 [] []] := rfl
        simp -implicitDefEqProofs only [sims.1, fx.1, keeps.1, tick_on, faddrK, Nat.reduceAdd, Nat.reduceEqDiff, Nat.reduceLT, Nat.reduceLeDiff, stf, evO_nilf, bu66f, bs120, pk1, storeK_agg, splice_all, List.append_assoc, List.length_append, at_app, at_app0, set_app, set_app0, e0, c13, ia, loadK_ep, wr, eqfn]
        exact ⟨_, m.length + 1, m.length + 2, rfl, at_app 1, at_app 2⟩
      | 6, _ =>
        have wr : (wayRow (m.length + 1) (m.length + 2))[6]? = some [V.fn 46 [] [V.ptr (m.length + 1) 0]] := rfl
        simp -implicitDefEqProofs only [sims.1, fx.1, keeps.1, tick_on, faddrK, Nat.reduceAdd, Nat.reduceEqDiff, Nat.reduceLT, Nat.reduceLeDiff, stf, evO_nilf, bu66f, bs120, pk1, storeK_agg, splice_all, List.append_assoc, List.length_append, at_app, at_app0, set_app, set_app0, e0, c13, ia, loadK_ep, wr, eqfn]
        exact ⟨_, m.length + 1, m.length + 2, rfl, at_app 1, at_app 2⟩
      | 7, _ =>
        have wr : (wayRow (m.length + 1) (m.length + 2))[7]? = some [V.fn 46 [] [V.ptr (m.length + 1) 0]] := rfl
        simp -implicitDefEqProofs only [sims.1, fx.1, keeps.1, tick_on, faddrK, Nat.reduceAdd, Nat.reduceEqDiff, Nat.reduceLT, Nat.reduceLeDiff, stf, evO_nilf, bu66f, bs120, pk1, storeK_agg, splice_all, List.append_assoc, List.length_append, at_app, at_app0, set_app, set_app0, e0, c13, ia, loadK_ep, wr, eqfn]
        exact ⟨_, m.length + 1, m.length + 2, rfl, at_app 1, at_app 2⟩
      | 8, _ =>
        have wr : (wayRow (m.length + 1) (m.length + 2))[8]? = some [V.nilf] := rfl
        simp -implicitDefEqProofs only [sims.1, fx.1, keeps.1, tick_on, faddrK, Nat.reduceAdd, Nat.reduceEqDiff, Nat.reduceLT, Nat.reduceLeDiff, stf, evO_nilf, bu66f, bs120, pk1, storeK_agg, splice_all, List.append_assoc, List.length_append, at_app, at_app0, set_app, set_app0, e0, c13, ia, loadK_ep, wr, eqnf]
        exact ⟨_, m.length + 1, m.length + 2, rfl, at_app 1, at_app 2⟩
      | 9, _ =>
        have wr : (wayRow (m.length + 1) (m.length + 2))[9]? = some [V.nilf] := rfl
        simp -implicitDefEqProofs only [sims.1, fx.1, keeps.1, tick_on, faddrK, Nat.reduceAdd, Nat.reduceEqDiff, Nat.reduceLT, Nat.reduceLeDiff, stf, evO_nilf, bu66f, bs120, pk1, storeK_agg, splice_all, List.append_assoc, List.length_append, at_app, at_app0, set_app, set_app0, e0, c13, ia, loadK_ep, wr, eqnf]
        exact ⟨_, m.length + 1, m.length + 2, rfl, at_app 1, at_app 2⟩
      | 10, _ =>
        have wr : (wayRow (m.length + 1) (m.length + 2))[10]? = some [V.nilf] := rfl
        simp -implicitDefEqProofs only [sims.1, fx.1, keeps.1, tick_on, faddrK, Nat.reduceAdd, Nat.reduceEqDiff, Nat.reduceLT, Nat.reduceLeDiff, stf, evO_nilf, bu66f, bs120, pk1, storeK_agg, splice_all, List.append_assoc, List.length_append, at_app, at_app0, set_app, set_app0, e0, c13, ia, loadK_ep, wr, eqnf]
        exact ⟨_, m.length + 1, m.length + 2, rfl, at_app 1, at_app 2⟩
      | 11, _ =>
        have wr : (wayRow (m.length + 1) (m.length + 2))[11]? = some [V.fn 54 [] [V.ptr (m.length + 1) 0]] := rfl
        simp -implicitDefEqProofs only [sims.1, fx.1, keeps.1, tick_on, faddrK, Nat.reduceAdd, Nat.reduceEqDiff, Nat.reduceLT, Nat.reduceLeDiff, stf, evO_nilf, bu66f, bs120, pk1, storeK_agg, splice_all, List.append_assoc, List.length_append, at_app, at_app0, set_app, set_app0, e0, c13, ia, loadK_ep, wr, eqfn]
        exact ⟨_, m.length + 1, m.length + 2, rfl, at_app 1, at_app 2⟩
      | 12, _ =>
        have wr : (wayRow (m.length + 1) (m.length + 2))[12]? = some [V.fn 57 [] [V.ptr (m.length + 1) 0]] := rfl
        simp -implicitDefEqProofs only [sims.1, fx.1, keeps.1, tick_on, faddrK, Nat.reduceAdd, Nat.reduceEqDiff, Nat.reduceLT, Nat.reduceLeDiff, stf, evO_nilf, bu66f, bs120, pk1, storeK_agg, splice_all, List.append_assoc, List.length_append, at_app, at_app0, set_app, set_app0, e0, c13, ia, loadK_ep, wr, eqfn]
        exact ⟨_, m.length + 1, m.length + 2, rfl, at_app 1, at_app 2⟩
      | 13, _ =>
        have wr : (wayRow (m.length + 1) (m.length + 2))[13]? = some [V.fn 59 [] []] := rfl
        simp -implicitDefEqProofs only [sims.1, fx.1, keeps.1, tick_on, faddrK, Nat.reduceAdd, Nat.reduceEqDiff, Nat.reduceLT, Nat.reduceLeDiff, stf, evO_nilf, bu66f, bs120, pk1, storeK_agg, splice_all, List.append_assoc, List.length_append, at_app, at_app0, set_app, set_app0, e0, c13, ia, loadK_ep, wr, eqfn]
        exact ⟨_, m.length + 1, m.length + 2, rfl, at_app 1, at_app 2⟩
      | n + 14, h => omega
  · have hlt := of_decide_eq_true e0
    have hT : isTy t = false := by unfold isTy; rw [show decide (0 ≤ t) = false by simp; omega, Bool.false_and]
    have hG : ∀ a b, goV t a b = .nilf := by
      intro a b
      unfold goV
      rw [if_neg (by omega), if_neg (by omega), if_neg (by omega), if_neg (by omega), if_neg (by omega), if_neg (by omega), hT]
      rfl
    simp -implicitDefEqProofs only [sims.1, fx.1, keeps.1, tick_on, Nat.reduceAdd, Nat.reduceEqDiff, Nat.reduceLT, Nat.reduceLeDiff, stf, bu66f, bs120, pk1, storeK_agg, splice_all, List.append_assoc, List.length_append, at_app, at_app0, set_app, set_app0, e0]
    exact ⟨[B.var 66 [V.nilf], B.var 64 [V.fn 41 [] []], B.var 105 [V.fn 43 [] []], B.var 66 [V.fn 46 [] [V.ptr (m.length + 1) 0]], B.row 66 1 (wayRow (m.length + 1) (m.length + 2))], m.length + 1, m.length + 2, by rw [hG, hT], at_app 1, at_app 2⟩
end Go.Proofs.Ytjjenpdjmcmgbaa
