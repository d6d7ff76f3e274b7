/- A message, written whole. No condition. -/
import Derived.Test.YtjjenpdjmcmgbaaQZg
namespace Go.Proofs.Ytjjenpdjmcmgbaa
open Go Ab
set_option linter.unusedSimpArgs false
set_option linter.unusedVariables false
set_option maxRecDepth 20000
/-- What stands behind a message's head. -/
def body (x : Ms) : List Nat :=
  if x.ty = 4 then enc x.sw 2 ++ (encP x.ports ++ encP x.edge) else if x.ty = 5 then enc (i8N x.dd) 1 ++ encR x.r else if x.ty = 6 ∨ x.ty = 7 then enc x.port 2 ++ encB x.frame
  else if x.ty = 11 then enc x.port 2 ++ encHs x.helds else if x.ty = 12 then enc x.port 2 ++ enc (b01 x.up) 1 else if x.ty = 13 then enc x.code 2 else []
/-- Ranks that four bytes hold, wherever they are written. -/
def Fair (x : Ms) : Prop := (x.ty = 5 → rkOK x.r) ∧ (x.ty = 11 → ∀ h ∈ x.helds, rkOK h.r)
theorem go_any {x : Ms} (hx : wfM x) (hf : Fair x) (ht : isTy x.ty = true) (a b : Nat) : ∃ f caps, goV x.ty a b = .fn f [] caps ∧ enterable Try.prog f = true ∧
    ∀ {m : Mem} {c : Nat} {p : V} {t : List V} {l : List Nat}, Cd m c l → Tg c m p (msC x ++ t) → m[a]? = some (.var 64 [.fn 41 [] []]) → m[b]? = some (.var 105 [.fn 43 [] []]) → Snd Try.prog f ([.ptr c 0, p] ++ caps) m (WQ c m l (body x)) := by
  unfold goV body
  by_cases h4 : x.ty = 4
  · rw [if_pos h4, if_pos h4]
    exact ⟨_, _, rfl, en50, fun hc hp ha hb => snd50 hx hc hb hp⟩
  rw [if_neg h4, if_neg h4]
  by_cases h5 : x.ty = 5
  · rw [if_pos h5, if_pos h5]
    exact ⟨_, _, rfl, en51, fun hc hp ha hb => rule_parts hx (hf.1 h5) hc hp⟩
  rw [if_neg h5, if_neg h5]
  by_cases h6 : x.ty = 6 ∨ x.ty = 7
  · rw [if_pos h6, if_pos h6]
    exact ⟨_, _, rfl, en46, fun hc hp ha hb => snd46 hx hc ha hp⟩
  rw [if_neg h6, if_neg h6]
  by_cases h11 : x.ty = 11
  · rw [if_pos h11, if_pos h11]
    exact ⟨_, _, rfl, en54, fun hc hp ha hb => snd54 hx (hf.2 h11) hc ha hp⟩
  rw [if_neg h11, if_neg h11]
  by_cases h12 : x.ty = 12
  · rw [if_pos h12, if_pos h12]
    exact ⟨_, _, rfl, en57, fun hc hp ha hb => snd57 hx hc ha hp⟩
  rw [if_neg h12, if_neg h12]
  by_cases h13 : x.ty = 13
  · rw [if_pos h13, if_pos h13]
    exact ⟨_, _, rfl, en59, fun hc hp ha hb => snd59 hx hc hp⟩
  rw [if_neg h13, if_neg h13, if_pos ht]
  exact ⟨_, _, rfl, en60, fun hc hp ha hb => snd60 hc⟩
def head (x : Ms) : List Nat := [1, i8N x.ty] ++ enc ((body x).length + 8) 2 ++ enc x.id 4
def whole (x : Ms) : List Nat := head x ++ body x
def fits (x : Ms) : Bool := decide ((body x).length + 8 ≤ 8192)
def QWr (x : Ms) (r : CR) : Prop := (fits x = true ∧ ∃ m1 k, r = .ret (.tup [.sl 1 k 0 (whole x).length, .bool true]) m1 ∧ m1[k]? = some (rowB (whole x))) ∨ (fits x = false ∧ ∃ m1, r = .ret (.tup [.nils, .bool false]) m1)
theorem rs15 (env : Env) (m : Mem) : resV Try.prog Try.prog.funcs[15] env m = (loadV Try.prog m 34 (env 2)).bind fun v => (loadV Try.prog m 4 (env 3)).bind fun u => some (.tup [v, u]) := by
  have : ∀ (fn : Func), fn.results = #[.cell 2 34, .cell 3 4] → resV Try.prog fn env m = (loadV Try.prog m 34 (env 2)).bind fun v => (loadV Try.prog m 4 (env 3)).bind fun u => some (.tup [v, u]) := by
    intro fn h
    unfold resV
    rw [h]
    simp only [List.mapM_cons, List.mapM_nil, resOne]
    cases loadV Try.prog m 34 (env 2) with
    | none => rfl
    | some v =>
      cases loadV Try.prog m 4 (env 3) with
      | none => rfl
      | some u => rfl
  exact this _ (by kernel_rfl)
theorem ne20 {t : Nat} {v : V} : binV Try.prog .neq 20 (.ifc t v) .nili = some (.bool true) := by kernel_rfl
theorem ne20n : binV Try.prog .neq 20 .nili .nili = some (.bool false) := by kernel_rfl
theorem evO_nili (env : Env) : evO env (.const .nilIface) = .nili := rfl
theorem stO (M : Mem) (n : Nat) {v : V} (h : oneV v = true) {ty : Nat} {u : V} (hm : M[n]? = some (.var ty [u])) : storeK 1 M (.ptr n 0) v = some (M.set n (.var ty [v])) := by
  rw [storeK_one h, hm]
  rfl
set_option maxHeartbeats 2000000 in
theorem boomW {Q : CR → Prop} {env : Env} {M : Mem} {u v : V} (h1 : M[1]? = some (.var 34 [u])) (h2 : M[2]? = some (.var 4 [v])) (e2 : env 2 = .ptr 1 0) (e3 : env 3 = .ptr 2 0)
    (hq : ∀ m', Q (.ret (.tup [.nils, .bool false]) m')) : endD Try.prog Try.prog.funcs[15] 30 [.ptr 1 0, .ptr 2 0] Q (.pan longV) env M := by
  have hl : 2 < M.length := (List.getElem?_eq_some_iff.1 h2).1
  refine ⟨fun m' => m' = ((M ++ [B.var 84 []]).set 1 (B.var 34 [.nils])).set 2 (B.var 4 [.bool false]), ?_, ?_⟩
  · refine SndD_of_W (k := 5) (j := 2) fol rfl rfl (by kernel_rfl) (by kernel_rfl) (by kernel_rfl) (by kernel_rfl) (by kernel_rfl) rfl ?_
    unfold longV
    have n1 : binV Try.prog .neq 20 (.ifc 84 (.agg [])) .nili = some (.bool true) := ne20
    have z1 : splice ([] : List V) 0 [] = [] := rfl
    have a1 : (M ++ [B.var 84 []])[M.length]? = some (.var 84 []) := by simp
    have a2 : (M ++ [B.var 84 []]).set M.length (.var 84 []) = M ++ [.var 84 []] := by simp
    have s1 : storeK 1 (M ++ [B.var 84 []]) (.ptr 1 0) .nils = some ((M ++ [B.var 84 []]).set 1 (.var 34 [.nils])) := stO _ _ rfl (by rw [List.getElem?_append_left (by omega), h1])
    have s2 : storeK 1 ((M ++ [B.var 84 []]).set 1 (.var 34 [.nils])) (.ptr 2 0) (.bool false) = some (((M ++ [B.var 84 []]).set 1 (.var 34 [.nils])).set 2 (.var 4 [.bool false])) := stO _ _ rfl (by rw [List.getElem?_set_ne (by omega), List.getElem?_append_left (by omega), h2])
    have ev : ∀ env, evO env (.const (.slice none 0 0)) = .nils := fun _ => rfl
    simp -implicitDefEqProofs only [sims.1, fx.1, keeps.1, tick_on, calleeK, extractV, oneV, faddrK, nonnil, b_shr, b_shl, fieldK, Nat.reduceAdd, Nat.reduceMul, Nat.reduceSub, Nat.reduceEqDiff, Nat.reduceLT, Nat.reduceLeDiff, Nat.reduceBEq, Nat.reduceBNe, reduceIte, Int.reduceEq, Int.reduceLT, Int.reduceLE, Int.reduceNe, Int.reduceToNat, Option.getD_some, evO_nili, n1, storeK_agg, z1, a1, a2, ev, s1, s2]
  · rintro m' rfl
    refine ⟨.tup [.nils, .bool false], ?_, hq _⟩
    rw [rs15, e2, e3, ld34, ld4, loadK_ptr, loadK_ptr, List.getElem?_set_ne (by omega), List.getElem?_set_self (by simp; omega), List.getElem?_set_self (by simp; omega)]
    rfl
theorem retW {Q : CR → Prop} {env : Env} {M : Mem} {u v : V} (h1 : M[1]? = some (.var 34 [u])) (h2 : M[2]? = some (.var 4 [v])) (e2 : env 2 = .ptr 1 0) (e3 : env 3 = .ptr 2 0)
    (hq : Q (.ret (.tup [u, v]) M)) : endD Try.prog Try.prog.funcs[15] 30 [.ptr 1 0, .ptr 2 0] Q .ret env M := by
  refine ⟨fun m' => m' = M, ?_, ?_⟩
  · refine SndD_of_W (k := 5) (j := 2) fol rfl rfl (by kernel_rfl) (by kernel_rfl) (by kernel_rfl) (by kernel_rfl) (by kernel_rfl) rfl ?_
    have n1 : binV Try.prog .neq 20 .nili .nili = some (.bool false) := ne20n
    simp -implicitDefEqProofs only [sims.1, fx.1, keeps.1, tick_on, calleeK, extractV, oneV, faddrK, nonnil, b_shr, b_shl, fieldK, Nat.reduceAdd, Nat.reduceMul, Nat.reduceSub, Nat.reduceEqDiff, Nat.reduceLT, Nat.reduceLeDiff, Nat.reduceBEq, Nat.reduceBNe, reduceIte, Int.reduceEq, Int.reduceLT, Int.reduceLE, Int.reduceNe, Int.reduceToNat, Option.getD_none, evO_nili, n1]
  · rintro m' rfl
    refine ⟨_, ?_, hq⟩
    rw [rs15, e2, e3, ld34, ld4, loadK_ptr, loadK_ptr, h1, h2]
    rfl
end Go.Proofs.Ytjjenpdjmcmgbaa
