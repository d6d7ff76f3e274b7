/- What a frame's reader does when bytes are short. No condition. -/
import Derived.Test.YtpmbhjmlghoogaaNr
namespace Go.Proofs.Ytpmbhjmlghoogaa
open Go Ab
set_option linter.unusedSimpArgs false
set_option linter.unusedVariables false
set_option maxRecDepth 20000

/-- Rows that are not there, told as empty ones. -/
def nil1 (s : Nat) : V → V
  | .nils => .isl s []
  | v => v
def nilV (s : Nat) : V → V
  | .agg l => .agg (l.map (nil1 s))
  | v => nil1 s v
def nilT (s : Nat) : V → V
  | .tup l => .tup (l.map (nilV s))
  | v => nilV s v
section
variable {N : Nat} {ρ : Pl} {I : Nat → Prop} {w : World}
theorem nil1_RV (s : Nat) {v : V} {x : Value} (h : RV N ρ I w v x) : RV N ρ I w (nil1 s v) x := by
  cases v with
  | nils =>
    simp only [nil1, RV] at h ⊢
    exact ⟨none, 0, by simpa using h, Nat.le_refl _, by simp⟩
  | _ => exact h
theorem nilV_RV (s : Nat) {v : V} {x : Value} (h : RV N ρ I w v x) : RV N ρ I w (nilV s v) x := by
  cases v with
  | agg l =>
    simp only [nilV, RV] at h ⊢
    obtain ⟨c, h1, h2, h3⟩ := h
    refine ⟨c, h1, by simpa using h2, Rc.mk fun i v hv => ?_⟩
    rw [List.getElem?_map, Option.map_eq_some_iff] at hv
    obtain ⟨u, hu, rfl⟩ := hv
    obtain ⟨y, k1, k2, k3⟩ := h3.get i u hu
    refine ⟨y, k1, ?_, nil1_RV s k3⟩
    cases u <;> exact k2
  | _ => exact nil1_RV s h
theorem nilT_RV (s : Nat) {v : V} {x : Value} (h : RV N ρ I w v x) : RV N ρ I w (nilT s v) x := by
  cases v with
  | tup l =>
    simp only [nilT, RV] at h ⊢
    obtain ⟨c, h1, h2, h3⟩ := h
    refine ⟨c, h1, by simpa using h2, Rt.mk fun i v hv => ?_⟩
    rw [List.getElem?_map, Option.map_eq_some_iff] at hv
    obtain ⟨u, hu, rfl⟩ := hv
    obtain ⟨y, k1, k2⟩ := h3.get i u hu
    exact ⟨y, k1, nilV_RV s k2⟩
  | _ => exact nilV_RV s h
end
theorem ans_nil {P : Program} {f : FuncId} {vs : List V} {v : V} (s : Nat) (h : Ans P f vs v) : Ans P f vs (nilT s v) := by
  intro ρ I w xs hr hl hrt
  refine (h ρ I w xs hr hl hrt).mono ?_
  rintro e w' ⟨r, ⟨m1, rfl⟩, x, ρ', I', rfl, k1, k2, k3⟩
  exact ⟨.ret (nilT s v) m1, ⟨m1, rfl⟩, x, ρ', I', rfl, k1, k2, nilT_RV s k3⟩
theorem ans_lendN {P : Program} {f : FuncId} {vs : List V} {v : V} (s : Nat) (h : Snd P f vs [] fun r => ∃ m1 v0, r = .ret v0 m1 ∧ nf (lendT m1 v0) = true ∧ nilT s (lendT m1 v0) = v) : Ans P f vs v := by
  intro ρ I w xs hr hl hrt
  have key : Snd P f vs [] fun r => ∃ m1 v0, r = .ret v0 m1 ∧ nf (lendT m1 v0) = true ∧ nilT s (lendT m1 v0) = v := h
  refine (key ρ I w xs hr hl hrt).mono ?_
  rintro e w' ⟨r, ⟨m1, v0, rfl, hn, rfl⟩, x, ρ', I', rfl, k1, k2, k3⟩
  have one : Snd P f vs [] (fun r => r = .ret v0 m1) → True := fun _ => trivial
  have k3' : RV m1.length ρ' I' w' v0 x := k3
  have k1 : Rep ρ' I' m1 w' := k1
  have noOwn : ∀ b, ¬ Own ρ ([] : Mem) b := by rintro b ⟨n, hn, _⟩; simp [live] at hn
  have deadL : ∀ n, ¬ live (m1.map fun _ => B.dead) n := by
    rintro n ⟨b, hb, hl⟩
    rw [List.getElem?_map] at hb
    cases hm : m1[n]? with
    | none => rw [hm] at hb; cases hb
    | some c => rw [hm] at hb; cases hb; cases hl
  have new : ∀ b, Own ρ' m1 b → w.heap.size ≤ b := by
    intro b hb
    rcases k2.own b hb with h | h
    · exact h
    · exact absurd h (noOwn _)
  refine ⟨.ret _ (m1.map fun _ => B.dead), ⟨_, rfl⟩, x, ρ', fun b => I' b ∨ Own ρ' m1 b, rfl, ⟨?_, fun n hn => absurd hn (deadL n), fun n _ hn => absurd hn (deadL n), ?_⟩, ?_, ?_⟩
  · intro n b hb
    have : ∀ b, (m1.map fun _ => B.dead)[n]? = some b → b = .dead := by
      intro b hb
      rw [List.getElem?_map] at hb
      cases hm : m1[n]? with
      | none => rw [hm] at hb; cases hb
      | some c => rw [hm] at hb; cases hb; rfl
    rw [this b hb]
    trivial
  · rintro b (hb | hb)
    · exact k1.ilt b hb
    · exact own_lt k1 hb
  · refine ⟨by simp, fun n hn => by simp at hn, fun n hn => by simp at hn, fun b hb => .inl (k2.iSub b hb), ?_, fun b ⟨n, hn, _⟩ => absurd hn (deadL n), k2.wle, k2.frame⟩
    rintro b (hb | hb)
    · exact k2.iNew b hb
    · exact .inr (.inl (new b hb))
  · exact nilT_RV s (lend_any k1 k3' hn)

def pcC (h : Hd) (x : V) : List V := hdC h ++ [x]
def zH : Hd := fun _ => 0
theorem bu27z : buildV Try.prog 60 [] = some (.agg (pcC zH .nils)) := by kernel_rfl
theorem sp_pc (h g : Hd) (x y : V) : splice (pcC h x) 0 (pcC g y) = pcC g y := rfl
theorem pc_len (h : Hd) (x : V) : (pcC h x).length = 12 := rfl
theorem pc_all (h : Hd) (x : V) : partK true 12 (pcC h x) 0 = some (.agg (pcC h x)) := rfl
theorem rs18p (env : Env) (m : Mem) : resV Try.prog Try.prog.funcs[18] env m = (loadV Try.prog m 60 (env 2)).bind fun v => (loadV Try.prog m 61 (env 3)).bind fun u => some (.tup [v, u]) := by
  have : ∀ (fn : Func), fn.results = #[.cell 2 60, .cell 3 61] → resV Try.prog fn env m = (loadV Try.prog m 60 (env 2)).bind fun v => (loadV Try.prog m 61 (env 3)).bind fun u => some (.tup [v, u]) := by
    intro fn h
    unfold resV
    rw [h]
    simp only [List.mapM_cons, List.mapM_nil, resOne]
    cases loadV Try.prog m 60 (env 2) with
    | none => rfl
    | some v =>
      cases loadV Try.prog m 61 (env 3) with
      | none => rfl
      | some u => rfl
  exact this _ (by kernel_rfl)
theorem ne20 {t : Nat} {v : V} : binV Try.prog .neq 20 (.ifc t v) .nili = some (.bool true) := by kernel_rfl
theorem ne20n : binV Try.prog .neq 20 .nili .nili = some (.bool false) := by kernel_rfl
theorem evO_nili (env : Env) : evO env (.const .nilIface) = .nili := rfl
set_option maxHeartbeats 2000000 in
theorem boom3 {Q : CR → Prop} {env : Env} (h : Hd) (x : V) (y : Int) (l : List Nat) (h2 : env 2 = .ptr 0 0) (h3 : env 3 = .ptr 1 0)
    (hq : Q (.ret (.tup [.agg (pcC zH .nils), .int .i64 30]) [.var 60 (pcC zH .nils), .var 61 [.int .i64 30], .var 107 [byV l], .var 103 []])) : endD Try.prog Try.prog.funcs[18] 37 [.ptr 0 0, .ptr 1 0] Q (.pan shortV) env [.var 60 (pcC h x), .var 61 [.int .i64 y], .var 107 [byV l]] := by
  refine ⟨fun m' => m' = [.var 60 (pcC zH .nils), .var 61 [.int .i64 30], .var 107 [byV l], .var 103 []], ?_, ?_⟩
  · refine SndD_of_W (k := 5) (j := 2) fol rfl rfl (by kernel_rfl) (by kernel_rfl) (by kernel_rfl) (by kernel_rfl) (by kernel_rfl) rfl ?_
    unfold shortV
    have n1 : binV Try.prog .neq 20 (.ifc 103 (.agg [])) .nili = some (.bool true) := ne20
    have z1 : splice ([] : List V) 0 [] = [] := rfl
    simp -implicitDefEqProofs only [sims.1, fx.1, tick_on, calleeK, List.getElem?_toArray, extractV, oneV, faddrK, nonnil, b_shr, b_shl, eq_self, beq_self_eq_true, fieldK, Option.bind_some, Option.map_some, Option.bind_none, Option.map_none, List.map_cons, List.map_nil, List.getD_cons_zero, List.getD_cons_succ, List.getD_nil, List.length_nil, List.length_cons, List.length_set, List.nil_append, List.cons_append, List.append_nil, List.getElem?_cons_zero, List.getElem?_cons_succ, List.getElem?_nil, List.set_cons_zero, List.set_cons_succ, Nat.reduceAdd, Nat.zero_add, Nat.add_zero, Nat.mul_one, Nat.mul_zero, Nat.zero_mul, Nat.reduceMul, Nat.reduceSub, Nat.reduceEqDiff, Nat.reduceLT, Nat.reduceLeDiff, Nat.reduceBEq, Nat.reduceBNe, Nat.succ_ne_self, reduceIte, if_true, if_false, ite_self, decide_true, decide_false, Bool.not_true, Bool.not_false, Bool.and_true, Bool.true_and, Bool.and_false, Bool.false_and, Bool.or_true, Bool.true_or, Bool.or_false, Bool.false_or, cond_true, cond_false, Int.reduceEq, Int.reduceLT, Int.reduceLE, Int.reduceNe, Int.reduceToNat, Option.getD_some, evO_nili, n1, storeK_agg, z1, bu27z, sp_pc, pc_len]
    rfl
  · rintro m' rfl
    refine ⟨_, ?_, hq⟩
    rw [rs18p, h2, h3]
    simp only [ld60, ld61, loadK_ptr, List.getElem?_cons_zero, List.getElem?_cons_succ, Option.bind_some, pc_all]
    rfl
set_option maxHeartbeats 2000000 in
theorem boom4 {Q : CR → Prop} {env : Env} (h : Hd) (x : V) (y : Int) (l : List Nat) (c : List Nat) (h2 : env 2 = .ptr 0 0) (h3 : env 3 = .ptr 1 0)
    (hq : Q (.ret (.tup [.agg (pcC zH .nils), .int .i64 30]) [.var 60 (pcC zH .nils), .var 61 [.int .i64 30], .var 107 [byV l], rowB c, .var 103 []])) : endD Try.prog Try.prog.funcs[18] 37 [.ptr 0 0, .ptr 1 0] Q (.pan shortV) env [.var 60 (pcC h x), .var 61 [.int .i64 y], .var 107 [byV l], rowB c] := by
  refine ⟨fun m' => m' = [.var 60 (pcC zH .nils), .var 61 [.int .i64 30], .var 107 [byV l], rowB c, .var 103 []], ?_, ?_⟩
  · refine SndD_of_W (k := 5) (j := 2) fol rfl rfl (by kernel_rfl) (by kernel_rfl) (by kernel_rfl) (by kernel_rfl) (by kernel_rfl) rfl ?_
    unfold shortV
    have n1 : binV Try.prog .neq 20 (.ifc 103 (.agg [])) .nili = some (.bool true) := ne20
    have z1 : splice ([] : List V) 0 [] = [] := rfl
    simp -implicitDefEqProofs only [sims.1, fx.1, tick_on, calleeK, List.getElem?_toArray, extractV, oneV, faddrK, nonnil, b_shr, b_shl, eq_self, beq_self_eq_true, fieldK, Option.bind_some, Option.map_some, Option.bind_none, Option.map_none, List.map_cons, List.map_nil, List.getD_cons_zero, List.getD_cons_succ, List.getD_nil, List.length_nil, List.length_cons, List.length_set, List.nil_append, List.cons_append, List.append_nil, List.getElem?_cons_zero, List.getElem?_cons_succ, List.getElem?_nil, List.set_cons_zero, List.set_cons_succ, Nat.reduceAdd, Nat.zero_add, Nat.add_zero, Nat.mul_one, Nat.mul_zero, Nat.zero_mul, Nat.reduceMul, Nat.reduceSub, Nat.reduceEqDiff, Nat.reduceLT, Nat.reduceLeDiff, Nat.reduceBEq, Nat.reduceBNe, Nat.succ_ne_self, reduceIte, if_true, if_false, ite_self, decide_true, decide_false, Bool.not_true, Bool.not_false, Bool.and_true, Bool.true_and, Bool.and_false, Bool.false_and, Bool.or_true, Bool.true_or, Bool.or_false, Bool.false_or, cond_true, cond_false, Int.reduceEq, Int.reduceLT, Int.reduceLE, Int.reduceNe, Int.reduceToNat, Option.getD_some, evO_nili, n1, storeK_agg, z1, bu27z, sp_pc, pc_len]
    rfl
  · rintro m' rfl
    refine ⟨_, ?_, hq⟩
    rw [rs18p, h2, h3]
    simp only [ld60, ld61, loadK_ptr, List.getElem?_cons_zero, List.getElem?_cons_succ, Option.bind_some, pc_all]
    rfl
theorem retD {Q : CR → Prop} {env : Env} {m : Mem} (h : Hd) (x : V) (y : Int) (h2 : env 2 = .ptr 0 0) (h3 : env 3 = .ptr 1 0) (m0 : m[0]? = some (.var 60 (pcC h x))) (m1 : m[1]? = some (.var 61 [.int .i64 y]))
    (hq : Q (.ret (.tup [.agg (pcC h x), .int .i64 y]) m)) : endD Try.prog Try.prog.funcs[18] 37 [.ptr 0 0, .ptr 1 0] Q .ret env m := by
  refine ⟨fun m' => m' = m, ?_, ?_⟩
  · refine SndD_of_W (k := 5) (j := 2) fol rfl rfl (by kernel_rfl) (by kernel_rfl) (by kernel_rfl) (by kernel_rfl) (by kernel_rfl) rfl ?_
    have n1 : binV Try.prog .neq 20 .nili .nili = some (.bool false) := ne20n
    simp -implicitDefEqProofs only [sims.1, fx.1, tick_on, calleeK, List.getElem?_toArray, extractV, oneV, faddrK, nonnil, b_shr, b_shl, eq_self, beq_self_eq_true, fieldK, Option.bind_some, Option.map_some, Option.bind_none, Option.map_none, List.map_cons, List.map_nil, List.getD_cons_zero, List.getD_cons_succ, List.getD_nil, List.length_nil, List.length_cons, List.length_set, List.nil_append, List.cons_append, List.append_nil, List.getElem?_cons_zero, List.getElem?_cons_succ, List.getElem?_nil, List.set_cons_zero, List.set_cons_succ, Nat.reduceAdd, Nat.zero_add, Nat.add_zero, Nat.mul_one, Nat.mul_zero, Nat.zero_mul, Nat.reduceMul, Nat.reduceSub, Nat.reduceEqDiff, Nat.reduceLT, Nat.reduceLeDiff, Nat.reduceBEq, Nat.reduceBNe, Nat.succ_ne_self, reduceIte, if_true, if_false, ite_self, decide_true, decide_false, Bool.not_true, Bool.not_false, Bool.and_true, Bool.true_and, Bool.and_false, Bool.false_and, Bool.or_true, Bool.true_or, Bool.or_false, Bool.false_or, cond_true, cond_false, Int.reduceEq, Int.reduceLT, Int.reduceLE, Int.reduceNe, Int.reduceToNat, Option.getD_none, evO_nili, n1]
  · rintro m' rfl
    refine ⟨_, ?_, hq⟩
    rw [rs18p, h2, h3]
    simp only [ld60, ld61, loadK_ptr, m0, m1, Option.bind_some, pc_all]
    rfl
end Go.Proofs.Ytpmbhjmlghoogaa
