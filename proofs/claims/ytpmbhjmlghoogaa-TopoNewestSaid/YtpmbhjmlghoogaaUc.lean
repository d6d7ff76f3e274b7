/- The map's gates; the frame of a probe. No condition. -/
import Derived.Test.YtpmbhjmlghoogaaUb
namespace Go.Proofs.Ytpmbhjmlghoogaa
open Go Ab
set_option linter.unusedSimpArgs false
set_option linter.unusedVariables false
set_option maxRecDepth 20000

/-- What is new behind a call, and named by nothing, is let go. -/
theorem Snd_dropN {P : Program} {f : FuncId} {vs : List V} {mv : Mem} {v : V} (hc : closedB (List.range mv.length) mv = true) (hb : nf v = true) (h : Snd P f vs mv fun r => ∃ new, r = .ret v (mv ++ new)) : Snd P f vs mv fun r => r = .ret v mv := by
  intro ρ I w xs hr hl hrt
  refine (h ρ I w xs hr hl hrt).mono ?_
  rintro e w' ⟨r, ⟨new, rfl⟩, x, ρ', I', rfl, p1, p2, p3⟩
  obtain ⟨c1, c2, c3⟩ := closed_parts hc
  have hget : ∀ k, k < mv.length → (mv ++ new).getD k .dead = mv.getD k .dead := fun k hk => by
    simp only [List.getD, List.getElem?_append_left hk]
  have hc' : closedB (List.range mv.length) (mv ++ new) = true := by
    unfold closedB at hc ⊢
    simp only [Bool.and_eq_true, List.all_eq_true, Nat.blt_eq] at hc ⊢
    refine ⟨hc.1, fun k hk => by have := hc.2.1 k hk; simp; omega, fun k hk => ?_⟩
    rw [hget k (List.mem_range.1 hk)]
    exact hc.2.2 k hk
  have hv : view (List.range mv.length) (mv ++ new) = mv := by
    apply List.ext_getElem?
    intro k
    unfold view
    rw [List.getElem?_map]
    rcases Nat.lt_or_ge k mv.length with hk | hk
    · rw [List.getElem?_range hk, Option.map_some, hget k hk, List.getElem?_eq_getElem hk]
      congr 1
      have e1 : mv.getD k .dead = mv[k] := by simp [List.getD, hk]
      rw [e1]
      refine renB_id (D := fun j => (List.range mv.length).contains j) (fun j hj => idx_range (List.mem_range.1 (by simpa using hj))) ?_
      have := c3 k (List.mem_range.2 hk)
      rwa [e1] at this
    · rw [List.getElem?_eq_none (by simpa using hk), List.getElem?_eq_none hk]
      rfl
  have hvw := p1.view hc'
  rw [show (CR.ret v (mv ++ new)).mem = mv ++ new from rfl, hv] at hvw
  have hrho : ∀ k, k < mv.length → ρ' ((List.range mv.length).getD k 0) = ρ k := fun k hk => by
    rw [getD_range hk]
    exact p2.rho k hk
  refine ⟨_, rfl, x, _, I', rfl, hvw, ⟨Nat.le_refl _, hrho, fun n hn h => h, p2.iSub, p2.iNew, fun b hb => ?_, p2.wle, p2.frame⟩, RV_nf _ _ hb p3⟩
  obtain ⟨n, h1, h2⟩ := hb
  have hn := Ab.live_lt h1
  right
  exact ⟨n, h1, by rw [← h2]; exact (congrArg Prod.fst (hrho n hn)).symm⟩

/-! ### Spots and gates -/
def spC (s p : Nat) : List V := [.int .u16 (s : Int), .int .u16 (p : Int)]
def spA (s p : Nat) : V := .agg (spC s p)
def sp2 (s p : Nat) : Nat → Int := fun i => ((if i = 0 then s else p : Nat) : Int)
theorem in_sp {s p : Nat} (hs : s < 65536) (hp : p < 65536) : Ab.inK .u16 2 (sp2 s p) := by
  intro i hi
  simp only [sp2]
  split <;> (simp [Lit.wf, IntKind.min, IntKind.max, IntKind.bits, IntKind.signed]; omega)
theorem eq_sp {s p s' p' : Nat} (hs : s < 65536) (hp : p < 65536) (hs' : s' < 65536) (hp' : p' < 65536) : eqV Try.prog 30 (spA s p) (spA s' p') = some (decide (s = s' ∧ p = p')) := by
  have := ea30 (sp2 s p) (sp2 s' p') (in_sp hs hp) (in_sp hs' hp')
  have e : eqN 2 (sp2 s p) (sp2 s' p') = decide (s = s' ∧ p = p') := by
    rw [Bool.eq_iff_iff, eqN_iff, decide_eq_true_eq]
    refine ⟨fun h => ?_, fun h i hi => ?_⟩
    · have h0 := h 0 (by decide)
      have h1 := h 1 (by decide)
      simp only [sp2] at h0 h1
      simp at h0 h1
      exact ⟨by omega, by omega⟩
    · rw [h.1, h.2]
  rw [e] at this
  exact this
theorem sh30 : shp Try.prog 9 30 = some ((List.range 2).map fun _ => Sh.ti .u16) := by kernel_rfl
theorem key30a : isAggT Try.prog 30 = true := by kernel_rfl
theorem key30b : Try.prog.keyTypeAt 8 30 = true := by kernel_rfl
theorem key_sp {s p : Nat} (hs : s < 65536) (hp : p < 65536) : keyV Try.prog 30 (spA s p) = true := by
  have := litsV_fit sh30 (fitV_cl (in_sp hs hp))
  have e : spA s p = .agg (cl .u16 2 (sp2 s p)) := rfl
  rw [e]
  simp only [keyV, key30a, key30b, Bool.true_and, this]
  rfl
abbrev Gt := (Nat × Nat) × (Bool × Bool)
def gtE (g : Gt) : V × V := (spA g.1.1 g.1.2, .agg [.bool g.2.1, .bool g.2.2])
def gtM (gs : List Gt) : List (V × V) := gs.map gtE
def GtOk (gs : List Gt) : Prop := ∀ g ∈ gs, g.1.1 < 65536 ∧ g.1.2 < 65536
def gtF (s p : Nat) : List Gt → Nat → Option (Nat × (Bool × Bool))
  | [], _ => none
  | g :: r, i => bif decide (s = g.1.1 ∧ p = g.1.2) then some (i, g.2) else gtF s p r (i + 1)
theorem findV_gt {s p : Nat} (hs : s < 65536) (hp : p < 65536) : ∀ {gs : List Gt} {i : Nat}, GtOk gs → findV Try.prog 30 (spA s p) (gtM gs) i = some ((gtF s p gs i).map fun x => (x.1, V.agg [.bool x.2.1, .bool x.2.2]))
  | [], _, _ => rfl
  | g :: r, i, hl => by
    have h1 := hl g (by simp)
    have e : eqK Try.prog 30 (spA s p) (spA g.1.1 g.1.2) = some (decide (s = g.1.1 ∧ p = g.1.2)) := eq_sp hs hp h1.1 h1.2
    simp only [gtM, List.map_cons, gtE, findV, e, gtF]
    cases decide (s = g.1.1 ∧ p = g.1.2) with
    | true => rfl
    | false => exact findV_gt hs hp fun q hq => hl q (by simp [hq])
theorem un67 : Try.prog.underlying 67 = some (.map 30 76) := by kernel_rfl
theorem zero76 : zeroV Try.prog 76 = some (.agg [.bool false, .bool false]) := by kernel_rfl
def gtL (s p : Nat) (gs : List Gt) : V := match gtF s p gs 0 with
  | some (_, e, d) => .tup [.agg [.bool e, .bool d], .bool true]
  | none => .tup [.agg [.bool false, .bool false], .bool false]
theorem look_gt {s p : Nat} (hs : s < 65536) (hp : p < 65536) {m : Mem} {n : Nat} : lookupV Try.prog 67 m (.mp n) (spA s p) true = (m[n]?).bind fun b => match b with
    | .map es _ _ => (findV Try.prog 30 (spA s p) es 0).bind fun r => some (match r with | some (_, v) => .tup [v, .bool true] | none => .tup [.agg [.bool false, .bool false], .bool false])
    | _ => none := by
  simp only [lookupV, un67, key_sp hs hp, cond_true]
  cases m[n]? with
  | none => rfl
  | some b =>
    cases b with
    | map es bs clk =>
      simp only [Option.bind_some]
      cases findV Try.prog 30 (spA s p) es 0 with
      | none => rfl
      | some r =>
        cases r with
        | none => simp [zero76]
        | some x => rfl
    | _ => rfl

/-- The map's record, with its three maps. -/
def lay (n a t : Int) (g s h : B) : Mem := [.var 71 [.int .u64 n, .int .i64 a, .int .i64 t, .mp 1, .mp 2, .mp 3], g, s, h]
def gtB (gs : List Gt) (bs : List Nat) (clk : Nat) : B := .map (gtM gs) bs clk
theorem nfp_gt : ∀ gs : List Gt, nfp (gtM gs) = true
  | [] => rfl
  | g :: r => by
    have := nfp_gt r
    simp only [gtM] at this
    simp only [gtM, List.map_cons, nfp, gtE, this, Bool.and_true]
    rfl
theorem nfB_gt (gs : List Gt) (bs : List Nat) (clk : Nat) : nfB (gtB gs bs clk) = true := nfp_gt gs
theorem lay_closed {n a t : Int} {g s h : B} (hg : nfB g = true) (hs : nfB s = true) (hh : nfB h = true) : closedB (List.range 4) (lay n a t g s h) = true := by
  have e : List.range 4 = [0, 1, 2, 3] := rfl
  rw [e]
  unfold closedB lay
  simp only [List.all_cons, List.all_nil, List.getD_cons_zero, List.getD_cons_succ, nfB_inDB _ hg, nfB_inDB _ hs, nfB_inDB _ hh, Bool.and_true]
  rfl
def gtIn (gs : List Gt) (s p : Nat) : Bool := match gtF s p gs 0 with
  | some (_, e, _) => !e
  | none => false
theorem snd23 {n a t : Int} {gs : List Gt} {bs : List Nat} {clk : Nat} {S H : B} {s p : Nat} (hs : s < 65536) (hp : p < 65536) (hgs : GtOk gs) (hS : nfB S = true) (hH : nfB H = true) :
    Snd Try.prog 23 [.ptr 0 0, spA s p] (lay n a t (gtB gs bs clk) S H) fun r => r = .ret (.bool (gtIn gs s p)) (lay n a t (gtB gs bs clk) S H) := by
  refine Snd_dropN (lay_closed (nfB_gt _ _ _) hS hH) rfl ?_
  refine Snd_of_W fol rfl rfl (by kernel_rfl) (by kernel_rfl) ?_
  have hf := findV_gt hs hp (i := 0) hgs
  unfold lay gtB
  have pk : partK true 2 (spC s p) 0 = some (spA s p) := rfl
  have pn : nms (spA s p) = [] := rfl
  have lk := fun m n => look_gt hs hp (m := m) (n := n)
  have sp : ∀ x y : Bool, splice [V.bool false, V.bool false] 0 (cellsOfV (V.agg [.bool x, .bool y])) = [.bool x, .bool y] := fun _ _ => rfl
  rcases e : gtF s p gs 0 with _ | ⟨i, e1, d1⟩
  · rw [e] at hf
    have e2 : gtIn gs s p = false := by simp only [gtIn, e]
    simp only [Option.map_none] at hf
    simp -implicitDefEqProofs only [sims.1, fx.1, tick_on, calleeK, List.getElem?_toArray, extractV, oneV, faddrK, nonnil, b_shr, b_shl, eq_self, beq_self_eq_true, fieldK, Option.bind_some, Option.map_some, Option.bind_none, Option.map_none, List.map_cons, List.map_nil, List.getD_cons_zero, List.getD_cons_succ, List.getD_nil, List.length_nil, List.length_cons, List.length_set, List.nil_append, List.cons_append, List.append_nil, List.getElem?_cons_zero, List.getElem?_cons_succ, List.getElem?_nil, List.set_cons_zero, List.set_cons_succ, Nat.reduceAdd, Nat.zero_add, Nat.add_zero, Nat.mul_one, Nat.mul_zero, Nat.zero_mul, Nat.reduceMul, Nat.reduceSub, Nat.reduceEqDiff, Nat.reduceLT, Nat.reduceLeDiff, Nat.reduceBEq, Nat.reduceBNe, Nat.succ_ne_self, reduceIte, if_true, if_false, ite_self, decide_true, decide_false, Bool.not_true, Bool.not_false, Bool.and_true, Bool.true_and, Bool.and_false, Bool.false_and, Bool.or_true, Bool.true_or, Bool.or_false, Bool.false_or, cond_true, cond_false, Int.reduceEq, Int.reduceLT, Int.reduceLE, Int.reduceNe, Int.reduceToNat, spA]
    refine w_noisy ?_
    simp -implicitDefEqProofs only [sims.1, fx.1, tick_on, calleeK, List.getElem?_toArray, extractV, oneV, faddrK, nonnil, b_shr, b_shl, eq_self, beq_self_eq_true, fieldK, Option.bind_some, Option.map_some, Option.bind_none, Option.map_none, List.map_cons, List.map_nil, List.getD_cons_zero, List.getD_cons_succ, List.getD_nil, List.length_nil, List.length_cons, List.length_set, List.nil_append, List.cons_append, List.append_nil, List.getElem?_cons_zero, List.getElem?_cons_succ, List.getElem?_nil, List.set_cons_zero, List.set_cons_succ, Nat.reduceAdd, Nat.zero_add, Nat.add_zero, Nat.mul_one, Nat.mul_zero, Nat.zero_mul, Nat.reduceMul, Nat.reduceSub, Nat.reduceEqDiff, Nat.reduceLT, Nat.reduceLeDiff, Nat.reduceBEq, Nat.reduceBNe, Nat.succ_ne_self, reduceIte, if_true, if_false, ite_self, decide_true, decide_false, Bool.not_true, Bool.not_false, Bool.and_true, Bool.true_and, Bool.and_false, Bool.false_and, Bool.or_true, Bool.true_or, Bool.or_false, Bool.false_or, cond_true, cond_false, Int.reduceEq, Int.reduceLT, Int.reduceLE, Int.reduceNe, Int.reduceToNat, pk]
    iterate 8
      first
      | (refine orderP_of (by kernel_rfl) ?_
         simp -implicitDefEqProofs only [sims.1, fx.1, tick_on, calleeK, List.getElem?_toArray, extractV, oneV, faddrK, nonnil, b_shr, b_shl, eq_self, beq_self_eq_true, fieldK, Option.bind_some, Option.map_some, Option.bind_none, Option.map_none, List.map_cons, List.map_nil, List.getD_cons_zero, List.getD_cons_succ, List.getD_nil, List.length_nil, List.length_cons, List.length_set, List.nil_append, List.cons_append, List.append_nil, List.getElem?_cons_zero, List.getElem?_cons_succ, List.getElem?_nil, List.set_cons_zero, List.set_cons_succ, Nat.reduceAdd, Nat.zero_add, Nat.add_zero, Nat.mul_one, Nat.mul_zero, Nat.zero_mul, Nat.reduceMul, Nat.reduceSub, Nat.reduceEqDiff, Nat.reduceLT, Nat.reduceLeDiff, Nat.reduceBEq, Nat.reduceBNe, Nat.succ_ne_self, reduceIte, if_true, if_false, ite_self, decide_true, decide_false, Bool.not_true, Bool.not_false, Bool.and_true, Bool.true_and, Bool.and_false, Bool.false_and, Bool.or_true, Bool.true_or, Bool.or_false, Bool.false_or, cond_true, cond_false, Int.reduceEq, Int.reduceLT, Int.reduceLE, Int.reduceNe, Int.reduceToNat, pk, pn, lk, hf, sp])
      | skip
    rw [e2]
    exact ⟨_, rfl⟩
  · rw [e] at hf
    have e2 : gtIn gs s p = !e1 := by simp only [gtIn, e]
    simp only [Option.map_some] at hf
    simp -implicitDefEqProofs only [sims.1, fx.1, tick_on, calleeK, List.getElem?_toArray, extractV, oneV, faddrK, nonnil, b_shr, b_shl, eq_self, beq_self_eq_true, fieldK, Option.bind_some, Option.map_some, Option.bind_none, Option.map_none, List.map_cons, List.map_nil, List.getD_cons_zero, List.getD_cons_succ, List.getD_nil, List.length_nil, List.length_cons, List.length_set, List.nil_append, List.cons_append, List.append_nil, List.getElem?_cons_zero, List.getElem?_cons_succ, List.getElem?_nil, List.set_cons_zero, List.set_cons_succ, Nat.reduceAdd, Nat.zero_add, Nat.add_zero, Nat.mul_one, Nat.mul_zero, Nat.zero_mul, Nat.reduceMul, Nat.reduceSub, Nat.reduceEqDiff, Nat.reduceLT, Nat.reduceLeDiff, Nat.reduceBEq, Nat.reduceBNe, Nat.succ_ne_self, reduceIte, if_true, if_false, ite_self, decide_true, decide_false, Bool.not_true, Bool.not_false, Bool.and_true, Bool.true_and, Bool.and_false, Bool.false_and, Bool.or_true, Bool.true_or, Bool.or_false, Bool.false_or, cond_true, cond_false, Int.reduceEq, Int.reduceLT, Int.reduceLE, Int.reduceNe, Int.reduceToNat, spA]
    refine w_noisy ?_
    simp -implicitDefEqProofs only [sims.1, fx.1, tick_on, calleeK, List.getElem?_toArray, extractV, oneV, faddrK, nonnil, b_shr, b_shl, eq_self, beq_self_eq_true, fieldK, Option.bind_some, Option.map_some, Option.bind_none, Option.map_none, List.map_cons, List.map_nil, List.getD_cons_zero, List.getD_cons_succ, List.getD_nil, List.length_nil, List.length_cons, List.length_set, List.nil_append, List.cons_append, List.append_nil, List.getElem?_cons_zero, List.getElem?_cons_succ, List.getElem?_nil, List.set_cons_zero, List.set_cons_succ, Nat.reduceAdd, Nat.zero_add, Nat.add_zero, Nat.mul_one, Nat.mul_zero, Nat.zero_mul, Nat.reduceMul, Nat.reduceSub, Nat.reduceEqDiff, Nat.reduceLT, Nat.reduceLeDiff, Nat.reduceBEq, Nat.reduceBNe, Nat.succ_ne_self, reduceIte, if_true, if_false, ite_self, decide_true, decide_false, Bool.not_true, Bool.not_false, Bool.and_true, Bool.true_and, Bool.and_false, Bool.false_and, Bool.or_true, Bool.true_or, Bool.or_false, Bool.false_or, cond_true, cond_false, Int.reduceEq, Int.reduceLT, Int.reduceLE, Int.reduceNe, Int.reduceToNat, pk]
    iterate 8
      first
      | (refine orderP_of (by kernel_rfl) ?_
         simp -implicitDefEqProofs only [sims.1, fx.1, tick_on, calleeK, List.getElem?_toArray, extractV, oneV, faddrK, nonnil, b_shr, b_shl, eq_self, beq_self_eq_true, fieldK, Option.bind_some, Option.map_some, Option.bind_none, Option.map_none, List.map_cons, List.map_nil, List.getD_cons_zero, List.getD_cons_succ, List.getD_nil, List.length_nil, List.length_cons, List.length_set, List.nil_append, List.cons_append, List.append_nil, List.getElem?_cons_zero, List.getElem?_cons_succ, List.getElem?_nil, List.set_cons_zero, List.set_cons_succ, Nat.reduceAdd, Nat.zero_add, Nat.add_zero, Nat.mul_one, Nat.mul_zero, Nat.zero_mul, Nat.reduceMul, Nat.reduceSub, Nat.reduceEqDiff, Nat.reduceLT, Nat.reduceLeDiff, Nat.reduceBEq, Nat.reduceBNe, Nat.succ_ne_self, reduceIte, if_true, if_false, ite_self, decide_true, decide_false, Bool.not_true, Bool.not_false, Bool.and_true, Bool.true_and, Bool.and_false, Bool.false_and, Bool.or_true, Bool.true_or, Bool.or_false, Bool.false_or, cond_true, cond_false, Int.reduceEq, Int.reduceLT, Int.reduceLE, Int.reduceNe, Int.reduceToNat, pk, pn, lk, hf, sp])
      | skip
    rw [e2]
    exact ⟨_, rfl⟩
end Go.Proofs.Ytpmbhjmlghoogaa
