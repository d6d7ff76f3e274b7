/- The maps of a table: keys found, put. No condition. -/
import Derived.Test.YtffhmbdpmpgddaaWc
namespace Go.Proofs.Ytffhmbdpmpgddaa
open Go Ab
set_option linter.unusedSimpArgs false
set_option linter.unusedVariables false
set_option maxRecDepth 20000

/-! ### By number -/
def enA (x : Int × V) : V × V := (.int .i64 x.1, x.2)
theorem un52 : Try.prog.underlying 52 = some (.map 3 32) := by kernel_rfl
theorem un59 : Try.prog.underlying 59 = some (.map 25 63) := by kernel_rfl
theorem eqK3 (a b : Int) : eqK Try.prog 3 (.int .i64 a) (.int .i64 b) = some (decide (a = b)) := by kernel_rfl
theorem key3 (q : Int) : keyV Try.prog 3 (.int .i64 q) = true := by kernel_rfl
theorem findA_none {q : Int} : ∀ {l : List (Int × V)} {i : Nat}, (∀ x ∈ l, x.1 ≠ q) → findV Try.prog 3 (.int .i64 q) (l.map enA) i = some none
  | [], _, _ => rfl
  | x :: r, i, h => by
    have e : eqK Try.prog 3 (.int .i64 q) (.int .i64 x.1) = some false := by
      rw [eqK3]
      have := h x (by simp)
      simp
      exact fun e => this e.symm
    simp only [List.map_cons, enA, findV, e, cond_false]
    exact findA_none fun y hy => h y (by simp [hy])
theorem put_at {m : Mem} {a : Nat} {l : List (Int × V)} {id : Int} (v : V) (h : isMap m a (l.map enA)) (hn : ∀ x ∈ l, x.1 ≠ id) :
    ∃ b, putV Try.prog 52 m (.mp a) (.int .i64 id) v = some (m.set a b) ∧ isMap (m.set a b) a ((l ++ [(id, v)]).map enA) := by
  obtain ⟨bs, clk, h1, h2, h3, h4⟩ := h
  have hlt := (List.getElem?_eq_some_iff.1 h1).1
  refine ⟨.map (l.map enA ++ [(.int .i64 id, v)]) (bs ++ [clk]) (clk + 1), ?_, bs ++ [clk], clk + 1, ?_, ?_, ?_, ?_⟩
  · simp only [putV, un52, key3, cond_true, h1, findA_none hn]
  · simp [hlt, enA]
  · simp [h2]
  · rw [List.nodup_append]
    refine ⟨h3, by simp, fun x hx y hy => ?_⟩
    have := h4 x hx
    simp at hy
    omega
  · intro b hb
    rcases List.mem_append.1 hb with hb | hb
    · have := h4 b hb; omega
    · simp at hb; omega
theorem len_at {m : Mem} {a : Nat} {l : List (V × V)} (h : isMap m a l) : lenV Try.prog m 52 (.mp a) = some (.int .i64 (l.length : Int)) := by
  obtain ⟨bs, clk, h1, _⟩ := h
  simp only [lenV, un52, h1]

/-! ### By what is left of a header -/
theorem sh25 : shp Try.prog 9 25 = some ((List.range 11).map fun _ => Sh.ti .u64) := by kernel_rfl
theorem key25 {k : Nat → Nat} (hk : U64 11 k) : keyV Try.prog 25 (.agg (hC k)) = true := by
  have h1 : isAggT Try.prog 25 = true := by kernel_rfl
  have h2 : Try.prog.keyTypeAt 8 25 = true := by kernel_rfl
  have := litsV_fit sh25 (fitV_cl (inK_nat hk))
  simp only [keyV, h1, h2, Bool.true_and]
  show (litsV Try.prog 25 (cl .u64 11 fun i => (k i : Int))).isSome = true
  rw [this]
  rfl
def fndE (k : Nat → Nat) : List Ent → Nat → Option (Nat × Ent)
  | [], _ => none
  | e :: r, i => bif eqH k e.key then some (i, e) else fndE k r (i + 1)
theorem findE {k : Nat → Nat} (hk : U64 11 k) : ∀ {es : List Ent} {i : Nat}, (∀ e ∈ es, U64 11 e.key) → findV Try.prog 25 (.agg (hC k)) (es.map enE) i = some ((fndE k es i).map fun x => (x.1, V.sl 2 x.2.s 0 x.2.ins.length))
  | [], _, _ => rfl
  | e :: r, i, h => by
    have e1 : eqK Try.prog 25 (.agg (hC k)) (.agg (hC e.key)) = some (eqH k e.key) := eq25 k e.key hk (h e (by simp))
    simp only [List.map_cons, enE, findV, e1, fndE]
    cases eqH k e.key with
    | true => rfl
    | false => exact findE hk fun y hy => h y (by simp [hy])
theorem fndE_at {k : Nat → Nat} : ∀ {es : List Ent} {i j : Nat} {e : Ent}, fndE k es i = some (j, e) → i ≤ j ∧ es[j - i]? = some e ∧ eqH k e.key = true
  | [], _, _, _, h => by cases h
  | x :: r, i, j, e, h => by
    simp only [fndE] at h
    cases hq : eqH k x.key with
    | true =>
      rw [hq] at h
      cases h
      refine ⟨Nat.le_refl _, ?_, hq⟩
      rw [Nat.sub_self]
      rfl
    | false =>
      rw [hq] at h
      obtain ⟨h1, h2, h3⟩ := fndE_at h
      refine ⟨by omega, ?_, h3⟩
      rw [show j - i = (j - (i + 1)) + 1 by omega]
      exact h2
theorem eqH_cl {a b : Nat → Nat} (h : eqH a b = true) : hC a = hC b := by
  have := eqN_iff.1 h
  exact cl_congr fun i hi => this i hi
theorem same_cl (f : Nat → Int) : ∀ l : List Nat, sameIs (l.map fun i => V.int .u64 (f i)) (l.map fun i => V.int .u64 (f i)) = true
  | [] => rfl
  | a :: r => by simp [sameIs, same_cl f r]
theorem same_hC {a b : Nat → Nat} (h : eqH a b = true) : sameK (.agg (hC b)) (.agg (hC a)) = true := by
  rw [eqH_cl h]
  exact same_cl _ _
def vE : Option (Nat × Ent) → V
  | some (_, e) => .sl 2 e.s 0 e.ins.length
  | none => .nils
theorem look_es {m : Mem} {n : Nat} {es : List Ent} {k : Nat → Nat} (h : isMap m n (es.map enE)) (hk : U64 11 k) (hks : ∀ e ∈ es, U64 11 e.key) :
    lookupV Try.prog 59 m (.mp n) (.agg (hC k)) false = some (vE (fndE k es 0)) := by
  obtain ⟨bs, clk, h1, _⟩ := h
  have z : zeroV Try.prog 63 = some .nils := by kernel_rfl
  simp only [lookupV, un59, key25 hk, cond_true, h1, findE hk hks]
  cases fndE k es 0 with
  | none => simp [z, vE]
  | some x => rfl
theorem put_new {m : Mem} {n : Nat} {es : List Ent} {k : Nat → Nat} (v : V) (h : isMap m n (es.map enE)) (hk : U64 11 k) (hks : ∀ e ∈ es, U64 11 e.key) (hf : fndE k es 0 = none) :
    ∃ b, putV Try.prog 59 m (.mp n) (.agg (hC k)) v = some (m.set n b) ∧ isMap (m.set n b) n (es.map enE ++ [(.agg (hC k), v)]) := by
  obtain ⟨bs, clk, h1, h2, h3, h4⟩ := h
  have hlt := (List.getElem?_eq_some_iff.1 h1).1
  have hfe := findE hk (i := 0) hks
  rw [hf] at hfe
  refine ⟨.map (es.map enE ++ [(.agg (hC k), v)]) (bs ++ [clk]) (clk + 1), ?_, bs ++ [clk], clk + 1, ?_, ?_, ?_, ?_⟩
  · simp only [putV, un59, key25 hk, cond_true, h1, hfe, Option.map_none]
  · simp [hlt]
  · simp [h2]
  · rw [List.nodup_append]
    refine ⟨h3, by simp, fun x hx y hy => ?_⟩
    have := h4 x hx
    simp at hy
    omega
  · intro b hb
    rcases List.mem_append.1 hb with hb | hb
    · have := h4 b hb; omega
    · simp at hb; omega
theorem put_old {m : Mem} {n : Nat} {es : List Ent} {k : Nat → Nat} {j : Nat} {e : Ent} (v : V) (h : isMap m n (es.map enE)) (hk : U64 11 k) (hks : ∀ e ∈ es, U64 11 e.key) (hf : fndE k es 0 = some (j, e)) :
    ∃ b, putV Try.prog 59 m (.mp n) (.agg (hC k)) v = some (m.set n b) ∧ isMap (m.set n b) n ((es.map enE).set j (.agg (hC k), v)) := by
  obtain ⟨bs, clk, h1, h2, h3, h4⟩ := h
  have hlt := (List.getElem?_eq_some_iff.1 h1).1
  have hfe := findE hk (i := 0) hks
  rw [hf] at hfe
  obtain ⟨_, g1, g2⟩ := fndE_at hf
  rw [Nat.sub_zero] at g1
  have g3 : (es.map enE)[j]? = some (enE e) := by rw [List.getElem?_map, g1]; rfl
  refine ⟨.map ((es.map enE).set j (.agg (hC k), v)) bs clk, ?_, bs, clk, ?_, ?_, h3, h4⟩
  · simp only [putV, un59, key25 hk, cond_true, h1, hfe, Option.map_some, g3]
    simp only [enE, same_hC g2, cond_true]
  · simp [hlt]
  · rw [List.length_set]; exact h2
end Go.Proofs.Ytffhmbdpmpgddaa
