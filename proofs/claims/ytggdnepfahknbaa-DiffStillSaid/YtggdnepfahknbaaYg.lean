/- Maps by places. No condition. -/
import Derived.Test.YtggdnepfahknbaaYb
namespace Go.Proofs.Ytggdnepfahknbaa
open Go Ab
set_option linter.unusedSimpArgs false
set_option linter.unusedVariables false
set_option maxRecDepth 20000

theorem pl_refl (a : Ru) : pl a a = true := by simp [pl, eqM_refl]
theorem pl_symm {a b : Ru} (h : pl a b = true) : pl b a = true := by
  simp only [pl, Bool.and_eq_true, decide_eq_true_eq] at h ⊢
  exact ⟨h.1.symm, eqM_symm h.2⟩
theorem pl_trans {a b c : Ru} (h : pl a b = true) (h2 : pl b c = true) : pl a c = true := by
  simp only [pl, Bool.and_eq_true, decide_eq_true_eq] at h h2 ⊢
  exact ⟨h.1.trans h2.1, eqM_trans h.2 h2.2⟩
theorem pl_comm (a b : Ru) : pl a b = pl b a := by
  rw [Bool.eq_iff_iff]
  exact ⟨pl_symm, pl_symm⟩
theorem pl_congr {a b : Ru} (h : pl a b = true) (c : Ru) : pl a c = pl b c := by
  rw [Bool.eq_iff_iff]
  exact ⟨fun h2 => pl_trans (pl_symm h) h2, fun h2 => pl_trans h h2⟩
theorem pl_plC {a b : Ru} (h : pl a b = true) : plC a = plC b := by
  simp only [pl, Bool.and_eq_true, decide_eq_true_eq] at h
  unfold plC
  rw [h.1, eqM_cl h.2]

/-! ### Keys -/
theorem sh54 : shp Try.prog 9 54 = some (.ti .i64 :: (List.range 22).map fun _ => Sh.ti .u64) := by kernel_rfl
def plL (r : Ru) : List Lit := .int .i64 r.rank :: (List.range 22).map fun i => Lit.int .u64 (r.w i : Int)
theorem fit_pl (r : Ru) (h : wfR r) : fitV (.ti .i64 :: (List.range 22).map fun _ => Sh.ti .u64) (plC r) (plL r) := ⟨⟨_, rfl, rfl, h.1, rfl⟩, fitV_cl (inK_nat h.2.1)⟩
theorem lits_pl (r : Ru) (h : wfR r) : litsV Try.prog 54 (plC r) = some (plL r) := litsV_fit sh54 (fit_pl r h)
theorem key54x : (Try.prog.keyTypeAt 8 54 && (!Try.prog.eqGuardType Try.prog.depth 54 && isAggT Try.prog 54)) = true := by kernel_rfl
theorem key54 (r : Ru) (h : wfR r) : keyV Try.prog 54 (.agg (plC r)) = true := by
  have h1 : isAggT Try.prog 54 = true := by kernel_rfl
  have h2 : Try.prog.keyTypeAt 8 54 = true := by kernel_rfl
  simp only [keyV, h1, h2, Bool.true_and, lits_pl r h]
  rfl
theorem eq54 (a b : Ru) (ha : wfR a) (hb : wfR b) : eqK Try.prog 54 (.agg (plC a)) (.agg (plC b)) = some (pl a b) := by
  show eqV Try.prog 54 (.agg (plC a)) (.agg (plC b)) = some (pl a b)
  simp only [eqV, key54x, cond_true, lits_pl a ha, lits_pl b hb]
  congr 1
  rw [Bool.eq_iff_iff, litsEq_iff]
  simp only [pl, Bool.and_eq_true, decide_eq_true_eq, eqM_iff, plL, List.cons.injEq, Lit.int.injEq, true_and]
  refine and_congr_right fun _ => ⟨fun h i hi => ?_, fun h => List.map_congr_left fun i hi => by rw [h i (List.mem_range.1 hi)]⟩
  have := congrArg (fun l => l[i]?) h
  simp [hi] at this
  omega
theorem same_cl (f : Nat → Int) : ∀ l : List Nat, sameIs (l.map fun i => V.int .u64 (f i)) (l.map fun i => V.int .u64 (f i)) = true
  | [] => rfl
  | a :: r => by simp [sameIs, same_cl f r]
theorem same_pl {a b : Ru} (h : pl a b = true) : sameK (.agg (plC b)) (.agg (plC a)) = true := by
  rw [pl_plC h]
  show sameIs (plC b) (plC b) = true
  have : sameIs (mC b.w) (mC b.w) = true := same_cl _ _
  simp [plC, sameIs, this]

/-! ### A map by places: a list of rules that tell their places -/
def enP (x : Ru × V) : V × V := (.agg (plC x.1), x.2)
def putP (r : Ru) (v : V) : List (Ru × V) → List (Ru × V)
  | [] => [(r, v)]
  | x :: l => bif pl r x.1 then (r, v) :: l else x :: putP r v l
def getP (r : Ru) : List (Ru × V) → Option V
  | [] => none
  | x :: l => bif pl r x.1 then some x.2 else getP r l
def fndP (r : Ru) : List (Ru × V) → Nat → Option (Nat × V)
  | [], _ => none
  | x :: l, i => bif pl r x.1 then some (i, x.2) else fndP r l (i + 1)
def wfP (es : List (Ru × V)) : Prop := ∀ x ∈ es, wfR x.1
theorem wfP.put {r : Ru} {v : V} (hr : wfR r) : ∀ {es : List (Ru × V)}, wfP es → wfP (putP r v es)
  | [], _, x, hx => by simp [putP] at hx; subst hx; exact hr
  | e :: l, h, x, hx => by
    unfold putP at hx
    cases hq : pl r e.1 with
    | true =>
      rw [hq] at hx
      rcases List.mem_cons.1 hx with rfl | hx
      · exact hr
      · exact h x (by simp [hx])
    | false =>
      rw [hq] at hx
      rcases List.mem_cons.1 hx with rfl | hx
      · exact h _ (by simp)
      · exact wfP.put hr (fun y hy => h y (by simp [hy])) x hx
theorem findP {r : Ru} (hr : wfR r) : ∀ {es : List (Ru × V)} {i : Nat}, wfP es → findV Try.prog 54 (.agg (plC r)) (es.map enP) i = some (fndP r es i)
  | [], _, _ => rfl
  | e :: l, i, h => by
    have e1 := eq54 r e.1 hr (h e (by simp))
    simp only [List.map_cons, enP, findV, e1, fndP]
    cases pl r e.1 with
    | true => rfl
    | false => exact findP hr fun y hy => h y (by simp [hy])
theorem fnd_get (r : Ru) : ∀ (es : List (Ru × V)) (i : Nat), (fndP r es i).map (·.2) = getP r es
  | [], _ => rfl
  | e :: l, i => by
    simp only [fndP, getP]
    cases pl r e.1 with
    | true => rfl
    | false => exact fnd_get r l _
theorem fnd_none {r : Ru} : ∀ {es : List (Ru × V)} {i : Nat}, fndP r es i = none → ∀ v, putP r v es = es ++ [(r, v)]
  | [], _, _, _ => rfl
  | e :: l, i, h, v => by
    simp only [fndP] at h
    cases hq : pl r e.1 with
    | true => rw [hq] at h; cases h
    | false =>
      rw [hq] at h
      simp only [putP, hq, cond_false, List.cons_append, fnd_none h v]
theorem fnd_some {r : Ru} : ∀ {es : List (Ru × V)} {i j : Nat} {u : V}, fndP r es i = some (j, u) → i ≤ j ∧ (∃ x, es[j - i]? = some (x, u) ∧ pl r x = true) ∧ ∀ v, putP r v es = es.set (j - i) (r, v)
  | [], _, _, _, h => by cases h
  | e :: l, i, j, u, h => by
    simp only [fndP] at h
    cases hq : pl r e.1 with
    | true =>
      rw [hq] at h
      cases h
      refine ⟨Nat.le_refl _, ⟨e.1, ?_, hq⟩, fun v => ?_⟩
      · rw [Nat.sub_self]; rfl
      · rw [Nat.sub_self]; simp only [putP, hq, cond_true]; rfl
    | false =>
      rw [hq] at h
      obtain ⟨h1, ⟨x, h2, h3⟩, h4⟩ := fnd_some h
      have e1 : j - i = (j - (i + 1)) + 1 := by omega
      refine ⟨by omega, ⟨x, by rw [e1]; exact h2, h3⟩, fun v => ?_⟩
      rw [e1]
      simp only [putP, hq, cond_false, h4 v]
      rfl
theorem get_put {r p : Ru} {v : V} : ∀ {es : List (Ru × V)}, getP p (putP r v es) = bif pl p r then some v else getP p es
  | [] => by simp [putP, getP]
  | e :: l => by
    simp only [putP]
    cases hq : pl r e.1 with
    | true =>
      simp only [cond_true, getP]
      cases hp : pl p r with
      | true => rfl
      | false =>
        have : pl p e.1 = false := by
          rw [Bool.eq_false_iff] at hp ⊢
          exact fun h => hp (pl_trans h (pl_symm hq))
        rw [this]; rfl
    | false =>
      simp only [cond_false, getP]
      cases hp : pl p e.1 with
      | true =>
        have : pl p r = false := by
          rw [Bool.eq_false_iff] at hq ⊢
          exact fun h => hq (pl_trans (pl_symm h) hp)
        rw [this]; rfl
      | false => exact get_put

def isMap (m : Mem) (n : Nat) (l : List (V × V)) : Prop := ∃ bs clk, m[n]? = some (.map l bs clk) ∧ bs.length = l.length ∧ bs.Nodup ∧ ∀ b ∈ bs, b < clk
theorem un49 : Try.prog.underlying 49 = some (.map 54 36) := by kernel_rfl
theorem un69 : Try.prog.underlying 69 = some (.map 54 3) := by kernel_rfl
theorem isMap.of {m m' : Mem} {n : Nat} {l : List (V × V)} (h : isMap m n l) (e : m'[n]? = m[n]?) : isMap m' n l := by
  obtain ⟨bs, clk, h1, h2⟩ := h
  exact ⟨bs, clk, by rw [e, h1], h2⟩
theorem isMap_new (m : Mem) : isMap (m ++ [.map [] [] 0]) m.length [] := ⟨[], 0, by simp, rfl, by simp, by simp⟩
theorem isMap.lt {m : Mem} {n : Nat} {l : List (V × V)} (h : isMap m n l) : n < m.length := by
  obtain ⟨bs, clk, h1, _⟩ := h
  exact (List.getElem?_eq_some_iff.1 h1).1

section
variable {t e : TypeId} (hu : Try.prog.underlying t = some (.map 54 e))
include hu
theorem look_pl {m : Mem} {n : Nat} {es : List (Ru × V)} {r : Ru} {z : V} (hz : zeroV Try.prog e = some z) (h : isMap m n (es.map enP)) (hr : wfR r) (hw : wfP es) (ok : Bool) :
    lookupV Try.prog t m (.mp n) (.agg (plC r)) ok = some (bif ok then .tup [(getP r es).getD z, .bool (getP r es).isSome] else (getP r es).getD z) := by
  obtain ⟨bs, clk, h1, _⟩ := h
  have hg := fnd_get r es 0
  simp only [lookupV, hu, key54 r hr, cond_true, h1, findP hr hw]
  rw [← hg]
  cases fndP r es 0 with
  | none => simp [hz]
  | some x => cases ok <;> rfl
theorem put_pl {m : Mem} {n : Nat} {es : List (Ru × V)} {r : Ru} (v : V) (h : isMap m n (es.map enP)) (hr : wfR r) (hw : wfP es) :
    ∃ b, putV Try.prog t m (.mp n) (.agg (plC r)) v = some (m.set n b) ∧ isMap (m.set n b) n ((putP r v es).map enP) := by
  obtain ⟨bs, clk, h1, h2, h3, h4⟩ := h
  have hlt := (List.getElem?_eq_some_iff.1 h1).1
  have hf := findP hr (i := 0) hw
  rw [List.length_map] at h2
  cases hq : fndP r es 0 with
  | none =>
    rw [hq] at hf
    refine ⟨.map (es.map enP ++ [(.agg (plC r), v)]) (bs ++ [clk]) (clk + 1), by simp only [putV, hu, key54 r hr, cond_true, h1, hf], bs ++ [clk], clk + 1, ?_, ?_, ?_, ?_⟩
    · rw [fnd_none hq v]; simp [hlt, enP]
    · rw [fnd_none hq v]; simp [h2]
    · rw [List.nodup_append]
      refine ⟨h3, by simp, fun x hx y hy => ?_⟩
      have := h4 x hx
      simp at hy
      omega
    · intro b hb
      rcases List.mem_append.1 hb with hb | hb
      · have := h4 b hb; omega
      · simp at hb; omega
  | some x =>
    obtain ⟨j, u⟩ := x
    rw [hq] at hf
    obtain ⟨_, ⟨x, g1, g2⟩, g3⟩ := fnd_some hq
    rw [Nat.sub_zero] at g1 g3
    have g4 : (es.map enP)[j]? = some (.agg (plC x), u) := by rw [List.getElem?_map, g1]; rfl
    refine ⟨.map ((es.map enP).set j (.agg (plC r), v)) bs clk, by simp only [putV, hu, key54 r hr, cond_true, h1, hf, g4, same_pl g2], bs, clk, ?_, ?_, h3, h4⟩
    · rw [g3 v, List.map_set]; simp [hlt, enP]
    · rw [g3 v]; simp [h2]
/-- An entry is laid and its stamp told; what is written there goes to its place. -/
def Ent (m : Mem) (n : Nat) (es : List (Ru × V)) (r : Ru) (u : V) (s : Nat) : Prop :=
  ∃ bs clk i k0, m[n]? = some (.map ((putP r u es).map enP) bs clk) ∧ bs.length = (putP r u es).length ∧ bs.Nodup ∧ (∀ b ∈ bs, b < clk) ∧ bs[i]? = some s ∧ ((putP r u es).map enP)[i]? = some (k0, u) ∧ ∀ v, ((putP r u es).map enP).set i (k0, v) = (putP r v es).map enP
theorem ent_pl {m : Mem} {n : Nat} {es : List (Ru × V)} {r : Ru} {z : V} (hz : zeroV Try.prog e = some z) (h : isMap m n (es.map enP)) (hr : wfR r) (hw : wfP es) :
    ∃ (s : Nat) (b : B), mentryV Try.prog t m (.mp n) (.agg (plC r)) = some (.tup [(getP r es).getD z, .int .i64 (s : Int)], m.set n b) ∧ Ent (m.set n b) n es r ((getP r es).getD z) s := by
  obtain ⟨bs, clk, h1, h2, h3, h4⟩ := h
  have hlt := (List.getElem?_eq_some_iff.1 h1).1
  have hf := findP hr (i := 0) hw
  have hg := fnd_get r es 0
  rw [List.length_map] at h2
  cases hq : fndP r es 0 with
  | none =>
    rw [hq] at hf hg
    rw [← hg]
    have hn := fnd_none hq
    refine ⟨clk, .map (es.map enP ++ [(.agg (plC r), z)]) (bs ++ [clk]) (clk + 1), by simp only [mentryV, hu, key54 r hr, cond_true, h1, hf, hz, Option.map_some, Option.map_none, Option.getD_none], bs ++ [clk], clk + 1, es.length, .agg (plC r), ?_, ?_, ?_, ?_, ?_, ?_, fun v => ?_⟩
    · rw [hn]; simp [hlt, enP]
    · rw [hn]; simp [h2]
    · rw [List.nodup_append]
      refine ⟨h3, by simp, fun x hx y hy => ?_⟩
      have := h4 x hx
      simp at hy
      omega
    · intro b hb
      rcases List.mem_append.1 hb with hb | hb
      · have := h4 b hb; omega
      · simp at hb; omega
    · rw [← h2]; simp
    · rw [hn]; simp [enP]
    · rw [hn, hn]; simp [enP]
  | some x =>
    obtain ⟨j, u⟩ := x
    rw [hq] at hf hg
    rw [← hg]
    obtain ⟨_, ⟨x, g1, g2⟩, g3⟩ := fnd_some hq
    rw [Nat.sub_zero] at g1 g3
    have hj := (List.getElem?_eq_some_iff.1 g1).1
    have g4 : (es.map enP)[j]? = some (.agg (plC x), u) := by rw [List.getElem?_map, g1]; rfl
    have hjb : j < bs.length := by omega
    have g5 : bs[j]? = some bs[j] := List.getElem?_eq_getElem hjb
    refine ⟨bs[j], .map ((es.map enP).set j (.agg (plC r), u)) bs clk, by simp only [mentryV, hu, key54 r hr, cond_true, h1, hf, g4, g5, same_pl g2]; rfl, bs, clk, j, .agg (plC r), ?_, ?_, h3, h4, g5, ?_, fun v => ?_⟩
    · show (m.set n _)[n]? = some (.map ((putP r u es).map enP) bs clk)
      rw [g3 u, List.map_set]; simp [hlt, enP]
    · show _ = (putP r u es).length
      rw [g3 u]; simp [h2]
    · show ((putP r u es).map enP)[j]? = some (_, u)
      rw [g3 u, List.map_set]; simp [hj, enP]
    · show ((putP r u es).map enP).set j _ = _
      rw [g3 u, g3 v, List.map_set, List.map_set]; simp [enP]
end
theorem Ent.map {m : Mem} {n : Nat} {es : List (Ru × V)} {r : Ru} {u : V} {s : Nat} (h : Ent m n es r u s) : isMap m n ((putP r u es).map enP) := by
  obtain ⟨bs, clk, i, k0, h1, h2, h3, h4, _⟩ := h
  exact ⟨bs, clk, h1, by simpa using h2, h3, h4⟩
theorem ent_store {m : Mem} {n : Nat} {es : List (Ru × V)} {r : Ru} {u : V} {s : Nat} (v : V) (h : Ent m n es r u s) :
    ∃ b, estoreV m (.mp n) (.int .i64 (s : Int)) v = some (m.set n b) ∧ isMap (m.set n b) n ((putP r v es).map enP) := by
  obtain ⟨bs, clk, i, k0, h1, h2, h3, h4, h5, h6, h7⟩ := h
  have hlt := (List.getElem?_eq_some_iff.1 h1).1
  have hi := (List.getElem?_eq_some_iff.1 h5).1
  have hx : bs.findIdx? (fun b : Nat => (b : Int) == (s : Int)) = some i := by
    rw [List.findIdx?_eq_some_iff_getElem]
    refine ⟨hi, ?_, fun j hj => ?_⟩
    · rw [(List.getElem?_eq_some_iff.1 h5).2]; simp
    · have h8 : bs[j] ≠ bs[i] := fun e => by
        have := (List.getElem?_inj (l := bs) (i := j) (j := i) (by omega) h3).1 (by rw [List.getElem?_eq_getElem (by omega), List.getElem?_eq_getElem hi, e])
        omega
      rw [(List.getElem?_eq_some_iff.1 h5).2] at h8
      simp
      omega
  refine ⟨.map (((putP r u es).map enP).set i (k0, v)) bs clk, by simp only [estoreV, h1, hx, h6], bs, clk, ?_, ?_, h3, h4⟩
  · rw [h7 v]; simp [hlt]
  · have := congrArg List.length (h7 v)
    simp at this
    rw [List.length_map, ← this, h2]
end Go.Proofs.Ytggdnepfahknbaa
