/- Whole values compared: the law of keyLits on flat types. No condition. -/
import Derived.Test.YtnhejkfbnjopjaaAbs21
namespace Go.Proofs.Ytnhejkfbnjopjaa.Ab
open Go
set_option linter.unusedSimpArgs false
set_option linter.unusedVariables false

inductive Sh where
  | tb | ti (k : IntKind) | ts

def fit1 : Sh → Value → Lit → Prop
  | .tb, .bool x, l => l = .bool x
  | .ti k, .int k' n, l => k' = k ∧ (Lit.int k n).wf = true ∧ l = .int k n
  | .ts, .string x, l => x.size ≤ maxLen ∧ l = .string x.data.toList
  | _, _, _ => False

def fitL : List Sh → List Value → List Lit → Prop
  | [], cs, ls => cs = [] ∧ ls = []
  | s :: r, c :: cs, l :: ls => fit1 s c l ∧ fitL r cs ls
  | _, _, _ => False

theorem fitL_len : ∀ {ss : List Sh} {cs : List Value} {ls : List Lit}, fitL ss cs ls → cs.length = ss.length ∧ ls.length = ss.length
  | [], _, _, h => by obtain ⟨rfl, rfl⟩ := h; exact ⟨rfl, rfl⟩
  | _ :: r, _ :: cs, _ :: ls, h => by
    have := fitL_len (ss := r) h.2
    simp [this.1, this.2]
  | _ :: _, [], _, h => h.elim
  | _ :: _, _ :: _, [], h => h.elim

theorem fitL_app : ∀ {ss rr : List Sh} {cs : List Value} {ls : List Lit}, fitL (ss ++ rr) cs ls → fitL ss (cs.take ss.length) (ls.take ss.length) ∧ fitL rr (cs.drop ss.length) (ls.drop ss.length)
  | [], _, _, _, h => ⟨⟨by simp, by simp⟩, h⟩
  | _ :: r, _, _ :: cs, _ :: ls, h => by
    have := fitL_app (ss := r) h.2
    exact ⟨⟨h.1, this.1⟩, this.2⟩
  | _ :: _, _, [], _, h => h.elim
  | _ :: _, _, _ :: _, [], h => h.elim

def inRow {β : Type} (off wd : β → Nat) : Nat → List β → Bool
  | _, [] => true
  | o, b :: r => Nat.beq (off b) o && inRow off wd (o + wd b) r

theorem pieces {β : Type} (K : β → List Value → Option (List Lit)) (off wd : β → Nat) (sh : β → List Sh) (all : List Value) : ∀ (bs : List β) (o : Nat) (ls : List Lit), inRow off wd o bs = true → (∀ b ∈ bs, wd b = (sh b).length) →
    (∀ b ∈ bs, ∀ cs ls, fitL (sh b) cs ls → K b cs = some ls) → fitL (bs.map sh).flatten (all.drop o) ls → (bs.mapM fun b => K b ((all.drop (off b)).take (wd b))).map List.flatten = some ls
  | [], _, ls, _, _, _, h => by
    obtain ⟨_, rfl⟩ := h
    rfl
  | b :: r, o, ls, h1, h2, h3, h => by
    simp only [inRow, Bool.and_eq_true] at h1
    have e := Nat.eq_of_beq_eq_true h1.1
    have hw := h2 b (by simp)
    simp only [List.map_cons, List.flatten_cons] at h
    obtain ⟨k1, k2⟩ := fitL_app h
    have ih := pieces K off wd sh all r (o + wd b) (ls.drop (sh b).length) h1.2 (fun b hb => h2 b (by simp [hb])) (fun b hb => h3 b (by simp [hb])) (by rw [hw, ← List.drop_drop]; exact k2)
    rw [List.mapM_cons, e, hw, h3 b (by simp) _ _ k1]
    cases hm : r.mapM fun b => K b ((all.drop (off b)).take (wd b)) with
    | none => rw [hm] at ih; cases ih
    | some l =>
      rw [hm] at ih
      simp only [Option.map_some, Option.some.injEq] at ih
      have e2 : ((some (ls.take (sh b).length)).bind fun v => (some l).bind fun vs => some (v :: vs)).map List.flatten = some ls := by
        simp [ih]
      exact e2

def fieldOk (P : Program) (g : TypeId → Option (List Sh)) (f : Field) : Bool := (f.name != "_") && (match g f.type with | some ss => Nat.beq (P.cellsOf f.type) ss.length | none => false)
theorem fieldOk_iff {P : Program} {g : TypeId → Option (List Sh)} {f : Field} (h : fieldOk P g f = true) : (f.name != "_") = true ∧ ∃ ss, g f.type = some ss ∧ P.cellsOf f.type = ss.length := by
  unfold fieldOk at h
  rw [Bool.and_eq_true] at h
  refine ⟨h.1, ?_⟩
  have := h.2
  cases hs : g f.type with
  | none => rw [hs] at this; cases this
  | some ss => rw [hs] at this; exact ⟨ss, rfl, Nat.eq_of_beq_eq_true this⟩

def shp (P : Program) : Nat → TypeId → Option (List Sh)
  | 0, _ => none
  | d + 1, t => match P.underlying t with
    | some .bool => some [.tb]
    | some (.int q) => some [.ti q]
    | some .string => some [.ts]
    | some (.array n e) => match shp P d e with
      | some ss => bif Nat.beq (P.cellsOf e) ss.length && (Nat.beq (P.cellsOf t) ((List.range n).map fun _ => ss).flatten.length && inRow (fun i => i * P.cellsOf e) (fun _ => P.cellsOf e) 0 (List.range n)) then some ((List.range n).map fun _ => ss).flatten else none
      | none => none
    | some (.struct fs) => bif fs.toList.all (fieldOk P (shp P d)) && (Nat.beq (P.cellsOf t) (fs.toList.map fun f => (shp P d f.type).getD []).flatten.length && inRow (fun f => f.offset) (fun f => P.cellsOf f.type) 0 fs.toList)
      then some (fs.toList.map fun f => (shp P d f.type).getD []).flatten else none
    | _ => none

theorem keyLits_shp (P : Program) : ∀ (d : Nat) (t : TypeId) (ss : List Sh) (cs : List Value) (ls : List Lit), shp P d t = some ss → fitL ss cs ls → P.keyLits d t cs = some ls
  | 0, _, _, _, _, h, _ => by simp [shp] at h
  | d + 1, t, ss, cs, ls, h, hf => by
    have one : ∀ {s : Sh}, fitL [s] cs ls → ∃ c l, cs = [c] ∧ ls = [l] ∧ fit1 s c l := by
      intro s h
      match cs, ls, h with
      | [c], [l], h => exact ⟨c, l, rfl, rfl, h.1⟩
      | [], _, h => exact h.elim
      | _ :: _, [], h => exact h.elim
      | _ :: _ :: _, _ :: _, h => exact absurd h.2.1 (by simp)
      | [_], _ :: _ :: _, h => exact absurd h.2.2 (by simp)
    unfold shp at h
    unfold Program.keyLits
    cases hu : P.underlying t with
    | none => rw [hu] at h; cases h
    | some u =>
      rw [hu] at h
      cases u with
      | bool =>
        cases h
        obtain ⟨c, l, rfl, rfl, hs⟩ := one hf
        cases c <;> simp only [fit1] at hs <;> first | exact hs.elim | (subst hs; rfl)
      | int q =>
        cases h
        obtain ⟨c, l, rfl, rfl, hs⟩ := one hf
        cases c <;> simp only [fit1] at hs <;> first | exact hs.elim | (obtain ⟨rfl, h2, rfl⟩ := hs; simp [h2])
      | string =>
        cases h
        obtain ⟨c, l, rfl, rfl, hs⟩ := one hf
        cases c <;> simp only [fit1] at hs <;> first | exact hs.elim | (obtain ⟨h2, rfl⟩ := hs; simp [h2])
      | array n e =>
        simp only at h ⊢
        cases hs : shp P d e with
        | none => rw [hs] at h; cases h
        | some s1 =>
          rw [hs] at h
          simp only at h
          cases hc : Nat.beq (P.cellsOf e) s1.length && (Nat.beq (P.cellsOf t) ((List.range n).map fun _ => s1).flatten.length && inRow (fun i => i * P.cellsOf e) (fun _ => P.cellsOf e) 0 (List.range n)) with
          | false => rw [hc] at h; cases h
          | true =>
            rw [hc] at h
            simp only [cond_true, Option.some.injEq] at h
            subst h
            simp only [Bool.and_eq_true] at hc
            have e1 := Nat.eq_of_beq_eq_true hc.1
            have e2 := Nat.eq_of_beq_eq_true hc.2.1
            rw [if_pos (by rw [(fitL_len hf).1, e2])]
            exact pieces (fun _ => P.keyLits d e) (fun i => i * P.cellsOf e) (fun _ => P.cellsOf e) (fun _ => s1) cs (List.range n) 0 ls hc.2.2 (fun _ _ => e1) (fun _ _ cs ls hf => keyLits_shp P d e s1 cs ls hs hf) hf
      | struct fs =>
        simp only at h ⊢
        cases hc : fs.toList.all (fieldOk P (shp P d)) && (Nat.beq (P.cellsOf t) (fs.toList.map fun f => (shp P d f.type).getD []).flatten.length && inRow (fun f => f.offset) (fun f => P.cellsOf f.type) 0 fs.toList) with
        | false => rw [hc] at h; cases h
        | true =>
          rw [hc] at h
          simp only [cond_true, Option.some.injEq] at h
          subst h
          simp only [Bool.and_eq_true, List.all_eq_true] at hc
          have e2 := Nat.eq_of_beq_eq_true hc.2.1
          rw [if_pos ⟨by rw [(fitL_len hf).1, e2], by
            rw [Array.all_eq_true_iff_forall_mem]
            intro f hf
            exact (fieldOk_iff (hc.1 f (by simpa using hf))).1⟩]
          refine pieces (fun f => P.keyLits d f.type) (fun f => f.offset) (fun f => P.cellsOf f.type) (fun f => (shp P d f.type).getD []) cs fs.toList 0 ls hc.2.2 (fun f hm => ?_) (fun f hm cs ls hf => ?_) hf
          · obtain ⟨_, s1, h1, h2⟩ := fieldOk_iff (hc.1 f hm)
            rw [h1]; exact h2
          · obtain ⟨_, s1, h1, h2⟩ := fieldOk_iff (hc.1 f hm)
            rw [h1] at hf
            exact keyLits_shp P d f.type s1 cs ls h1 hf
      | _ => cases h

/-! ### In the engine's values -/

def fitV : List Sh → List V → List Lit → Prop
  | [], vs, ls => vs = [] ∧ ls = []
  | s :: r, v :: vs, l :: ls => (∃ x, toVal v = some x ∧ fit1 s x l) ∧ fitV r vs ls
  | _, _, _ => False

theorem fitV_lits : ∀ {ss : List Sh} {vs : List V} {ls : List Lit}, fitV ss vs ls → ∃ cs, vs.mapM toVal = some cs ∧ fitL ss cs ls
  | [], _, _, h => by obtain ⟨rfl, rfl⟩ := h; exact ⟨[], rfl, rfl, rfl⟩
  | _ :: r, v :: vs, _ :: ls, h => by
    obtain ⟨⟨x, h1, h2⟩, h3⟩ := h
    obtain ⟨cs, k1, k2⟩ := fitV_lits (ss := r) h3
    exact ⟨x :: cs, by rw [List.mapM_cons, h1, k1]; rfl, h2, k2⟩
  | _ :: _, [], _, h => h.elim
  | _ :: _, _ :: _, [], h => h.elim

theorem litsV_fit {P : Program} {t : TypeId} {ss : List Sh} {vs : List V} {ls : List Lit} (h : shp P 9 t = some ss) (hf : fitV ss vs ls) : litsV P t vs = some ls := by
  obtain ⟨cs, h1, h2⟩ := fitV_lits hf
  unfold litsV
  rw [h1]
  exact keyLits_shp P 9 t ss cs ls h h2

theorem fitV_cl {k : IntKind} {f : Nat → Int} {n : Nat} (h : ∀ i, i < n → (Lit.int k (f i)).wf = true) : fitV ((List.range n).map fun _ => Sh.ti k) (cl k n f) ((List.range n).map fun i => Lit.int k (f i)) := by
  unfold cl
  have : ∀ i ∈ List.range n, (Lit.int k (f i)).wf = true := fun i hi => h i (by simpa using hi)
  revert this
  generalize List.range n = l
  intro this
  induction l with
  | nil => exact ⟨rfl, rfl⟩
  | cons x r ih => exact ⟨⟨_, rfl, rfl, this x (by simp), rfl⟩, ih fun i hi => this i (by simp [hi])⟩

def inK (k : IntKind) (n : Nat) (f : Nat → Int) : Prop := ∀ i, i < n → (Lit.int k (f i)).wf = true

theorem eqV_cl2 {P : Program} {t : TypeId} {k : IntKind} {n : Nat} {f g : Nat → Int} (h0 : (P.keyTypeAt 8 t && (!P.eqGuardType P.depth t && isAggT P t)) = true) (h : shp P 9 t = some ((List.range n).map fun _ => Sh.ti k)) (hf : inK k n f) (hg : inK k n g) :
    eqV P t (.agg (cl k n f)) (.agg (cl k n g)) = some (eqN n f g) := eqV_cl h0 (litsV_fit h (fitV_cl hf)) (litsV_fit h (fitV_cl hg))
end Go.Proofs.Ytnhejkfbnjopjaa.Ab
