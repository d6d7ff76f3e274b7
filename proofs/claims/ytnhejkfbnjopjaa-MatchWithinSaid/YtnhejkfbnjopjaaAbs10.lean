/- One operation of the evaluator, and that it answers as the machine does. No condition. -/
import Derived.Test.YtnhejkfbnjopjaaAbs9
namespace Go.Proofs.Ytnhejkfbnjopjaa.Ab
open Go
set_option linter.unusedSimpArgs false
set_option linter.unusedVariables false

inductive Res where
  | val (v : V) (m : Mem)
  | skip (m : Mem)

def pickV (t : Bool) : V → V → V
  | .bool a, .bool b => .bool (bif t then a else b)
  | a, b => bif t then a else b

def nonnil : V → Bool
  | .ptr _ _ => true
  | .ep _ _ _ _ => true
  | .ip _ => true
  | .fn _ _ _ => true
  | .int _ _ => true
  | .bool _ => true
  | .sl _ _ _ _ => true
  | .isl _ _ => true
  | .mp _ => true
  | _ => false

def minmaxV (mx : Bool) : V → V → Option V
  | .int k a, .int k' b => if k = k' then some (.int k (bif mx then (if a < b then b else a) else (if b < a then b else a))) else none
  | _, _ => none

def execD (P : Program) (e : Operand → V) (m : Mem) : Op → Option Res
  | .move x => some (.val (e x) m)
  | .assign x => some (.val (e x) m)
  | .pick c a b => match e c with
    | .bool t => some (.val (pickV t (e a) (e b)) m)
    | _ => none
  | .alloc t => (allocV P t m).map fun p => .val p.1 p.2
  | .box t x => (newV t m (e x)).map fun p => .val p.1 p.2
  | .build t ps => (buildV P t (ps.toList.map fun p => (p.1, e p.2))).map (.val · m)
  | .buildSlice t n ps => (bsliceV P t n (ps.toList.map fun p => (p.1, e p.2)) m).map fun p => .val p.1 p.2
  | .load t a => (loadV P m t (e a)).map (.val · m)
  | .store t a x => (storeV P t m (e a) (e x)).map .skip
  | .nilCheck x => bif nonnil (e x) then some (.val (e x) m) else none
  | .binOp op t x y _ => (binV P op t (e x) (e y)).map (.val · m)
  | .unOp op _ x => (unV op (e x)).map (.val · m)
  | .convert s d x => (convV P s d (e x)).map (.val · m)
  | .makeFunc (.func f) a b => some (.val (.fn f (a.toList.map e) (b.toList.map e)) m)
  | .makeInterface t x => bif P.concrete t then some (.val (.ifc t (e x)) m) else none
  | .slice t x lo hi none => (sliceV P t (e x) (lo.map e) (hi.map e)).map (.val · m)
  | .fieldAddr t x f => (faddrV P t f (e x)).map (.val · m)
  | .field t x f => (fieldV P t f (e x)).map (.val · m)
  | .indexAddr t x i => (iaddrV P t (e x) (e i)).map (.val · m)
  | .index t x i => (indexV P t (e x) (e i)).map (.val · m)
  | .extract x i => (extractV i (e x)).map (.val · m)
  | .call { callee := .builtin .append, args, argTypes } => match args.toList, argTypes.toList with
    | [s, x], [t, u] => (appendV P t u (e s) (e x) m).map fun p => .val p.1 p.2
    | _, _ => none
  | .call { callee := .builtin .len, args, argTypes } => match args.toList, argTypes.toList with
    | [x], [t] => (lenV P m t (e x)).map (.val · m)
    | _, _ => none
  | _ => none

section
variable {P : Program} {ρ : Pl} {I : Nat → Prop} {w : World} {m : Mem}

def Done (P : Program) (ρ : Pl) (I : Nat → Prop) (m : Mem) (w : World) (q : Result Next) : Res → Prop
  | .val v m' => ∃ x w' ρ' I', q = .ok (.value x) w' ∧ Rep ρ' I' m' w' ∧ Step ρ I m w ρ' I' m' w' ∧ RV m'.length ρ' I' w' v x
  | .skip m' => ∃ w' ρ' I', q = .ok .skip w' ∧ Rep ρ' I' m' w' ∧ Step ρ I m w ρ' I' m' w'

theorem Done.of_came {s : Sem Value} {v : V} {m' : Mem} (h : Came P ρ I m w s v m') : Done P ρ I m w ((do pure (.value (← s)) : Sem Next).run P w) (.val v m') := by
  obtain ⟨x, w', ρ', I', h1, h2⟩ := h
  exact ⟨x, w', ρ', I', by simp [h1], h2⟩

theorem Done.of_pure {s : Sem Value} {v : V} (hr : Rep ρ I m w) (h : ∃ x, s.run P w = .ok x w ∧ RV m.length ρ I w v x) : Done P ρ I m w ((do pure (.value (← s)) : Sem Next).run P w) (.val v m) :=
  Done.of_came (Came.pure hr h)

theorem Done.value {x : Value} {v : V} (hr : Rep ρ I m w) (h : RV m.length ρ I w v x) : Done P ρ I m w (.ok (.value x) w) (.val v m) :=
  ⟨x, w, ρ, I, rfl, hr, Step.refl _ _ _ _, h⟩

theorem Rt_map {N : Nat} {e : Operand → V} {ev : Operand → Value} (he : ∀ x, RV N ρ I w (e x) (ev x)) (xs : Array Operand) : (xs.toList.map e).length = (xs.map ev).size ∧ Rt N ρ I w (xs.toList.map e) (xs.map ev) 0 :=
  ⟨by simp, Rt.mk fun i v hv => by
    simp only [List.getElem?_map, Option.map_eq_some_iff] at hv
    obtain ⟨x, h1, rfl⟩ := hv
    exact ⟨ev x, by simp at h1; simp [h1], he x⟩⟩

theorem Rparts_map {N : Nat} {e : Operand → V} {ev : Operand → Value} (he : ∀ x, RV N ρ I w (e x) (ev x)) : ∀ (ps : List (Nat × Operand)), Rparts N ρ I w (ps.map fun p => (p.1, e p.2)) (ps.map fun p => (p.1, ev p.2))
  | [] => by simp [Rparts]
  | p :: r => by simp only [List.map_cons, Rparts]; exact ⟨trivial, he _, Rparts_map he r⟩

theorem Rbnd_map {N : Nat} {e : Operand → V} {ev : Operand → Value} (he : ∀ x, RV N ρ I w (e x) (ev x)) (x : Option Operand) : Rbnd N ρ I w (x.map e) (x.map ev) := by
  cases x with
  | none => simp [Rbnd]
  | some y => simp only [Option.map_some, Rbnd]; exact he y

theorem pickV_sound {N : Nat} {t : Bool} {u v : V} {x y : Value} (h1 : RV N ρ I w u x) (h2 : RV N ρ I w v y) : RV N ρ I w (pickV t u v) (bif t then x else y) := by
  unfold pickV
  split
  · simp only [RV] at h1 h2 ⊢
    subst h1; subst h2
    cases t <;> rfl
  · cases t
    · exact h2
    · exact h1

theorem execD_sound (hr : Rep ρ I m w) {a : Act} {e : Operand → V} (he : ∀ x, RV m.length ρ I w (e x) (a.eval x)) {o : Oper} {r : Res} (h : execD P e m o.op = some r) :
    Done P ρ I m w ((execOp a.eval o).run P w) r := by
  obtain ⟨dst, op, ty, pos, af, gd⟩ := o
  simp only at h
  have mapv : ∀ {o : Option V}, o.map (Res.val · m) = some r → ∃ v, o = some v ∧ r = .val v m := by
    intro o h
    rw [Option.map_eq_some_iff] at h
    obtain ⟨v, h1, h2⟩ := h
    exact ⟨v, h1, h2.symm⟩
  have mapp : ∀ {o : Option (V × Mem)}, o.map (fun p => Res.val p.1 p.2) = some r → ∃ v m', o = some (v, m') ∧ r = .val v m' := by
    intro o h
    rw [Option.map_eq_some_iff] at h
    obtain ⟨⟨v, m'⟩, h1, h2⟩ := h
    exact ⟨v, m', h1, h2.symm⟩
  unfold execD at h
  split at h
  · cases h; exact Done.value hr (he _)
  · cases h; exact Done.value hr (he _)
  · rename_i c x y
    split at h
    · rename_i t hc
      cases h
      have := he c
      rw [hc] at this
      simp only [RV] at this
      have hp := pickV_sound (t := t) (he x) (he y)
      simp only [execOp, this, asBool, Sem.run_bind, Sem.run_pure, Result.andThen_ok]
      cases t
      · exact Done.value hr hp
      · exact Done.value hr hp
    · cases h
  · obtain ⟨v, m', h1, rfl⟩ := mapp h
    exact Done.of_came (allocV_sound hr h1)
  · obtain ⟨v, m', h1, rfl⟩ := mapp h
    exact Done.of_came (newV_sound hr (he _) h1)
  · obtain ⟨v, h1, rfl⟩ := mapv h
    exact Done.of_pure hr (buildV_sound (by rw [Array.toList_map]; exact Rparts_map he _) h1)
  · obtain ⟨v, m', h1, rfl⟩ := mapp h
    exact Done.of_came (bsliceV_sound hr (by rw [Array.toList_map]; exact Rparts_map he _) h1)
  · obtain ⟨v, h1, rfl⟩ := mapv h
    exact Done.of_pure hr (loadV_sound hr (he _) h1)
  · rw [Option.map_eq_some_iff] at h
    obtain ⟨m', h1, rfl⟩ := h
    obtain ⟨w', ρ', I', k1, k2⟩ := storeV_sound hr (he _) (he _) h1
    exact ⟨w', ρ', I', by simp [execOp, k1], k2⟩
  · rename_i x
    cases hc : nonnil (e x) with
    | false => rw [hc] at h; cases h
    | true =>
      rw [hc] at h
      cases h
      have hx := he x
      have : (execOp a.eval { dst := dst, op := .nilCheck x, type := ty, pos := pos, after := af, guard := gd }).run P w = .ok (.value (a.eval x)) w := by
        unfold nonnil at hc
        split at hc
        all_goals first
          | (cases hc; done)
          | skip
        all_goals (rename_i hv; rw [hv] at hx; simp only [RV] at hx)
        · obtain ⟨_, hx⟩ := hx; simp [execOp, hx]
        · obtain ⟨_, hx⟩ := hx; simp [execOp, hx]
        · obtain ⟨_, _, _, _, _, hx, _⟩ := hx; simp [execOp, hx]
        · obtain ⟨_, _, hx, _⟩ := hx; simp [execOp, hx]
        · simp [execOp, hx]
        · simp [execOp, hx]
        · obtain ⟨_, _, _, hx, _⟩ := hx; simp [execOp, hx]
        · obtain ⟨_, _, hx, _⟩ := hx; simp [execOp, hx]
        · obtain ⟨_, hx⟩ := hx; simp [execOp, hx]
      rw [this]
      exact Done.value hr hx
  · obtain ⟨v, h1, rfl⟩ := mapv h
    exact Done.of_pure hr (binV_sound (he _) (he _) h1 _ _)
  · obtain ⟨v, h1, rfl⟩ := mapv h
    exact Done.of_pure hr (unV_sound (he _) h1)
  · obtain ⟨v, h1, rfl⟩ := mapv h
    exact Done.of_pure hr (convV_sound (he _) h1)
  · rename_i f xs ys
    cases h
    obtain ⟨k1, k2⟩ := Rt_map (ρ := ρ) (I := I) (w := w) he xs
    obtain ⟨k3, k4⟩ := Rt_map (ρ := ρ) (I := I) (w := w) he ys
    exact Done.of_pure hr ⟨_, rfl, by simp only [RV]; exact ⟨_, _, rfl, k1, k2, k3, k4⟩⟩
  · rename_i t x
    cases hc : P.concrete t with
    | false => rw [hc] at h; cases h
    | true =>
      rw [hc] at h
      cases h
      exact Done.of_pure hr ⟨_, run_makeInterface w t _ hc, by simp only [RV]; exact ⟨_, rfl, he x⟩⟩
  · obtain ⟨v, h1, rfl⟩ := mapv h
    exact Done.of_pure hr (sliceV_sound (he _) (Rbnd_map he _) (Rbnd_map he _) h1)
  · obtain ⟨v, h1, rfl⟩ := mapv h
    exact Done.of_pure hr (faddrV_sound (he _) h1)
  · obtain ⟨v, h1, rfl⟩ := mapv h
    exact Done.of_pure hr (fieldV_sound (he _) h1)
  · obtain ⟨v, h1, rfl⟩ := mapv h
    exact Done.of_pure hr (iaddrV_sound (he _) (he _) h1)
  · obtain ⟨v, h1, rfl⟩ := mapv h
    exact Done.of_pure hr (indexV_sound (he _) (he _) h1)
  · obtain ⟨v, h1, rfl⟩ := mapv h
    exact Done.of_pure hr (extractV_sound (he _) h1)
  · rename_i args ts
    split at h
    · rename_i s x t u hargs hts
      obtain ⟨v, m', h1, rfl⟩ := mapp h
      have ha : args = #[s, x] := Array.toList_inj.1 (by simpa using hargs)
      have ht : ts = #[t, u] := Array.toList_inj.1 (by simpa using hts)
      subst ha; subst ht
      have := Done.of_came (appendV_sound hr (he s) (he x) h1 ty)
      simpa [execOp, resolve, invoke, builtin] using this
    · cases h
  · rename_i args ts
    split at h
    · rename_i x t hargs hts
      obtain ⟨v, h1, rfl⟩ := mapv h
      have ha : args = #[x] := Array.toList_inj.1 (by simpa using hargs)
      have ht : ts = #[t] := Array.toList_inj.1 (by simpa using hts)
      subst ha; subst ht
      have := Done.of_pure hr (lenV_sound hr (he x) h1 #[t] (by rfl) ty #[a.eval x] (by rfl))
      simpa [execOp, resolve, invoke, builtin] using this
    · cases h
  · cases h
end
end Go.Proofs.Ytnhejkfbnjopjaa.Ab
