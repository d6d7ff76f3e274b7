/- How a cache's map stands to its places. No condition. -/
import Derived.Test.YtnhejkfbnjopjaaMa
namespace Go.Proofs.Ytnhejkfbnjopjaa
open Go Ab
set_option linter.unusedSimpArgs false
set_option linter.unusedVariables false
set_option maxRecDepth 20000

theorem atFind_shift (h : Hd) : ∀ (l : List (Hd × Nat)) (i : Nat), atFind h l (i + 1) = (atFind h l i).map fun x => (x.1 + 1, x.2)
  | [], _ => rfl
  | p :: r, i => by
    simp only [atFind]
    cases eqH h p.1 with
    | true => rfl
    | false => exact atFind_shift h r (i + 1)
theorem atFind_none {h : Hd} : ∀ {l : List (Hd × Nat)} {i : Nat}, atFind h l i = none ↔ ∀ p ∈ l, eqH h p.1 = false
  | [], _ => by simp [atFind]
  | p :: r, i => by
    simp only [atFind]
    cases e : eqH h p.1 with
    | true => simp [e]
    | false =>
      simp only [cond_false, List.mem_cons, forall_eq_or_imp, e, true_and]
      exact atFind_none
theorem atFind_some {h : Hd} : ∀ {l : List (Hd × Nat)} {i j k : Nat}, atFind h l i = some (j, k) → ∃ p ∈ l, p.2 = k ∧ eqH h p.1 = true
  | [], _, _, _, h => by simp [atFind] at h
  | p :: r, i, j, k, hf => by
    simp only [atFind] at hf
    cases e : eqH h p.1 with
    | true =>
      rw [e] at hf
      simp only [cond_true, Option.some.injEq, Prod.mk.injEq] at hf
      exact ⟨p, by simp, hf.2, e⟩
    | false =>
      rw [e] at hf
      obtain ⟨q, h1, h2⟩ := atFind_some (l := r) hf
      exact ⟨q, by simp [h1], h2⟩

def Apart (l : List (Hd × Nat)) : Prop := l.Pairwise fun p q => eqH p.1 q.1 = false
theorem atDel_filter (h : Hd) : ∀ {l : List (Hd × Nat)}, Apart l → atDel h l = l.filter fun p => !eqH h p.1
  | [], _ => rfl
  | p :: r, ha => by
    obtain ⟨h1, h2⟩ := List.pairwise_cons.1 ha
    have ih := atDel_filter h h2
    unfold atDel at ih ⊢
    simp only [atFind]
    cases e : eqH h p.1 with
    | true =>
      simp only [cond_true, List.eraseIdx_cons_zero, List.filter_cons, e, Bool.not_true, Bool.false_eq_true, if_false]
      rw [List.filter_eq_self.2]
      intro q hq
      have := h1 q hq
      cases f : eqH h q.1 with
      | false => rfl
      | true =>
        have := eqH_trans (eqH_symm e) f
        rw [h1 q hq] at this
        cases this
    | false =>
      simp only [cond_false, List.filter_cons, e, Bool.not_false, if_true]
      rw [atFind_shift]
      cases f : atFind h r 0 with
      | none =>
        rw [f] at ih
        simp only [Option.map_none]
        rw [← ih]
      | some x =>
        rw [f] at ih
        simp only [Option.map_some, List.eraseIdx_cons_succ]
        rw [← ih]

structure Inv (l : List Ent) (a : List (Hd × Nat)) : Prop where
  keys : U64at a
  ents : ∀ e ∈ l, U64h e.h
  apart : Apart a
  fwd : ∀ p ∈ a, ∃ e, l[p.2]? = some e ∧ e.full = true ∧ eqH e.h p.1 = true
  bwd : ∀ (k : Nat) (e : Ent), l[k]? = some e → e.full = true → ∃ p ∈ a, p.2 = k ∧ eqH p.1 e.h = true

def fnd (l : List Ent) (h : Hd) : Option Nat := l.findIdx? fun e => e.full && eqH e.h h
theorem fnd_some {l : List Ent} {h : Hd} {k : Nat} (hf : fnd l h = some k) : ∃ (hk : k < l.length), l[k].full = true ∧ eqH l[k].h h = true := by
  unfold fnd at hf
  obtain ⟨hk, h1, _⟩ := List.findIdx?_eq_some_iff_getElem.1 hf
  simp only [Bool.and_eq_true] at h1
  exact ⟨hk, h1⟩
theorem fnd_none {l : List Ent} {h : Hd} (hf : fnd l h = none) : ∀ e ∈ l, e.full = true → eqH e.h h = false := by
  unfold fnd at hf
  rw [List.findIdx?_eq_none_iff] at hf
  intro e he hfull
  have := hf e he
  rw [hfull] at this
  simpa using this

theorem apart_eq : ∀ {l : List (Hd × Nat)}, Apart l → ∀ p ∈ l, ∀ q ∈ l, eqH p.1 q.1 = true → p = q
  | x :: r, ha, p, hp, q, hq, e => by
    obtain ⟨h1, h2⟩ := List.pairwise_cons.1 ha
    rcases List.mem_cons.1 hp with rfl | hp' <;> rcases List.mem_cons.1 hq with rfl | hq'
    · rfl
    · rw [h1 q hq'] at e; cases e
    · have := eqH_symm e
      rw [h1 p hp'] at this; cases this
    · exact apart_eq h2 p hp' q hq' e

theorem Inv.uniq {l : List Ent} {a : List (Hd × Nat)} (I : Inv l a) {i j : Nat} {e f : Ent} (hi : l[i]? = some e) (hj : l[j]? = some f) (he : e.full = true) (hf : f.full = true) (hq : eqH e.h f.h = true) : i = j := by
  obtain ⟨p, p1, p2, p3⟩ := I.bwd i e hi he
  obtain ⟨q, q1, q2, q3⟩ := I.bwd j f hj hf
  have := apart_eq I.apart p p1 q q1 (eqH_trans p3 (eqH_trans hq (eqH_symm q3)))
  subst this
  omega

theorem Inv.find {l : List Ent} {a : List (Hd × Nat)} (I : Inv l a) (h : Hd) : match fnd l h with
    | some k => ∃ i, atFind h a 0 = some (i, k)
    | none => atFind h a 0 = none := by
  cases hf : fnd l h with
  | none =>
    simp only
    rw [atFind_none]
    intro p hp
    obtain ⟨e, e1, e2, e3⟩ := I.fwd p hp
    cases q : eqH h p.1 with
    | false => rfl
    | true =>
      have := fnd_none hf e (List.mem_of_getElem? e1) e2
      rw [eqH_trans e3 (eqH_symm q)] at this
      cases this
  | some k =>
    simp only
    obtain ⟨hk, h1, h2⟩ := fnd_some hf
    obtain ⟨p, p1, p2, p3⟩ := I.bwd k _ (List.getElem?_eq_getElem hk) h1
    cases ha : atFind h a 0 with
    | none =>
      have := atFind_none.1 ha p p1
      rw [eqH_symm (eqH_trans p3 h2)] at this
      cases this
    | some x =>
      obtain ⟨i, k'⟩ := x
      obtain ⟨q, q1, q2, q3⟩ := atFind_some ha
      have := apart_eq I.apart p p1 q q1 (eqH_trans p3 (eqH_trans h2 q3))
      subst this
      exact ⟨i, by rw [show k' = k by omega]⟩

theorem set_at {l : List Ent} {k i : Nat} {e x : Ent} (h : (l.set k e)[i]? = some x) : (i = k ∧ x = e) ∨ (i ≠ k ∧ l[i]? = some x) := by
  by_cases hik : i = k
  · subst hik
    have hlt : i < l.length := by have := (List.getElem?_eq_some_iff.1 h).1; simpa using this
    rw [List.getElem?_set_self hlt] at h
    cases h
    exact .inl ⟨rfl, rfl⟩
  · rw [List.getElem?_set_ne (fun q => hik q.symm)] at h
    exact .inr ⟨hik, h⟩

/-- A place is changed, but not what it holds. -/
theorem Inv.same {l : List Ent} {a : List (Hd × Nat)} (I : Inv l a) {k : Nat} (hk : k < l.length) {e : Ent} (h1 : e.h = l[k].h) (h2 : e.full = l[k].full) : Inv (l.set k e) a where
  keys := I.keys
  ents x hx := by
    rcases List.mem_or_eq_of_mem_set hx with h | rfl
    · exact I.ents x h
    · rw [h1]; exact I.ents _ (List.getElem_mem hk)
  apart := I.apart
  fwd p hp := by
    obtain ⟨x, x1, x2, x3⟩ := I.fwd p hp
    by_cases hpk : p.2 = k
    · subst hpk
      rw [List.getElem?_eq_getElem hk] at x1
      cases x1
      exact ⟨e, List.getElem?_set_self hk, by rw [h2]; exact x2, by rw [h1]; exact x3⟩
    · exact ⟨x, by rw [List.getElem?_set_ne (fun q => hpk q.symm)]; exact x1, x2, x3⟩
  bwd i x hx hf := by
    rcases set_at hx with ⟨rfl, rfl⟩ | ⟨_, h⟩
    · obtain ⟨p, p1, p2, p3⟩ := I.bwd i _ (List.getElem?_eq_getElem hk) (by rw [← h2]; exact hf)
      exact ⟨p, p1, p2, by rw [h1]; exact p3⟩
    · exact I.bwd i x h hf

/-- A place is given up. -/
theorem Inv.drop {l : List Ent} {a : List (Hd × Nat)} (I : Inv l a) {k : Nat} (hk : k < l.length) (hf : l[k].full = true) {h : Hd} (hh : eqH l[k].h h = true) : Inv (l.set k e0) (atDel h a) := by
  rw [atDel_filter h I.apart]
  refine ⟨fun p hp => I.keys p (List.mem_filter.1 hp).1, fun x hx => ?_, I.apart.filter _, fun p hp => ?_, fun i x hx hfull => ?_⟩
  · rcases List.mem_or_eq_of_mem_set hx with h | rfl
    · exact I.ents x h
    · intro i _; show 0 < _; omega
  · obtain ⟨p1, p2⟩ := List.mem_filter.1 hp
    obtain ⟨x, x1, x2, x3⟩ := I.fwd p p1
    by_cases hpk : p.2 = k
    · subst hpk
      rw [List.getElem?_eq_getElem hk] at x1
      cases x1
      rw [eqH_trans (eqH_symm hh) x3] at p2
      cases p2
    · exact ⟨x, by rw [List.getElem?_set_ne (fun q => hpk q.symm)]; exact x1, x2, x3⟩
  · rcases set_at hx with ⟨rfl, rfl⟩ | ⟨hik, h'⟩
    · cases hfull
    · obtain ⟨p, p1, p2, p3⟩ := I.bwd i x h' hfull
      refine ⟨p, List.mem_filter.2 ⟨p1, ?_⟩, p2, p3⟩
      cases q : eqH h p.1 with
      | false => rfl
      | true =>
        exact absurd (I.uniq h' (List.getElem?_eq_getElem hk) hfull hf (eqH_trans (eqH_symm p3) (eqH_trans (eqH_symm q) (eqH_symm hh)))) hik

/-- A new one goes to a place that nothing was in. -/
theorem Inv.fill {l : List Ent} {a : List (Hd × Nat)} (I : Inv l a) {k : Nat} (hk : k < l.length) (hf : l[k].full = false) {e : Ent} (he : e.full = true) (hu : U64h e.h) (hn : fnd l e.h = none) : Inv (l.set k e) (a ++ [(e.h, k)]) := by
  have hnone : ∀ p ∈ a, eqH e.h p.1 = false := by
    have := I.find e.h
    rw [hn] at this
    exact atFind_none.1 this
  refine ⟨fun p hp => ?_, fun x hx => ?_, ?_, fun p hp => ?_, fun i x hx hfull => ?_⟩
  · rcases List.mem_append.1 hp with h | h
    · exact I.keys p h
    · simp only [List.mem_singleton] at h; subst h; exact hu
  · rcases List.mem_or_eq_of_mem_set hx with h | rfl
    · exact I.ents x h
    · exact hu
  · refine List.pairwise_append.2 ⟨I.apart, List.pairwise_singleton _ _, fun p hp q hq => ?_⟩
    simp only [List.mem_singleton] at hq
    subst hq
    cases q : eqH p.1 e.h with
    | false => rfl
    | true =>
      have := hnone p hp
      rw [eqH_symm q] at this; cases this
  · rcases List.mem_append.1 hp with h | h
    · obtain ⟨x, x1, x2, x3⟩ := I.fwd p h
      by_cases hpk : p.2 = k
      · subst hpk
        rw [List.getElem?_eq_getElem hk] at x1
        cases x1
        rw [hf] at x2; cases x2
      · exact ⟨x, by rw [List.getElem?_set_ne (fun q => hpk q.symm)]; exact x1, x2, x3⟩
    · simp only [List.mem_singleton] at h
      subst h
      exact ⟨e, List.getElem?_set_self hk, he, eqH_refl _⟩
  · rcases set_at hx with ⟨rfl, rfl⟩ | ⟨hik, h'⟩
    · exact ⟨(x.h, i), by simp, rfl, eqH_refl _⟩
    · obtain ⟨p, p1, p2, p3⟩ := I.bwd i x h' hfull
      exact ⟨p, by simp [p1], p2, p3⟩

theorem fnd_set_none {l : List Ent} {k : Nat} {h : Hd} (hn : fnd l h = none) : fnd (l.set k e0) h = none := by
  unfold fnd
  rw [List.findIdx?_eq_none_iff]
  intro x hx
  rcases List.mem_or_eq_of_mem_set hx with h' | rfl
  · have := fnd_none hn x h'
    cases hf : x.full with
    | false => rfl
    | true => simp [this hf]
  · rfl
theorem set_set {l : List Ent} {k : Nat} {a b : Ent} : (l.set k a).set k b = l.set k b := by rw [List.set_set]

/-- A new one goes to a place that another one was in. -/
theorem Inv.swap {l : List Ent} {a : List (Hd × Nat)} (I : Inv l a) {k : Nat} (hk : k < l.length) (hf : l[k].full = true) {e : Ent} (he : e.full = true) (hu : U64h e.h) (hn : fnd l e.h = none) : Inv (l.set k e) (atDel l[k].h a ++ [(e.h, k)]) := by
  have h1 := I.drop hk hf (eqH_refl l[k].h)
  have := h1.fill (k := k) (by simpa using hk) (by simp [e0]) he hu (fnd_set_none hn)
  rwa [set_set] at this

theorem Inv.none {n : Nat} : Inv (List.replicate n e0) [] where
  keys p hp := by simp at hp
  ents e he := by
    rw [List.eq_of_mem_replicate he]
    intro i _; show 0 < _; omega
  apart := List.Pairwise.nil
  fwd p hp := by simp at hp
  bwd k e hk hf := by
    rw [List.getElem?_replicate] at hk
    split at hk
    · cases hk; cases hf
    · cases hk
end Go.Proofs.Ytnhejkfbnjopjaa
