/- What a cache tells is what was put last. No condition. -/
import Derived.Test.YtnhejkfbnjopjaaMm
namespace Go.Proofs.Ytnhejkfbnjopjaa
open Go Ab
set_option linter.unusedSimpArgs false
set_option linter.unusedVariables false
set_option maxRecDepth 20000

def isPut (h : Hd) (x : Do) : Bool := decide (x.d = 1) && eqH x.h h
def lastG (h : Hd) : List Do → Option Int → Option Int
  | [], r => r
  | x :: xs, r => lastG h xs (bif isPut h x then some x.id else r)
theorem lastG_snoc (h : Hd) : ∀ (l : List Do) (x : Do) (r : Option Int), lastG h (l ++ [x]) r = bif isPut h x then some x.id else lastG h l r
  | [], x, r => rfl
  | y :: l, x, r => lastG_snoc h l x _
theorem isPut_eq {h g : Hd} (e : eqH h g = true) (x : Do) : isPut h x = isPut g x := by
  unfold isPut
  congr 1
  rw [Bool.eq_iff_iff]
  exact ⟨fun k => eqH_trans k e, fun k => eqH_trans k (eqH_symm e)⟩
theorem lastG_eq {h g : Hd} (e : eqH h g = true) : ∀ (l : List Do) (r : Option Int), lastG h l r = lastG g l r
  | [], r => rfl
  | y :: l, r => by
    simp only [lastG, isPut_eq e]
    exact lastG_eq e l _
def seg (acts : List Do) (f i : Nat) : List Do := (acts.drop f).take (i - f)
theorem seg_succ {acts : List Do} {f i : Nat} (hf : f ≤ i) (hi : i < acts.length) : seg acts f (i + 1) = seg acts f i ++ [acts[i]] := by
  unfold seg
  rw [show i + 1 - f = (i - f) + 1 by omega, List.take_add_one]
  congr 1
  rw [List.getElem?_drop, show f + (i - f) = i by omega, List.getElem?_eq_getElem hi]
  rfl
theorem seg_cons {acts : List Do} {k i : Nat} (hk : k < i) (hi : i ≤ acts.length) : seg acts k i = acts[k]'(by omega) :: seg acts (k + 1) i := by
  unfold seg
  rw [List.drop_eq_getElem_cons (by omega), show i - k = (i - (k + 1)) + 1 by omega, List.take_succ_cons]
theorem seg_nil (acts : List Do) (i : Nat) : seg acts i i = [] := by simp [seg]

structure Tru (l : List Ent) (t : Nat) (s : List Do) : Prop where
  old : ∀ e ∈ l, e.full = true → e.turn ≤ t
  last : ∀ e ∈ l, e.full = true → e.turn = t → lastG e.h s none = some e.id

theorem Tru.skip {l : List Ent} {t : Nat} {s : List Do} {x : Do} (T : Tru l t s) (hx : x.d ≠ 1) : Tru l t (s ++ [x]) := by
  refine ⟨T.old, fun e he h1 h2 => ?_⟩
  rw [lastG_snoc]
  have : isPut e.h x = false := by simp [isPut, hx]
  rw [this]
  exact T.last e he h1 h2
theorem Tru.got {l : List Ent} {t : Nat} {s : List Do} {h : Hd} (T : Tru l t s) : Tru (getL l t h) t s ∧ ((getI l t h).2 = true → lastG h s none = some (getI l t h).1) ∧ ((getI l t h).2 = false → (getI l t h).1 = 0) := by
  unfold getL getI
  cases hf : fnd l h with
  | none => exact ⟨T, fun h => by simp at h, fun _ => rfl⟩
  | some k =>
    obtain ⟨hk, h1, h2⟩ := fnd_some hf
    simp only [List.getElem?_eq_getElem hk]
    cases ht : decide (l[k].turn = t) with
    | true =>
      have ht' := of_decide_eq_true ht
      refine ⟨⟨fun e he hf => ?_, fun e he hf hte => ?_⟩, fun _ => ?_, fun h => by simp at h⟩
      · rcases List.mem_or_eq_of_mem_set he with h' | rfl
        · exact T.old e h' hf
        · have := T.old l[k] (List.getElem_mem hk) h1
          exact this
      · rcases List.mem_or_eq_of_mem_set he with h' | rfl
        · exact T.last e h' hf hte
        · have := T.last l[k] (List.getElem_mem hk) h1 ht'
          exact this
      · rw [← lastG_eq h2]
        exact T.last l[k] (List.getElem_mem hk) h1 ht'
    | false =>
      refine ⟨⟨fun e he hf => ?_, fun e he hf hte => ?_⟩, fun h => by simp at h, fun _ => rfl⟩
      · rcases List.mem_or_eq_of_mem_set he with h' | rfl
        · exact T.old e h' hf
        · cases hf
      · rcases List.mem_or_eq_of_mem_set he with h' | rfl
        · exact T.last e h' hf hte
        · cases hf

/-- What holds of a place once something was put. -/
def Put1 (l : List Ent) (t : Nat) (h : Hd) (id : Int) (e' : Ent) : Prop := (eqH h e'.h = true ∧ e'.id = id ∧ e'.turn = t) ∨ (∃ e ∈ l, e.full = true ∧ e.h = e'.h ∧ e.id = e'.id ∧ e.turn = e'.turn ∧ eqH h e'.h = false)

theorem clk_sub (t : Nat) : ∀ (n : Nat) (l : List Ent) (i : Nat), ∀ e' ∈ (clk t n l i).1, ∃ e ∈ l, e.full = e'.full ∧ e.h = e'.h ∧ e.id = e'.id ∧ e.turn = e'.turn
  | 0, l, i, e', h => ⟨e', h, rfl, rfl, rfl, rfl⟩
  | n + 1, l, i, e', h => by
    unfold clk at h
    split at h
    · rename_i e he
      cases hh : hot t e with
      | true =>
        rw [hh] at h
        simp only [cond_true] at h
        obtain ⟨x, x1, x2, x3, x4, x5⟩ := clk_sub t n _ _ e' h
        rcases List.mem_or_eq_of_mem_set x1 with h' | rfl
        · exact ⟨x, h', x2, x3, x4, x5⟩
        · exact ⟨e, List.mem_of_getElem? he, x2, x3, x4, x5⟩
      | false =>
        rw [hh] at h
        exact ⟨e', h, rfl, rfl, rfl, rfl⟩
    · exact ⟨e', h, rfl, rfl, rfl, rfl⟩

theorem putR_all {l : List Ent} {a : List (Hd × Nat)} {t hd : Nat} {h : Hd} {id : Int} (I : Inv l a) : ∀ e' ∈ (putR l a t hd h id).1, e'.full = true → Put1 l t h id e' := by
  have keep : ∀ e' ∈ l, e'.full = true → eqH h e'.h = false → Put1 l t h id e' := fun e' he hf hq => .inr ⟨e', he, hf, rfl, rfl, rfl, hq⟩
  have flip : ∀ {g : Hd}, eqH g h = false → eqH h g = false := fun {g} q => by
    cases e : eqH h g with
    | false => rfl
    | true => rw [eqH_symm e] at q; cases q
  intro e' he hfull
  unfold putR at he
  by_cases h0 : l.length = 0
  · rw [if_pos h0] at he
    have : l = [] := List.eq_nil_of_length_eq_zero h0
    subst this
    simp at he
  · rw [if_neg h0] at he
    cases hf : fnd l h with
    | some k =>
      obtain ⟨hk, h1, h2⟩ := fnd_some hf
      rw [hf] at he
      simp only [List.getElem?_eq_getElem hk] at he
      obtain ⟨q, hq⟩ := List.getElem?_of_mem he
      rcases set_at hq with ⟨rfl, rfl⟩ | ⟨hqk, hq'⟩
      · exact .inl ⟨eqH_symm h2, rfl, rfl⟩
      · refine keep e' (List.mem_of_getElem? hq') hfull ?_
        cases e2 : eqH h e'.h with
        | false => rfl
        | true => exact absurd (I.uniq hq' (List.getElem?_eq_getElem hk) hfull h1 (eqH_symm (eqH_trans h2 e2))) hqk
    | none =>
      have hne := fnd_none hf
      rw [hf] at he
      simp only at he
      cases hfr : free l with
      | some k =>
        rw [hfr] at he
        simp only at he
        rcases List.mem_or_eq_of_mem_set he with h' | rfl
        · exact keep e' h' hfull (flip (hne e' h' hfull))
        · exact .inl ⟨eqH_refl h, rfl, rfl⟩
      | none =>
        rw [hfr] at he
        simp only at he
        split at he
        · rcases List.mem_or_eq_of_mem_set he with h' | rfl
          · obtain ⟨x, x1, x2, x3, x4, x5⟩ := clk_sub t _ _ _ e' h'
            have hxf : x.full = true := by rw [x2]; exact hfull
            exact .inr ⟨x, x1, hxf, x3, x4, x5, by rw [← x3]; exact flip (hne x x1 hxf)⟩
          · exact .inl ⟨eqH_refl h, rfl, rfl⟩
        · exact keep e' he hfull (flip (hne e' he hfull))

theorem putR_has {l : List Ent} {a : List (Hd × Nat)} {t hd : Nat} {h : Hd} {id : Int} (h0 : ¬ l.length = 0) (hh : hd < l.length) : ∃ e' ∈ (putR l a t hd h id).1, e'.full = true ∧ eqH e'.h h = true ∧ e'.id = id ∧ e'.turn = t := by
  unfold putR
  rw [if_neg h0]
  cases hf : fnd l h with
  | some k =>
    obtain ⟨hk, h1, h2⟩ := fnd_some hf
    simp only [List.getElem?_eq_getElem hk]
    exact ⟨_, List.mem_of_getElem? (List.getElem?_set_self hk), h1, h2, rfl, rfl⟩
  | none =>
    simp only
    cases hfr : free l with
    | some k =>
      obtain ⟨hk, _⟩ := free_some hfr
      exact ⟨en1 h id t, List.mem_of_getElem? (List.getElem?_set_self hk), rfl, eqH_refl h, rfl, rfl⟩
    | none =>
      have hx := clk_lt t (l.length + 1) l hd hh
      have hlen := clk_len t (l.length + 1) l hd
      simp only
      rw [List.getElem?_eq_getElem (by omega)]
      exact ⟨en1 h id t, List.mem_of_getElem? (List.getElem?_set_self (by omega)), rfl, eqH_refl h, rfl, rfl⟩

theorem Tru.put {l : List Ent} {a : List (Hd × Nat)} {t hd : Nat} {x : Do} {s : List Do} (I : Inv l a) (T : Tru l t s) (hx : x.d = 1) : Tru (putR l a t hd x.h x.id).1 t (s ++ [x]) := by
  refine ⟨fun e he hf => ?_, fun e he hf ht => ?_⟩
  · rcases putR_all I e he hf with ⟨_, _, h3⟩ | ⟨y, y1, y2, _, _, y5, _⟩
    · omega
    · have := T.old y y1 y2; omega
  · rw [lastG_snoc]
    rcases putR_all I e he hf with ⟨h1, h2, _⟩ | ⟨y, y1, y2, y3, y4, y5, y6⟩
    · have : isPut e.h x = true := by simp [isPut, hx, h1]
      rw [this, h2]
      rfl
    · have : isPut e.h x = false := by simp [isPut, y6]
      rw [this, ← y3, ← y4]
      exact T.last y y1 y2 (by omega)
theorem put_got {l : List Ent} {a : List (Hd × Nat)} {t hd : Nat} {h : Hd} {id : Int} (I : Inv l a) (hh : U64h h) (hd0 : l.length = 0 ∨ hd < l.length) (h0 : ¬ l.length = 0) : getI (putR l a t hd h id).1 t h = (id, true) := by
  obtain ⟨P, _, _⟩ := putR_inv (t := t) (id := id) I hh hd0
  obtain ⟨e, e1, e2, e3, e4, e5⟩ := putR_has (a := a) (t := t) (h := h) (id := id) h0 (show hd < l.length by omega)
  obtain ⟨p, hp⟩ := List.getElem?_of_mem e1
  have hf : fnd (putR l a t hd h id).1 h = some p := by
    cases hf : fnd (putR l a t hd h id).1 h with
    | none => have := fnd_none hf e e1 e2; rw [e3] at this; cases this
    | some k =>
      obtain ⟨hk, h1, h2⟩ := fnd_some hf
      rw [P.uniq (List.getElem?_eq_getElem hk) hp h1 e2 (eqH_trans h2 (eqH_symm e3))]
  unfold getI
  rw [hf]
  simp only [hp]
  have : decide (e.turn = t) = true := by simp [e5]
  rw [this, e4]
  rfl
theorem held_le (t : Nat) (l : List Ent) : held t l ≤ l.length := List.countP_le_length
theorem Tru.turn {l : List Ent} {t : Nat} {s : List Do} (T : Tru l t s) (s' : List Do) : Tru l (t + 1) s' ∧ held (t + 1) l = 0 := by
  refine ⟨⟨fun e he hf => by have := T.old e he hf; omega, fun e he hf ht => by have := T.old e he hf; omega⟩, ?_⟩
  unfold held
  rw [List.countP_eq_zero]
  intro e he
  cases hf : e.full with
  | false => simp [new, hf]
  | true =>
    have := T.old e he hf
    simp [new, hf]; omega
theorem Tru.none (n : Nat) (s : List Do) : Tru (List.replicate n e0) 0 s where
  old e he hf := by rw [List.eq_of_mem_replicate he] at hf; cases hf
  last e he hf := by rw [List.eq_of_mem_replicate he] at hf; cases hf
end Go.Proofs.Ytnhejkfbnjopjaa
