/- What a table of rules tells, in plain Lean. No condition. -/
import Derived.Test.YtffhmbdpmpgddaaWe
namespace Go.Proofs.Ytffhmbdpmpgddaa
open Go Ab
set_option linter.unusedSimpArgs false
set_option linter.unusedVariables false
set_option maxRecDepth 20000

theorem eqH_iff {a b : Nat → Nat} : eqH a b = true ↔ ∀ i, i < 11 → a i = b i := by
  unfold eqH
  rw [eqN_iff]
  exact ⟨fun h i hi => by have := h i hi; omega, fun h i hi => by rw [h i hi]⟩
theorem eqH_refl (a : Nat → Nat) : eqH a a = true := eqH_iff.2 fun _ _ => rfl
theorem eqH_symm {a b : Nat → Nat} (h : eqH a b = true) : eqH b a = true := eqH_iff.2 fun i hi => (eqH_iff.1 h i hi).symm
theorem eqH_trans {a b c : Nat → Nat} (h : eqH a b = true) (h2 : eqH b c = true) : eqH a c = true := eqH_iff.2 fun i hi => (eqH_iff.1 h i hi).trans (eqH_iff.1 h2 i hi)

/-- What a table holds, as a list of rules with their numbers. -/
structure Inv (T : Tbl) (L : List (Int × Ru)) : Prop where
  sound : ∀ x ∈ T.rows, ∀ e ∈ x.es, ∀ n ∈ e.ins, ∃ r, (n.1, r) ∈ L ∧ n.2 = r.rank ∧ eqH x.mask (ruM r) = true ∧ eqH e.key r.w = true
  full : ∀ q ∈ L, ∃ x ∈ T.rows, ∃ e ∈ x.es, (q.1, q.2.rank) ∈ e.ins ∧ eqH x.mask (ruM q.2) = true ∧ eqH e.key q.2.w = true
  masks : T.rows.Pairwise fun x y => eqH x.mask y.mask = false
  keys : ∀ x ∈ T.rows, x.es.Pairwise fun e f => eqH e.key f.key = false
  srtI : ∀ x ∈ T.rows, ∀ e ∈ x.es, srt ltIn e.ins
  top : ∀ x ∈ T.rows, ∀ e ∈ x.es, ∀ n ∈ e.ins, n.2 ≤ x.g
  srtR : srt ltR T.rows
  pos : ∀ q ∈ L, 0 < q.1

/-! ### The best one -/
def btr (c b : Int × Int) : Bool := decide (b.1 = 0) || (decide (b.2 < c.2) || (decide (c.2 = b.2) && decide (c.1 < b.1)))
/-- The best of the rows, the greatest rank first. -/
def fndB (h : Nat → Nat) : List Rw → Int × Int → Int × Int
  | [], b => b
  | x :: r, b => bif decide (0 < b.1) && decide (x.g < b.2) then b
    else match fndE (undH h x.mask) x.es 0 with
      | none => fndB h r b
      | some (_, e) => fndB h r (bif btr (e.ins.headD (0, 0)) b then e.ins.headD (0, 0) else b)
def Best (P : Int × Int → Prop) (b : Int × Int) : Prop := (b.1 = 0 ∧ ∀ n, ¬ P n) ∨ (0 < b.1 ∧ P b ∧ ∀ n, P n → ltIn n b = false)
def cand (h : Nat → Nat) (R : List Rw) (n : Int × Int) : Prop := ∃ x ∈ R, ∃ e ∈ x.es, eqH (undH h x.mask) e.key = true ∧ n ∈ e.ins
theorem fndE_none {k : Nat → Nat} : ∀ {es : List Ent} {i : Nat}, fndE k es i = none → ∀ e ∈ es, eqH k e.key = false
  | [], _, _, _, h => by simp at h
  | x :: r, i, hf, e, h => by
    simp only [fndE] at hf
    cases hq : eqH k x.key with
    | true => rw [hq] at hf; cases hf
    | false =>
      rw [hq] at hf
      rcases List.mem_cons.1 h with rfl | h
      · exact hq
      · exact fndE_none hf e h
theorem fndB_best {h : Nat → Nat} : ∀ {R : List Rw} {b : Int × Int} {P : Int × Int → Prop}, Best P b → (∀ x ∈ R, x.es.Pairwise fun e f => eqH e.key f.key = false) → (∀ x ∈ R, ∀ e ∈ x.es, srt ltIn e.ins ∧ e.ins ≠ []) →
    (∀ x ∈ R, ∀ e ∈ x.es, ∀ n ∈ e.ins, n.2 ≤ x.g ∧ 0 < n.1) → srt ltR R → Best (fun n => P n ∨ cand h R n) (fndB h R b)
  | [], b, P, hb, _, _, _, _ => by
    simp only [fndB]
    rcases hb with ⟨h1, h2⟩ | ⟨h1, h2, h3⟩
    · exact .inl ⟨h1, fun n hn => by
        rcases hn with hn | ⟨x, hx, _⟩
        · exact h2 n hn
        · simp at hx⟩
    · exact .inr ⟨h1, .inl h2, fun n hn => by
        rcases hn with hn | ⟨x, hx, _⟩
        · exact h3 n hn
        · simp at hx⟩
  | x :: R, b, P, hb, hk, hs, ht, hR => by
    obtain ⟨r1, r2⟩ := List.pairwise_cons.1 hR
    simp only [fndB]
    have rec_ : ∀ {b' : Int × Int} {P' : Int × Int → Prop}, Best P' b' → (∀ n, P' n ↔ P n ∨ cand h [x] n) → Best (fun n => P n ∨ cand h (x :: R) n) (fndB h R b') := by
      intro b' P' hb' hP
      have := fndB_best (h := h) hb' (fun y hy => hk y (by simp [hy])) (fun y hy => hs y (by simp [hy])) (fun y hy => ht y (by simp [hy])) r2
      have e : (fun n => P' n ∨ cand h R n) = fun n => P n ∨ cand h (x :: R) n := by
        funext n
        apply propext
        rw [hP]
        constructor
        · rintro ((h1 | ⟨y, hy, h1⟩) | ⟨y, hy, h1⟩)
          · exact .inl h1
          · rw [List.mem_singleton.1 hy] at h1; exact .inr ⟨x, by simp, h1⟩
          · exact .inr ⟨y, by simp [hy], h1⟩
        · rintro (h1 | ⟨y, hy, h1⟩)
          · exact .inl (.inl h1)
          · rcases List.mem_cons.1 hy with rfl | hy
            · exact .inl (.inr ⟨_, by simp, h1⟩)
            · exact .inr ⟨y, hy, h1⟩
      rw [← e]
      exact this
    cases e1 : decide (0 < b.1) && decide (x.g < b.2)
    · simp only [cond_false]
      cases ef : fndE (undH h x.mask) x.es 0 with
      | none =>
        refine rec_ hb fun n => ⟨.inl, fun hh => ?_⟩
        rcases hh with hh | ⟨y, hy, e, he, h1, _⟩
        · exact hh
        · rw [List.mem_singleton.1 hy] at he h1
          rw [fndE_none ef e he] at h1
          cases h1
      | some z =>
        obtain ⟨i, e⟩ := z
        obtain ⟨_, he1, he2⟩ := fndE_at ef
        have hem := List.mem_of_getElem? he1
        obtain ⟨s1, s2⟩ := hs x (by simp) e hem
        obtain ⟨c, rest, hcr⟩ : ∃ c rest, e.ins = c :: rest := by
          cases e3 : e.ins with
          | nil => exact absurd e3 s2
          | cons c rest => exact ⟨c, rest, rfl⟩
        have hcmin : ∀ n ∈ e.ins, ltIn n c = false := by
          rw [hcr] at s1 ⊢
          intro n hn
          rcases List.mem_cons.1 hn with rfl | hn
          · exact ordIn.irr _
          · exact (List.pairwise_cons.1 s1).1 n hn
        have hcm : c ∈ e.ins := by rw [hcr]; simp
        have hc0 := (ht x (by simp) e hem c hcm).2
        have hcx : ∀ n, cand h [x] n ↔ n ∈ e.ins := fun n => by
          constructor
          · rintro ⟨y, hy, f, hf, h1, h2⟩
            rw [List.mem_singleton.1 hy] at hf h1
            have h3 : eqH e.key f.key = true := eqH_trans (eqH_symm he2) h1
            obtain ⟨a, ha⟩ := List.getElem?_of_mem hf
            have hpw := hk x (by simp)
            by_cases hai : a = i
            · rw [hai] at ha
              rw [Nat.sub_zero] at he1
              rw [he1] at ha
              cases ha
              exact h2
            · rw [Nat.sub_zero] at he1
              rw [List.pairwise_iff_getElem] at hpw
              obtain ⟨a1, a2⟩ := List.getElem?_eq_some_iff.1 ha
              obtain ⟨i1, i2⟩ := List.getElem?_eq_some_iff.1 he1
              rcases Nat.lt_or_ge a i with hl | hl
              · have := hpw a i a1 i1 hl
                rw [a2, i2, eqH_symm h3] at this
                cases this
              · have := hpw i a i1 a1 (by omega)
                rw [a2, i2, h3] at this
                cases this
          · intro h1
            exact ⟨x, by simp, e, hem, he2, h1⟩
        have hhd : e.ins.headD (0, 0) = c := by rw [hcr]; rfl
        simp only [hhd]
        cases eb : btr c b
        · simp only [cond_false]
          refine rec_ (P' := fun n => P n ∨ cand h [x] n) ?_ fun n => Iff.rfl
          simp only [btr, Bool.or_eq_false_iff, decide_eq_false_iff_not] at eb
          rcases hb with ⟨h1, _⟩ | ⟨h1, h2, h3⟩
          · exact absurd h1 eb.1
          · refine .inr ⟨h1, .inl h2, fun n hn => ?_⟩
            rcases hn with hn | hn
            · exact h3 n hn
            · have h4 := hcmin n ((hcx n).1 hn)
              have h5 : ltIn c b = false := by
                simp only [ltIn, Bool.or_eq_false_iff, decide_eq_false_iff_not]
                exact ⟨eb.2.1, eb.2.2⟩
              exact ordIn.ntr _ _ _ h4 h5
        · simp only [cond_true]
          refine rec_ (P' := fun n => P n ∨ cand h [x] n) ?_ fun n => Iff.rfl
          refine .inr ⟨hc0, .inr ((hcx c).2 hcm), fun n hn => ?_⟩
          rcases hn with hn | hn
          · rcases hb with ⟨_, h2⟩ | ⟨h1, h2, h3⟩
            · exact absurd hn (h2 n)
            · have h4 : ltIn c b = true := by
                simp only [btr, Bool.or_eq_true, decide_eq_true_eq] at eb
                rcases eb with eb | eb
                · omega
                · simp only [ltIn, Bool.or_eq_true, decide_eq_true_eq]
                  exact eb
              cases h5 : ltIn n c with
              | false => rfl
              | true => have := ordIn.tr _ _ _ h5 h4; rw [h3 n hn] at this; cases this
          · exact hcmin n ((hcx n).1 hn)
    · rw [Bool.and_eq_true, decide_eq_true_eq, decide_eq_true_eq] at e1
      simp only [cond_true]
      rcases hb with ⟨h1, _⟩ | ⟨h1, h2, h3⟩
      · omega
      · refine .inr ⟨h1, .inl h2, fun n hn => ?_⟩
        rcases hn with hn | ⟨y, hy, e, he, _, h5⟩
        · exact h3 n hn
        · have hyg : y.g ≤ x.g := by
            rcases List.mem_cons.1 hy with rfl | hy
            · exact Int.le_refl _
            · have := r1 y hy
              simp [ltR] at this
              exact this
          have := (ht y hy e he n h5).1
          simp only [ltIn, Bool.or_eq_false_iff, Bool.and_eq_false_iff, decide_eq_false_iff_not]
          refine ⟨by omega, .inl (by omega)⟩
end Go.Proofs.Ytffhmbdpmpgddaa
