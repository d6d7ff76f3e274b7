/- ActionsFields answers true. No condition. -/
import Derived.Test.YtaoaaffddillmaaLq
namespace Go.Proofs.Ytaoaaffddillmaa
open Go Ab
set_option linter.unusedSimpArgs false
set_option linter.unusedVariables false
set_option maxRecDepth 20000

/-! ### What an action may change -/

def setsF (f : Nat) (a : Act) : Bool := decide (a.d = 0) && decide (a.f = (f : Int))
def anyC (f : Nat) (c : List Act) : Bool := c.any (setsF f)
def anyL (f : Nat) (l : List (List Act)) : Bool := l.any (anyC f)
def mayF (f : Nat) (l : List (List Act)) : Bool := decide (f = 9) || anyL f l

def okF (f : Nat) (l : List (List Act)) (h o : Hd) : Prop := o f = h f ∨ (mayF f l = true ∧ o f / 2 ^ wid f = 0)

theorem fair_set {a : Act} (h : fairA a = true) (d : a.d = 0) : 0 < widI a.f ∧ a.n / 2 ^ widI a.f = 0 := by
  unfold fairA at h
  simp only [d, decide_true, cond_true, setOk, Bool.and_eq_true, decide_eq_true_iff] at h
  exact ⟨by have := h.2.2.2.2.1; omega, h.2.2.2.2.2⟩
theorem fair_out {a : Act} (h : fairA a = true) (d : a.d = 1) : a.n ≤ 65535 := by
  unfold fairA at h
  simp only [d, show decide ((1 : Int) = 0) = false from rfl, decide_true, cond_true, cond_false, Bool.and_eq_true, decide_eq_true_iff] at h
  omega

theorem acts_ok (ps : List Nat) (f : Nat) (hf : f < 11) (l : List (List Act)) (h : Hd) : ∀ (c : List Act) (own : Hd) (out : List Hd) (p : Bool), (∀ a ∈ c, fairA a = true ∧ (setsF f a = true → anyL f l = true)) → okF f l h own → (∀ o ∈ out, okF f l h o) →
    ∀ o ∈ (acts ps c own out p).1, okF f l h o
  | [], _, _, _, _, _, ho => by simpa [acts] using ho
  | a :: r, own, out, p, hc, hown, ho => by
    have hr : ∀ a ∈ r, fairA a = true ∧ (setsF f a = true → anyL f l = true) := fun a h => hc a (by simp [h])
    obtain ⟨ha, hs⟩ := hc a (by simp)
    simp only [acts]
    cases d0 : decide (a.d = 0)
    · cases d1 : decide (a.d = 1)
      · cases decide (a.d = 2)
        · exact acts_ok ps f hf l h r own out p hr hown ho
        · exact acts_ok ps f hf l h r own out true hr hown ho
      · cases hasP ps (sent own a 9)
        · exact acts_ok ps f hf l h r own out p hr hown ho
        · refine acts_ok ps f hf l h r own (out ++ [sent own a]) p hr hown fun o h1 => ?_
          rcases List.mem_append.1 h1 with h1 | h1
          · exact ho o h1
          · simp only [List.mem_cons, List.not_mem_nil, or_false] at h1
            subst h1
            unfold sent
            split
            · exact hown
            · unfold okF setH
              by_cases h9 : f = 9
              · subst h9
                right
                have := fair_out ha (of_decide_eq_true d1)
                refine ⟨by simp [mayF], ?_⟩
                simp only [if_true]
                exact Nat.div_eq_of_lt (by show a.n < 2 ^ 16; omega)
              · simp only [if_neg h9]
                exact hown
    · refine acts_ok ps f hf l h r (own' own a) out p hr ?_ ho
      obtain ⟨q1, q2⟩ := fair_set ha (of_decide_eq_true d0)
      unfold own'
      split
      · rename_i hr
        unfold okF setH
        by_cases h9 : f = a.f.toNat
        · simp only [if_pos h9]
          right
          have e : a.f = (f : Int) := by omega
          refine ⟨?_, ?_⟩
          · have : anyL f l = true := hs (by unfold setsF; rw [d0, e]; simp)
            simp [mayF, this]
          · rw [e, widI_nat f hf] at q2
            exact q2
        · simp only [if_neg h9]
          exact hown
      · exact hown

theorem runs_ok (ps : List Nat) (f : Nat) (hf : f < 11) (l : List (List Act)) (h : Hd) : ∀ (k : List (List Act)) (out : List Hd) (p : Bool), (∀ c ∈ k, ∀ a ∈ c, fairA a = true ∧ (setsF f a = true → anyL f l = true)) → (∀ o ∈ out, okF f l h o) →
    ∀ o ∈ (runs ps h k out p).1, okF f l h o
  | [], _, _, _, ho => by simpa [runs] using ho
  | c :: r, out, p, hc, ho => by
    simp only [runs]
    exact runs_ok ps f hf l h r _ _ (fun c h => hc c (by simp [h])) (acts_ok ps f hf l h c h out p (hc c (by simp)) (.inl rfl) ho)

theorem goR_ok : ∀ (l : List (List Act)) (n : Nat), goR n l = 0 → ∀ c ∈ l, ∀ a ∈ c, fairA a = true
  | [], _, _, c, hc => by simp at hc
  | d :: r, n, h, c, hc => by
    simp only [goR] at h
    cases e : (decide (640 < n + d.length) || (decide (16 < d.length) || !(d.all fairA)))
    · rw [e] at h
      simp only [cond_false] at h
      rcases List.mem_cons.1 hc with rfl | hc
      · simp only [Bool.or_eq_false_iff, Bool.not_eq_false'] at e
        exact List.all_eq_true.1 e.2.2
      · exact goR_ok r _ h c hc
    · rw [e] at h
      simp at h
theorem chkR_ok {r : Rul} (h : chkR r = 0) : ∀ c ∈ r.l, ∀ a ∈ c, fairA a = true := by
  unfold chkR at h
  cases e : chk r.m
  · rw [e] at h; simp at h
  · rw [e] at h
    simp only [cond_true] at h
    cases e2 : decide (64 < r.l.length)
    · rw [e2] at h
      exact goR_ok r.l 0 h
    · rw [e2] at h; simp at h
theorem fields_law (ps : List Nat) (h : Hd) (r : Rul) (hr : chkR r = 0) {f : Nat} (hf : f < 11) : ∀ o ∈ (runs ps h r.l [] false).1, okF f r.l h o := by
  refine runs_ok ps f hf r.l h r.l [] false (fun c hc a ha => ⟨chkR_ok hr c hc a ha, fun hs => ?_⟩) (by simp)
  unfold anyL
  rw [List.any_eq_true]
  refine ⟨c, hc, ?_⟩
  unfold anyC
  rw [List.any_eq_true]
  exact ⟨a, ha, hs⟩
end Go.Proofs.Ytaoaaffddillmaa
