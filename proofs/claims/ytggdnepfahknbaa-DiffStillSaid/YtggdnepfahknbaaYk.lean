/- What is told between two lists of rules: the plain side. No condition. -/
import Derived.Test.YtggdnepfahknbaaYi
namespace Go.Proofs.Ytggdnepfahknbaa
open Go Ab
set_option linter.unusedSimpArgs false
set_option linter.unusedVariables false
set_option maxRecDepth 20000

theorem lastL_tail {a : Ru} {t : List Ru} {o : Ru} (h : o ∈ lastL t) : o ∈ lastL (a :: t) := by
  rw [lastL_cons]
  cases t.any (pl a)
  · exact List.mem_cons_of_mem _ h
  · exact h
theorem find_last (p : Ru) : ∀ {l : List Ru} {o : Ru}, l.reverse.find? (pl p) = some o → o ∈ lastL l ∧ pl p o = true
  | [], o, h => by simp at h
  | a :: t, o, h => by
    rw [List.reverse_cons, List.find?_append] at h
    cases e : t.reverse.find? (pl p) with
    | some x =>
      rw [e] at h
      cases h
      have := find_last p e
      exact ⟨lastL_tail this.1, this.2⟩
    | none =>
      rw [e] at h
      simp only [Option.none_or, List.find?_cons] at h
      cases hp : pl p a with
      | false => rw [hp] at h; cases h
      | true =>
        rw [hp] at h
        cases h
        refine ⟨?_, hp⟩
        have : t.any (pl a) = false := by
          rw [List.any_eq_false]
          intro x hx hq
          rw [List.find?_eq_none] at e
          exact e x (by simpa using hx) (pl_trans hp hq)
        rw [lastL_cons, this]
        simp
theorem lastL_find : ∀ {l : List Ru} {r : Ru}, r ∈ lastL l → l.reverse.find? (pl r) = some r
  | [], r, h => by cases h
  | a :: t, r, h => by
    rw [List.reverse_cons, List.find?_append]
    rw [lastL_cons] at h
    cases e : t.any (pl a) with
    | true =>
      rw [e] at h
      rw [lastL_find h]
      rfl
    | false =>
      rw [e] at h
      rcases List.mem_cons.1 h with rfl | h
      · have : t.reverse.find? (pl r) = none := by
          rw [List.find?_eq_none]
          rw [List.any_eq_false] at e
          exact fun x hx => e x (by simpa using hx)
        rw [this]
        simp [List.find?_cons, pl_refl]
      · rw [lastL_find h]
        rfl
theorem find_any (p : Ru) (l : List Ru) : (l.reverse.find? (pl p)).isSome = l.any (pl p) := by
  rw [Bool.eq_iff_iff, List.find?_isSome]
  simp
theorem lastL_any (p : Ru) (l : List Ru) : (lastL l).any (pl p) = l.any (pl p) := by
  rw [Bool.eq_iff_iff]
  constructor
  · intro h
    obtain ⟨x, hx, hp⟩ := List.any_eq_true.1 h
    exact List.any_eq_true.2 ⟨x, lastL_sub hx, hp⟩
  · intro h
    rw [← find_any] at h
    obtain ⟨o, ho⟩ := Option.isSome_iff_exists.1 h
    have := find_last p ho
    exact List.any_eq_true.2 ⟨o, this.1, this.2⟩
theorem lastL_uniq {l : List Ru} {x y : Ru} (hx : x ∈ lastL l) (hy : y ∈ lastL l) (h : pl x y = true) : x = y := by
  have h1 := lastL_find hx
  have h2 := lastL_find hy
  have : pl x = pl y := funext fun c => pl_congr h c
  rw [this, h2] at h1
  exact (Option.some.inj h1).symm
/-- Is the rule as it was? -/
def sameO (r : Ru) : Option Ru → Bool
  | none => false
  | some o => decide (o.ck = r.ck) && decide (o.l = r.l)
theorem any_alk (r : Ru) (l : List Ru) : (lastL l).any (alk r) = sameO r (l.reverse.find? (pl r)) := by
  rw [Bool.eq_iff_iff]
  constructor
  · intro h
    obtain ⟨x, hx, ha⟩ := List.any_eq_true.1 h
    simp only [alk, Bool.and_eq_true, decide_eq_true_eq] at ha
    have : pl r = pl x := funext fun c => pl_congr ha.1 c
    rw [this, lastL_find hx]
    simp [sameO, ha.2.1, ha.2.2]
  · intro h
    cases e : l.reverse.find? (pl r) with
    | none => rw [e] at h; cases h
    | some o =>
      rw [e] at h
      have := find_last r e
      simp only [sameO, Bool.and_eq_true, decide_eq_true_eq] at h
      exact List.any_eq_true.2 ⟨o, this.1, by simp [alk, this.2, h.1, h.2]⟩

/-! ### What is told -/
def plR (r : Ru) : Ru := ⟨r.rank, r.w, [], 0⟩
def remL (was now : List Ru) : List Me := ((lastL was).filter fun p => !now.any (pl p)).map fun p => ⟨3, plR p⟩
def addR (was now : List Ru) : List Ru := (lastL now).filter fun r => !(lastL was).any (alk r)
def addL (was now : List Ru) : List Me := (ssort ltD (addR was now)).map fun r => ⟨0, r⟩
def btw (was now : List Ru) : List Me := remL was now ++ addL was now
theorem addR_sub {was now : List Ru} {r : Ru} (h : r ∈ addR was now) : r ∈ now := lastL_sub (List.mem_filter.1 h).1
theorem btw_wf {was now : List Ru} (h1 : ∀ r ∈ was, wfR r) (h2 : ∀ r ∈ now, wfR r) : ∀ x ∈ btw was now, wfM x := by
  intro x hx
  rcases List.mem_append.1 hx with hx | hx
  · obtain ⟨p, hp, rfl⟩ := List.mem_map.1 hx
    have := h1 p (lastL_sub (List.mem_filter.1 hp).1)
    exact ⟨this.1, this.2.1, (show 0 < lim by decide), fun c hc => by cases hc⟩
  · obtain ⟨r, hr, rfl⟩ := List.mem_map.1 hx
    exact h2 r (addR_sub ((ssort_perm _).mem_iff.1 hr))
theorem btw_len (was now : List Ru) : (btw was now).length ≤ was.length + now.length := by
  unfold btw remL addL addR
  rw [List.length_append, List.length_map, List.length_map, ssort_len]
  have h1 := List.length_filter_le (fun p => !now.any (pl p)) (lastL was)
  have h2 := List.length_filter_le (fun r => !(lastL was).any (alk r)) (lastL now)
  have h3 := lastL_len was
  have h4 := lastL_len now
  omega
theorem btw_self (l : List Ru) : btw l l = [] := by
  have h1 : ((lastL l).filter fun p => !l.any (pl p)) = [] := by
    rw [List.filter_eq_nil_iff]
    intro p hp
    have : l.any (pl p) = true := List.any_eq_true.2 ⟨p, lastL_sub hp, pl_refl p⟩
    simp [this]
  have h2 : addR l l = [] := by
    unfold addR
    rw [List.filter_eq_nil_iff]
    intro p hp
    have : (lastL l).any (alk p) = true := List.any_eq_true.2 ⟨p, hp, alk_refl p⟩
    simp [this]
  simp [btw, remL, addL, h1, h2, ssort]
theorem lastL_of_uniq : ∀ {l : List Ru}, l.Pairwise (fun x y => pl x y = false) → lastL l = l
  | [], _ => rfl
  | a :: t, h => by
    obtain ⟨h1, h2⟩ := List.pairwise_cons.1 h
    have : t.any (pl a) = false := by
      rw [List.any_eq_false]
      exact fun x hx hp => by rw [h1 x hx] at hp; cases hp
    rw [lastL_cons, this, lastL_of_uniq h2]
    rfl
theorem lastL_pw : ∀ l : List Ru, (lastL l).Pairwise fun x y => pl x y = false
  | [] => List.Pairwise.nil
  | a :: t => by
    rw [lastL_cons]
    cases e : t.any (pl a)
    · refine List.pairwise_cons.2 ⟨fun x hx => ?_, lastL_pw t⟩
      rw [List.any_eq_false] at e
      simpa using e x (lastL_sub hx)
    · exact lastL_pw t
theorem lastL_rev (l : List Ru) : lastL (lastL l).reverse = (lastL l).reverse := by
  refine lastL_of_uniq (List.pairwise_reverse.2 ((lastL_pw l).imp fun {x y} h => ?_))
  rw [pl_comm]; exact h
/-- The rules that count, in whatever order, tell nothing new. -/
theorem btw_last (l : List Ru) : btw l (lastL l).reverse = [] := by
  have h1 : ((lastL l).filter fun p => !(lastL l).reverse.any (pl p)) = [] := by
    rw [List.filter_eq_nil_iff]
    intro p hp
    have : (lastL l).reverse.any (pl p) = true := List.any_eq_true.2 ⟨p, by simpa using hp, pl_refl p⟩
    simp [this]
  have h2 : addR l (lastL l).reverse = [] := by
    unfold addR
    rw [lastL_rev, List.filter_eq_nil_iff]
    intro p hp
    have : (lastL l).any (alk p) = true := List.any_eq_true.2 ⟨p, by simpa using hp, alk_refl p⟩
    simp [this]
  unfold btw remL addL
  rw [h1, h2]
  rfl

/-! ### One more rule among sorted ones, from the end on -/
theorem mrg_one (r : Ru) : ∀ {l : List Ru}, srt ltD l → mrg ltD l [r] = l.takeWhile (fun y => !ltD r y) ++ r :: l.dropWhile (fun y => !ltD r y)
  | [], _ => by rw [mrg_nil_l]; rfl
  | x :: l, h => by
    obtain ⟨h1, h2⟩ := List.pairwise_cons.1 h
    cases e : ltD r x with
    | true =>
      rw [mrg_lt e, mrg_nil_r]
      simp [e]
    | false =>
      rw [mrg_ge e, mrg_one r h2]
      simp [e]
theorem ssort_snoc (l : List Ru) (r : Ru) : ssort ltD (l ++ [r]) = (ssort ltD l).takeWhile (fun y => !ltD r y) ++ r :: (ssort ltD l).dropWhile (fun y => !ltD r y) := by
  rw [ssort_app ordD, ssort_one, mrg_one r (ssort_srt ordD l)]
end Go.Proofs.Ytggdnepfahknbaa
