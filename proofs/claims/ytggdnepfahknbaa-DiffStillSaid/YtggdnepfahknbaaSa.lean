/- Merging and stable sorting, in plain Lean. No condition. -/
import Derived.Test.YtggdnepfahknbaaAm9
namespace Go.Proofs.Ytggdnepfahknbaa
open Go Ab
set_option linter.unusedSimpArgs false
set_option linter.unusedVariables false

/-- The order that a comparison tells: what is less than what, with ties. -/
structure Ord (α : Type) (lt : α → α → Bool) : Prop where
  irr : ∀ a, lt a a = false
  tr : ∀ a b c, lt a b = true → lt b c = true → lt a c = true
  ntr : ∀ a b c, lt a b = false → lt b c = false → lt a c = false

section
variable {α : Type} {lt : α → α → Bool}

/-- Two lists merged: of equals the left one's first. -/
def mrg (lt : α → α → Bool) : List α → List α → List α
  | [], r => r
  | x :: l, [] => x :: l
  | x :: l, y :: r => bif lt y x then y :: mrg lt (x :: l) r else x :: mrg lt l (y :: r)
termination_by l r => l.length + r.length

theorem mrg_nil_l (r : List α) : mrg lt [] r = r := by unfold mrg; rfl
theorem mrg_nil_r : ∀ l : List α, mrg lt l [] = l
  | [] => mrg_nil_l []
  | x :: l => by unfold mrg; rfl
theorem mrg_lt {x y : α} {l r : List α} (h : lt y x = true) : mrg lt (x :: l) (y :: r) = y :: mrg lt (x :: l) r := by rw [mrg, h]; rfl
theorem mrg_ge {x y : α} {l r : List α} (h : lt y x = false) : mrg lt (x :: l) (y :: r) = x :: mrg lt l (y :: r) := by rw [mrg, h]; rfl

theorem mrg_len : ∀ l r : List α, (mrg lt l r).length = l.length + r.length
  | [], r => by rw [mrg_nil_l]; simp
  | x :: l, [] => by rw [mrg_nil_r]; simp
  | x :: l, y :: r => by
    cases h : lt y x with
    | true => rw [mrg_lt h, List.length_cons, mrg_len (x :: l) r]; simp; omega
    | false => rw [mrg_ge h, List.length_cons, mrg_len l (y :: r)]; simp; omega
termination_by l r => l.length + r.length

theorem mrg_perm : ∀ l r : List α, (mrg lt l r).Perm (l ++ r)
  | [], r => by rw [mrg_nil_l]; exact .refl _
  | x :: l, [] => by rw [mrg_nil_r, List.append_nil]
  | x :: l, y :: r => by
    cases h : lt y x with
    | true =>
      rw [mrg_lt h]
      refine ((mrg_perm (x :: l) r).cons y).trans ?_
      exact (List.perm_middle (l₁ := x :: l)).symm
    | false =>
      rw [mrg_ge h]
      exact (mrg_perm l (y :: r)).cons x
termination_by l r => l.length + r.length

/-- Nothing is less than what stands ahead of it. -/
def srt (lt : α → α → Bool) (l : List α) : Prop := l.Pairwise fun a b => lt b a = false

theorem srt_mrg (ho : Ord α lt) : ∀ l r : List α, srt lt l → srt lt r → srt lt (mrg lt l r)
  | [], r, _, h => by rw [mrg_nil_l]; exact h
  | x :: l, [], h, _ => by rw [mrg_nil_r]; exact h
  | x :: l, y :: r, hl, hr => by
    obtain ⟨l1, l2⟩ := List.pairwise_cons.1 hl
    obtain ⟨r1, r2⟩ := List.pairwise_cons.1 hr
    cases h : lt y x with
    | true =>
      rw [mrg_lt h]
      refine List.pairwise_cons.2 ⟨fun z hz => ?_, srt_mrg ho (x :: l) r hl r2⟩
      have hxy : lt x y = false := by
        cases hq : lt x y with
        | false => rfl
        | true => have := ho.tr _ _ _ h hq; rw [ho.irr] at this; cases this
      rcases List.mem_append.1 ((mrg_perm _ _).mem_iff.1 hz) with hz | hz
      · rcases List.mem_cons.1 hz with rfl | hz
        · exact hxy
        · exact ho.ntr _ _ _ (l1 z hz) hxy
      · exact r1 z hz
    | false =>
      rw [mrg_ge h]
      refine List.pairwise_cons.2 ⟨fun z hz => ?_, srt_mrg ho l (y :: r) l2 hr⟩
      rcases List.mem_append.1 ((mrg_perm _ _).mem_iff.1 hz) with hz | hz
      · exact l1 z hz
      · rcases List.mem_cons.1 hz with rfl | hz
        · exact h
        · exact ho.ntr _ _ _ (r1 z hz) h
termination_by l r => l.length + r.length

/-- All of the left one is ahead of all of the right one. -/
theorem mrg_before : ∀ l r : List α, (∀ x ∈ l, ∀ y ∈ r, lt y x = false) → mrg lt l r = l ++ r
  | [], r, _ => by rw [mrg_nil_l]; rfl
  | x :: l, [], _ => by rw [mrg_nil_r, List.append_nil]
  | x :: l, y :: r, h => by
    rw [mrg_ge (h x (by simp) y (by simp)), mrg_before l (y :: r) fun a ha b hb => h a (by simp [ha]) b hb]
    rfl
/-- All of the right one is less than all of the left one. -/
theorem mrg_behind : ∀ l r : List α, (∀ x ∈ l, ∀ y ∈ r, lt y x = true) → mrg lt l r = r ++ l
  | [], r, _ => by rw [mrg_nil_l, List.append_nil]
  | x :: l, [], _ => by rw [mrg_nil_r]; rfl
  | x :: l, y :: r, h => by
    rw [mrg_lt (h x (by simp) y (by simp)), mrg_behind (x :: l) r fun a ha b hb => h a ha b (by simp [hb])]
    rfl

/-- A merge falls into two, where the one's front comes ahead of the other one's end, both ways. -/
theorem mrg_split : ∀ l1 l2 r1 r2 : List α, (∀ x ∈ l1, ∀ y ∈ r2, lt y x = false) → (∀ x ∈ l2, ∀ y ∈ r1, lt y x = true) → mrg lt (l1 ++ l2) (r1 ++ r2) = mrg lt l1 r1 ++ mrg lt l2 r2
  | [], l2, [], r2, _, _ => by simp only [List.nil_append, mrg_nil_l]
  | [], l2, y :: r1, r2, h1, h2 => by
    cases l2 with
    | nil => simp only [List.nil_append, mrg_nil_l]
    | cons x l2 =>
      simp only [List.nil_append, List.cons_append, mrg_nil_l]
      rw [mrg_lt (h2 x (by simp) y (by simp))]
      have := mrg_split [] (x :: l2) r1 r2 (fun a ha => by cases ha) fun a ha b hb => h2 a ha b (by simp [hb])
      simp only [List.nil_append, mrg_nil_l] at this
      rw [this]
  | x :: l1, l2, [], r2, h1, h2 => by
    cases r2 with
    | nil => simp only [List.append_nil, mrg_nil_r]
    | cons y r2 =>
      simp only [List.nil_append, List.cons_append, mrg_nil_r]
      rw [mrg_ge (h1 x (by simp) y (by simp))]
      have := mrg_split l1 l2 [] (y :: r2) (fun a ha b hb => h1 a (by simp [ha]) b hb) fun a ha b hb => by cases hb
      simp only [List.nil_append, mrg_nil_r] at this
      rw [this]
  | x :: l1, l2, y :: r1, r2, h1, h2 => by
    simp only [List.cons_append]
    cases h : lt y x with
    | true =>
      rw [mrg_lt h, mrg_lt h, ← List.cons_append, mrg_split (x :: l1) l2 r1 r2 h1 fun a ha b hb => h2 a ha b (by simp [hb])]
      rfl
    | false =>
      rw [mrg_ge h, mrg_ge h, ← List.cons_append, mrg_split l1 l2 (y :: r1) r2 (fun a ha b hb => h1 a (by simp [ha]) b hb) h2]
      rfl
termination_by l1 _ r1 _ => l1.length + r1.length

theorem mrg_assoc (ho : Ord α lt) : ∀ a b c : List α, mrg lt (mrg lt a b) c = mrg lt a (mrg lt b c)
  | [], b, c => by rw [mrg_nil_l, mrg_nil_l]
  | x :: a, [], c => by rw [mrg_nil_r, mrg_nil_l]
  | x :: a, y :: b, [] => by rw [mrg_nil_r, mrg_nil_r]
  | x :: a, y :: b, z :: c => by
    cases hyx : lt y x with
    | true =>
      rw [mrg_lt hyx]
      cases hzy : lt z y with
      | true =>
        rw [mrg_lt hzy, mrg_lt hzy, mrg_lt (ho.tr _ _ _ hzy hyx), ← mrg_lt hyx, mrg_assoc ho (x :: a) (y :: b) c]
      | false =>
        rw [mrg_ge hzy, mrg_ge hzy, mrg_lt hyx, mrg_assoc ho (x :: a) b (z :: c)]
    | false =>
      rw [mrg_ge hyx]
      cases hzy : lt z y with
      | true =>
        rw [mrg_lt hzy]
        cases hzx : lt z x with
        | true => rw [mrg_lt hzx, mrg_lt hzx, ← mrg_ge hyx, mrg_assoc ho (x :: a) (y :: b) c]
        | false => rw [mrg_ge hzx, mrg_ge hzx, mrg_assoc ho a (y :: b) (z :: c), mrg_lt hzy]
      | false =>
        have hzx : lt z x = false := ho.ntr _ _ _ hzy hyx
        rw [mrg_ge hzy, mrg_ge hzx, mrg_ge hyx, mrg_assoc ho a (y :: b) (z :: c), mrg_ge hzy]
termination_by a b c => a.length + b.length + c.length

/-- The stable sort. -/
def ssort (lt : α → α → Bool) : List α → List α
  | [] => []
  | x :: l => mrg lt [x] (ssort lt l)
theorem ssort_app (ho : Ord α lt) : ∀ a b : List α, ssort lt (a ++ b) = mrg lt (ssort lt a) (ssort lt b)
  | [], b => by rw [ssort, mrg_nil_l]; rfl
  | x :: a, b => by
    show mrg lt [x] (ssort lt (a ++ b)) = mrg lt (mrg lt [x] (ssort lt a)) (ssort lt b)
    rw [ssort_app ho a b, mrg_assoc ho]
theorem ssort_one (x : α) : ssort lt [x] = [x] := by rw [ssort, ssort, mrg_nil_r]
theorem ssort_perm : ∀ l : List α, (ssort lt l).Perm l
  | [] => .refl _
  | x :: l => ((mrg_perm [x] _).trans ((ssort_perm l).cons x))
theorem ssort_srt (ho : Ord α lt) : ∀ l : List α, srt lt (ssort lt l)
  | [] => List.Pairwise.nil
  | x :: l => srt_mrg ho _ _ (List.pairwise_singleton _ _) (ssort_srt ho l)
theorem ssort_len (l : List α) : (ssort lt l).length = l.length := (ssort_perm l).length_eq
/-- What is sorted stays. -/
theorem ssort_of : ∀ l : List α, srt lt l → ssort lt l = l
  | [], _ => rfl
  | x :: l, h => by
    obtain ⟨h1, h2⟩ := List.pairwise_cons.1 h
    rw [ssort, ssort_of l h2, mrg_before [x] l (by simpa using h1)]
    rfl
end
end Go.Proofs.Ytggdnepfahknbaa
