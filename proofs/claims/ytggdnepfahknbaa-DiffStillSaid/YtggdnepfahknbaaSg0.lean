/- Blocks of a row, each in order. No condition. -/
import Derived.Test.YtggdnepfahknbaaSf
namespace Go.Proofs.Ytggdnepfahknbaa
open Go Ab
set_option linter.unusedSimpArgs false
set_option linter.unusedVariables false

section
variable {α : Type} {lt : α → α → Bool}
def Al (k i : Nat) : Prop := ∃ j, i = j * k
theorem al_zero (k : Nat) : Al k 0 := ⟨0, by simp⟩
theorem al_add {k i : Nat} (h : Al k i) : Al k (i + k) := by
  obtain ⟨j, rfl⟩ := h
  exact ⟨j + 1, by rw [Nat.add_mul]; omega⟩
theorem al_half {k i : Nat} (h : Al (2 * k) i) : Al k i := by
  obtain ⟨j, rfl⟩ := h
  exact ⟨j * 2, by rw [Nat.mul_assoc]⟩
theorem al_lt {k i a : Nat} (h1 : Al k i) (h2 : Al k a) (h : i < a) : i + k ≤ a := by
  obtain ⟨j, rfl⟩ := h1
  obtain ⟨l, rfl⟩ := h2
  have hjl : j < l := Nat.lt_of_mul_lt_mul_right h
  calc j * k + k = (j + 1) * k := by rw [Nat.add_mul]; omega
    _ ≤ l * k := Nat.mul_le_mul_right k hjl

/-- Up to a, each block of k is in order; from there on it is as it was. -/
structure Blk (lt : α → α → Bool) (f0 f g : Nat → α) (k a n : Nat) : Prop where
  al : Al k a
  lo : ∀ i, Al k i → i < a → seg g i (min (i + k) n) = ssort lt (seg f0 i (min (i + k) n))
  hi : ∀ x, a ≤ x → g x = f x

theorem blk_zero {f0 f : Nat → α} {k n : Nat} : Blk lt f0 f f k 0 n := ⟨al_zero k, fun _ _ h => by omega, fun _ _ => rfl⟩
/-- A whole block more. -/
theorem blk_next {f0 f g g' : Nat → α} {k a n : Nat} (h : Blk lt f0 f g k a n) (hk : 0 < k) (hn : a + k ≤ n) (h1 : seg g' a (a + k) = ssort lt (seg f0 a (a + k))) (h2 : ∀ x, (x < a ∨ a + k ≤ x) → g' x = g x) : Blk lt f0 f g' k (a + k) n := by
  refine ⟨al_add h.al, fun i hi hlt => ?_, fun x hx => (h2 x (.inr hx)).trans (h.hi x (by omega))⟩
  rcases Nat.lt_or_ge i a with h3 | h3
  · have h4 := al_lt hi h.al h3
    rw [seg_ext (g := g) fun x _ hx => h2 x (.inl (by omega))]
    exact h.lo i hi h3
  · have h4 : i = a := by
      rcases Nat.lt_or_ge a i with h5 | h5
      · have := al_lt h.al hi h5; omega
      · omega
    subst h4
    rw [show min (i + k) n = i + k by omega]
    exact h1
/-- The last block, which may be short. -/
theorem blk_last {f0 f g g' : Nat → α} {k a n : Nat} (h : Blk lt f0 f g k a n) (hk : 0 < k) (hn : n < a + k) (h1 : seg g' a n = ssort lt (seg f0 a n)) (h2 : ∀ x, x < a → g' x = g x) : ∀ i, Al k i → i ≤ n → seg g' i (min (i + k) n) = ssort lt (seg f0 i (min (i + k) n)) := by
  intro i hi hin
  rcases Nat.lt_or_ge i a with h3 | h3
  · have h4 := al_lt hi h.al h3
    rw [seg_ext (g := g) fun x _ hx => h2 x (by omega)]
    exact h.lo i hi h3
  · have h4 : i = a := by
      rcases Nat.lt_or_ge a i with h5 | h5
      · have := al_lt h.al hi h5; omega
      · omega
    subst h4
    rw [show min (i + k) n = n by omega]
    exact h1
/-- Two blocks merged. -/
theorem two_blk (ho : Ord α lt) {f0 g g' : Nat → α} {k a b n : Nat} (hall : ∀ i, Al k i → i ≤ n → seg g i (min (i + k) n) = ssort lt (seg f0 i (min (i + k) n))) (ha : Al k a) (h1 : a + k ≤ b) (h2 : b ≤ n) (h3 : b = min (a + k + k) n) (hm : Mgd lt g a (a + k) b g') : seg g' a b = ssort lt (seg f0 a b) := by
  rw [hm.1, seg_app f0 (show a ≤ a + k by omega) h1, ssort_app ho]
  have e1 := hall a ha (by omega)
  have e2 := hall (a + k) (al_add ha) (by omega)
  rw [show min (a + k) n = a + k by omega] at e1
  rw [← h3] at e2
  rw [e1, e2]
theorem blk_srf (ho : Ord α lt) {f0 g : Nat → α} {k i n b : Nat} (hall : ∀ i, Al k i → i ≤ n → seg g i (min (i + k) n) = ssort lt (seg f0 i (min (i + k) n))) (ha : Al k i) (hi : i ≤ n) (hb : b = min (i + k) n) : srf lt g i b := by
  refine srf_seg ho ?_
  rw [hb, hall i ha hi]
  exact ssort_srt ho _
end
theorem or_same {p q r s : Prop} (h : p ∨ q) (hp : p → s → r) (hq : q → s → r) (hs : s) : r := h.elim (fun a => hp a hs) (fun a => hq a hs)
end Go.Proofs.Ytggdnepfahknbaa
