/- Rows as functions of the place: pieces, swaps, turns; what binary search finds. No condition. -/
import Derived.Test.YtggdnepfahknbaaSa
namespace Go.Proofs.Ytggdnepfahknbaa
open Go Ab
set_option linter.unusedSimpArgs false
set_option linter.unusedVariables false

section
variable {α : Type} {lt : α → α → Bool}

/-- What stands from a on, as far as b. -/
def seg (f : Nat → α) (a b : Nat) : List α := (List.range (b - a)).map fun i => f (a + i)
theorem seg_len (f : Nat → α) (a b : Nat) : (seg f a b).length = b - a := by simp [seg]
theorem seg_get (f : Nat → α) {a b i : Nat} (h : i < b - a) : (seg f a b)[i]? = some (f (a + i)) := by simp [seg, h]
theorem seg_none (f : Nat → α) {a b : Nat} (h : b ≤ a) : seg f a b = [] := by
  unfold seg
  rw [show b - a = 0 by omega]
  rfl
theorem seg_ext {f g : Nat → α} {a b : Nat} (h : ∀ i, a ≤ i → i < b → f i = g i) : seg f a b = seg g a b := by
  unfold seg
  refine List.map_congr_left fun i hi => h _ (by omega) ?_
  have := List.mem_range.1 hi
  omega
theorem seg_app (f : Nat → α) {a b c : Nat} (h1 : a ≤ b) (h2 : b ≤ c) : seg f a c = seg f a b ++ seg f b c := by
  apply List.ext_getElem?
  intro i
  by_cases h : i < b - a
  · rw [List.getElem?_append_left (by rw [seg_len]; exact h), seg_get f h, seg_get f (by omega)]
  · rw [List.getElem?_append_right (by rw [seg_len]; omega), seg_len]
    by_cases h3 : i < c - a
    · rw [seg_get f h3, seg_get f (by omega)]
      congr 2; omega
    · rw [List.getElem?_eq_none (by rw [seg_len]; omega), List.getElem?_eq_none (by rw [seg_len]; omega)]
theorem seg_one (f : Nat → α) (a : Nat) : seg f a (a + 1) = [f a] := by
  unfold seg
  rw [show a + 1 - a = 1 by omega]
  rfl
theorem seg_snoc (f : Nat → α) {a b : Nat} (h : a ≤ b) : seg f a (b + 1) = seg f a b ++ [f b] := by rw [seg_app f h (Nat.le_succ b), seg_one]
theorem mem_seg {f : Nat → α} {a b : Nat} {x : α} : x ∈ seg f a b ↔ ∃ i, a ≤ i ∧ i < b ∧ x = f i := by
  unfold seg
  rw [List.mem_map]
  constructor
  · rintro ⟨i, h, rfl⟩
    have := List.mem_range.1 h
    exact ⟨a + i, by omega, by omega, rfl⟩
  · rintro ⟨i, h1, h2, rfl⟩
    exact ⟨i - a, List.mem_range.2 (by omega), by rw [show a + (i - a) = i by omega]⟩
theorem seg_shift {f g : Nat → α} {a b c d : Nat} (hl : b - a = d - c) (h : ∀ i, i < b - a → f (a + i) = g (c + i)) : seg f a b = seg g c d := by
  unfold seg
  rw [← hl]
  exact List.map_congr_left fun i hi => h i (List.mem_range.1 hi)
/-- Two functions that tell the same pieces. -/
theorem seg_inj {f g : Nat → α} {a b : Nat} (h : seg f a b = seg g a b) : ∀ i, a ≤ i → i < b → f i = g i := by
  intro i h1 h2
  have e1 := seg_get f (a := a) (b := b) (i := i - a) (by omega)
  have e2 := seg_get g (a := a) (b := b) (i := i - a) (by omega)
  rw [h, e2] at e1
  rw [show a + (i - a) = i by omega] at e1
  exact (Option.some.inj e1).symm
/-- Every list is a piece. -/
theorem seg_of (l : List α) (d : α) : seg (fun i => l.getD i d) 0 l.length = l := by
  apply List.ext_getElem?
  intro i
  rcases Nat.lt_or_ge i l.length with h | h
  · rw [seg_get _ (by omega), Nat.zero_add, List.getElem?_eq_getElem h]
    simp [h]
  · rw [List.getElem?_eq_none (by rw [seg_len]; omega), List.getElem?_eq_none h]

/-- One place is written. -/
def up (f : Nat → α) (i : Nat) (x : α) : Nat → α := fun j => if j = i then x else f j
theorem seg_set (f : Nat → α) (n i : Nat) (x : α) : (seg f 0 n).set i x = seg (up f i x) 0 n := by
  apply List.ext_getElem?
  intro j
  rw [List.getElem?_set]
  by_cases h : i = j
  · subst h
    by_cases hi : i < n
    · rw [if_pos rfl, if_pos (by rw [seg_len]; omega), seg_get _ (by omega)]
      simp [up]
    · rw [if_pos rfl, if_neg (by rw [seg_len]; omega), List.getElem?_eq_none (by rw [seg_len]; omega)]
  · rw [if_neg h]
    by_cases hj : j < n
    · rw [seg_get _ (by omega), seg_get _ (by omega)]
      have : ¬ 0 + j = i := by omega
      simp only [up, if_neg this]
    · rw [List.getElem?_eq_none (by rw [seg_len]; omega), List.getElem?_eq_none (by rw [seg_len]; omega)]
theorem seg_map {β : Type} (e : α → β) (f : Nat → α) (a b : Nat) : (seg f a b).map e = seg (fun i => e (f i)) a b := by
  unfold seg
  rw [List.map_map]
  rfl

/-- Two blocks of k change places. -/
def swf (f : Nat → α) (a b k : Nat) : Nat → α := fun x => if a ≤ x ∧ x < a + k then f (b + (x - a)) else if b ≤ x ∧ x < b + k then f (a + (x - b)) else f x
theorem swf_zero (f : Nat → α) (a b : Nat) : swf f a b 0 = f := by
  funext x
  unfold swf
  rw [if_neg (by omega), if_neg (by omega)]
theorem swf_step (f : Nat → α) {a b k : Nat} (h : a + k < b) : up (up (swf f a b k) (a + k) (swf f a b k (b + k))) (b + k) (swf f a b k (a + k)) = swf f a b (k + 1) := by
  funext x
  have e1 : swf f a b k (b + k) = f (b + k) := by unfold swf; rw [if_neg (by omega), if_neg (by omega)]
  have e2 : swf f a b k (a + k) = f (a + k) := by unfold swf; rw [if_neg (by omega), if_neg (by omega)]
  rw [e1, e2]
  unfold up
  by_cases h1 : x = b + k
  · subst h1
    rw [if_pos rfl]
    unfold swf
    rw [if_neg (by omega), if_pos (by omega)]
    congr 1; omega
  · rw [if_neg h1]
    by_cases h2 : x = a + k
    · subst h2
      rw [if_pos rfl]
      unfold swf
      rw [if_pos (by omega)]
      congr 1; omega
    · rw [if_neg h2]
      unfold swf
      by_cases h3 : a ≤ x ∧ x < a + k
      · rw [if_pos h3, if_pos (by omega)]
      · rw [if_neg h3]
        by_cases h4 : b ≤ x ∧ x < b + k
        · rw [if_pos h4, if_neg (by omega), if_pos (by omega)]
        · rw [if_neg h4, if_neg (by omega), if_neg (by omega)]

/-- What stands from a to m goes behind what stands from m to b. -/
def rot (f : Nat → α) (a m b : Nat) : Nat → α := fun x => if a ≤ x ∧ x < b then (if x < a + (b - m) then f (x + (m - a)) else f (x - (b - m))) else f x
theorem rot_l {f : Nat → α} {a b : Nat} : rot f a a b = f := by
  funext x
  unfold rot
  by_cases h : a ≤ x ∧ x < b
  · rw [if_pos h, if_pos (by omega), show x + (a - a) = x by omega]
  · rw [if_neg h]
theorem rot_r {f : Nat → α} {a b : Nat} : rot f a b b = f := by
  funext x
  unfold rot
  by_cases h : a ≤ x ∧ x < b
  · rw [if_pos h, if_neg (by omega), show x - (b - b) = x by omega]
  · rw [if_neg h]
theorem rot_eq {f : Nat → α} {m i : Nat} (h : i ≤ m) : swf f (m - i) m i = rot f (m - i) m (m + i) := by
  funext x
  unfold rot swf
  repeat' split
  all_goals first | rfl | (exfalso; omega) | (congr 1; omega)
theorem rot_gt {f : Nat → α} {m i j : Nat} (h : i ≤ m) (hj : j < i) : rot (swf f (m - i) m j) (m - (i - j)) m (m + j) = rot f (m - i) m (m + j) := by
  funext x
  unfold rot swf
  repeat' split
  all_goals first | rfl | (exfalso; omega) | (congr 1; omega)
theorem rot_lt {f : Nat → α} {m i j : Nat} (h : i ≤ m) (hj : i < j) : rot (swf f (m - i) (m + j - i) i) (m - i) m (m + (j - i)) = rot f (m - i) m (m + j) := by
  funext x
  unfold rot swf
  repeat' split
  all_goals first | rfl | (exfalso; omega) | (congr 1; omega)
theorem rot_out {f : Nat → α} {a m b x : Nat} (h : x < a ∨ b ≤ x) : rot f a m b x = f x := by
  unfold rot
  rw [if_neg (by omega)]
theorem seg_rot1 {f : Nat → α} {a m b : Nat} (h1 : a ≤ m) (h2 : m ≤ b) : seg (rot f a m b) a (a + (b - m)) = seg f m b := by
  refine seg_shift (by omega) fun i hi => ?_
  unfold rot
  rw [if_pos (by omega), if_pos (by omega)]
  congr 1; omega
theorem seg_rot2 {f : Nat → α} {a m b : Nat} (h1 : a ≤ m) (h2 : m ≤ b) : seg (rot f a m b) (a + (b - m)) b = seg f a m := by
  refine seg_shift (by omega) fun i hi => ?_
  unfold rot
  rw [if_pos (by omega), if_neg (by omega)]
  congr 1; omega
theorem seg_rot {f : Nat → α} {a m b : Nat} (h1 : a ≤ m) (h2 : m ≤ b) : seg (rot f a m b) a b = seg f m b ++ seg f a m := by
  rw [seg_app _ (show a ≤ a + (b - m) by omega) (by omega), seg_rot1 h1 h2, seg_rot2 h1 h2]
/-- One goes a place down. -/
theorem rot_down {f : Nat → α} {j i : Nat} (h : j < i) : up (up (rot f (j + 1) i (i + 1)) (j + 1) (rot f (j + 1) i (i + 1) j)) j (rot f (j + 1) i (i + 1) (j + 1)) = rot f j i (i + 1) := by
  funext x
  have e1 : rot f (j + 1) i (i + 1) j = f j := rot_out (by omega)
  have e2 : rot f (j + 1) i (i + 1) (j + 1) = f i := by
    unfold rot
    rw [if_pos (by omega), if_pos (by omega)]
    congr 1; omega
  rw [e1, e2]
  unfold up rot
  by_cases h1 : x = j
  · subst h1
    rw [if_pos rfl, if_pos (by omega), if_pos (by omega)]
    congr 1; omega
  · rw [if_neg h1]
    by_cases h2 : x = j + 1
    · subst h2
      rw [if_pos rfl, if_pos (by omega), if_neg (by omega)]
      congr 1; omega
    · rw [if_neg h2]
      by_cases h3 : j + 1 ≤ x ∧ x < i + 1
      · rw [if_pos h3, if_neg (by omega), if_pos (by omega), if_neg (by omega)]
      · rw [if_neg h3, if_neg (by omega)]
/-- One goes a place up. -/
theorem rot_up {f : Nat → α} {a k : Nat} (h : a ≤ k) : up (up (rot f a (a + 1) (k + 1)) k (rot f a (a + 1) (k + 1) (k + 1))) (k + 1) (rot f a (a + 1) (k + 1) k) = rot f a (a + 1) (k + 2) := by
  funext x
  have e1 : rot f a (a + 1) (k + 1) (k + 1) = f (k + 1) := rot_out (by omega)
  have e2 : rot f a (a + 1) (k + 1) k = f a := by
    unfold rot
    rw [if_pos (by omega), if_neg (by omega)]
    congr 1; omega
  rw [e1, e2]
  unfold up rot
  by_cases h1 : x = k + 1
  · subst h1
    rw [if_pos rfl, if_pos (by omega), if_neg (by omega)]
    congr 1; omega
  · rw [if_neg h1]
    by_cases h2 : x = k
    · subst h2
      rw [if_pos rfl, if_pos (by omega), if_pos (by omega)]
      congr 1; omega
    · rw [if_neg h2]
      by_cases h3 : a ≤ x ∧ x < k + 1
      · rw [if_pos h3, if_pos (by omega), if_pos (by omega), if_pos (by omega)]
      · rw [if_neg h3, if_neg (by omega)]

/-- In order, told by places. -/
def srf (lt : α → α → Bool) (f : Nat → α) (a b : Nat) : Prop := ∀ x y, a ≤ x → x ≤ y → y < b → lt (f y) (f x) = false
theorem srt_seg (ho : Ord α lt) {f : Nat → α} {a b : Nat} (h : srf lt f a b) : srt lt (seg f a b) := by
  unfold srt seg
  rw [List.pairwise_map]
  refine List.Pairwise.imp_of_mem (R := fun i j => i < j) (fun {i j} hi hj hij => ?_) List.pairwise_lt_range
  have := List.mem_range.1 hj
  exact h _ _ (by omega) (by omega) (by omega)
theorem srf_seg (ho : Ord α lt) {f : Nat → α} {a b : Nat} (h : srt lt (seg f a b)) : srf lt f a b := by
  intro x y h1 h2 h3
  rcases Nat.lt_or_ge x y with h4 | h4
  · unfold srt at h
    rw [List.pairwise_iff_getElem] at h
    have := h (x - a) (y - a) (by rw [seg_len]; omega) (by rw [seg_len]; omega) (by omega)
    simp only [seg, List.getElem_map, List.getElem_range] at this
    rw [show a + (x - a) = x by omega, show a + (y - a) = y by omega] at this
    exact this
  · rw [show x = y by omega]
    exact ho.irr _
theorem srf_sub {f : Nat → α} {a b c d : Nat} (h : srf lt f a b) (h1 : a ≤ c) (h2 : d ≤ b) : srf lt f c d := fun x y k1 k2 k3 => h x y (by omega) k2 (by omega)
theorem srf_ext {f g : Nat → α} {a b : Nat} (h : srf lt f a b) (he : ∀ i, a ≤ i → i < b → f i = g i) : srf lt g a b := fun x y k1 k2 k3 => by
  rw [← he x k1 (by omega), ← he y (by omega) k3]; exact h x y k1 k2 k3
end
end Go.Proofs.Ytggdnepfahknbaa
