/- Sums, in plain Lean. No condition. -/
import Derived.Test.YtpmbhjmlghoogaaNr
namespace Go.Proofs.Ytpmbhjmlghoogaa
open Go Ab
set_option linter.unusedSimpArgs false
set_option linter.unusedVariables false
set_option maxRecDepth 20000

theorem foldS_mod (n : Nat) : foldS n % 65535 = n % 65535 := by
  induction n using Nat.strongRecOn with
  | _ n ih =>
    by_cases h : n < 65536
    · rw [foldS_small h]
    · rw [← foldS_step h, ih _ (by omega)]
      omega
theorem foldS_pos (n : Nat) (h0 : 0 < n) : 0 < foldS n := by
  induction n using Nat.strongRecOn with
  | _ n ih =>
    by_cases h : n < 65536
    · rw [foldS_small h]; exact h0
    · rw [← foldS_step h]
      exact ih _ (by omega) (by omega)
/-- What is no more than a word's greatest, for a number that 65535 goes into. -/
theorem foldS_full {n : Nat} (h0 : 0 < n) (h : n % 65535 = 0) : foldS n = 65535 := by
  have h1 := foldS_mod n
  have h2 := foldS_pos n h0
  have h3 := foldS_lt n
  omega
theorem psum_app (l r : List Nat) : ∀ j, j ≤ l.length → psum (l ++ r) j = psum l j
  | 0, _ => rfl
  | j + 1, h => by
    have ih := psum_app l r j (by omega)
    simp only [psum, ih]
    congr 2
    simp [List.getD, List.getElem?_append_left (show j < l.length by omega)]
theorem sum_zero (l : List Nat) (he : l.length % 2 = 0) : sumR (l ++ [sumR l / 256, sumR l % 256]) = 0 := by
  have hs := sumR_lt l
  have hf := foldS_mod (psum l l.length)
  have hlt := foldS_lt (psum l l.length)
  have hs2 : sumR l = 65535 - foldS (psum l l.length) := rfl
  generalize hS : sumR l = s at hs hs2
  have e : psum (l ++ [s / 256, s % 256]) (l ++ [s / 256, s % 256]).length = psum l l.length + s := by
    have hl : (l ++ [s / 256, s % 256]).length = l.length + 1 + 1 := by simp
    rw [hl]
    simp only [psum, psum_app l _ l.length (Nat.le_refl _)]
    have g0 : (l ++ [s / 256, s % 256]).getD l.length 0 = s / 256 := by simp [List.getD]
    have g1 : (l ++ [s / 256, s % 256]).getD (l.length + 1) 0 = s % 256 := by simp [List.getD]
    rw [g0, g1]
    have w0 : wgt l.length = 256 := by simp [wgt, he]
    have w1 : wgt (l.length + 1) = 1 := by
      unfold wgt
      rw [if_neg (by omega)]
    rw [w0, w1]
    omega
  unfold sumR
  rw [e]
  have : foldS (psum l l.length + s) = 65535 := by
    apply foldS_full
    · by_cases h : s = 0
      · have : foldS (psum l l.length) = 65535 := by omega
        have : psum l l.length ≠ 0 := by
          intro h2
          rw [h2, foldS_small (by omega)] at this
          omega
        omega
      · omega
    · omega
  omega
theorem psum_set : ∀ (l : List Nat) (i v n : Nat), i < n → i < l.length → psum (l.set i v) n + l.getD i 0 * wgt i = psum l n + v * wgt i
  | l, i, v, 0, h, _ => by omega
  | l, i, v, n + 1, h, hl => by
    simp only [psum]
    have far : ∀ (m : Nat), m ≤ i → psum (l.set i v) m = psum l m := by
      intro m
      induction m with
      | zero => intro _; rfl
      | succ m ih =>
        intro hm
        simp only [psum, ih (by omega)]
        congr 2
        simp only [List.getD]
        rw [List.getElem?_set_ne (by omega)]
    by_cases hi : i = n
    · subst hi
      rw [far i (Nat.le_refl _)]
      have : (l.set i v).getD i 0 = v := by simp [List.getD, hl]
      rw [this]
      omega
    · have ih := psum_set l i v n (by omega) hl
      have : (l.set i v).getD n 0 = l.getD n 0 := by
        simp only [List.getD]
        rw [List.getElem?_set_ne hi]
      rw [this]
      omega
/-- An IPv4 head's own sum is none. -/
theorem head_mod (h : Hd) (n : Nat) : psum (headR h n) 20 % 65535 = 0 := by
  unfold headR setS
  have hx : (hdR h n).length = 20 := hdR_len h n
  have g10 : (hdR h n).getD 10 0 = 0 := by simp [hdR, putB, List.range, List.range.loop]
  have g11 : (hdR h n).getD 11 0 = 0 := by simp [hdR, putB, List.range, List.range.loop]
  have hs2 : sumR (hdR h n) = 65535 - foldS (psum (hdR h n) 20) := by unfold sumR; rw [hx]
  have hlt := foldS_lt (psum (hdR h n) 20)
  have hf := foldS_mod (psum (hdR h n) 20)
  generalize hS : sumR (hdR h n) = s at hs2
  have p1 := psum_set (hdR h n) 10 (s / 256) 20 (by omega) (by omega)
  have p2 := psum_set ((hdR h n).set 10 (s / 256)) 11 (s % 256) 20 (by omega) (by simp [hx])
  have g11' : ((hdR h n).set 10 (s / 256)).getD 11 0 = 0 := by
    simp only [List.getD] at g11 ⊢
    rw [List.getElem?_set_ne (by omega)]
    exact g11
  rw [g10] at p1
  rw [g11'] at p2
  have w0 : wgt 10 = 256 := rfl
  have w1 : wgt 11 = 1 := rfl
  rw [w0] at p1
  rw [w1] at p2
  omega
/-- One byte of a row whose sum is none, changed: then it has one. -/
theorem spoilt_mod (l : List Nat) (i v : Nat) (hl : l.length = 20) (hi : i < 20) (hb : ∀ b ∈ l, b < 256) (hv : v < 256) (hne : v ≠ l.getD i 0) (h : psum l 20 % 65535 = 0) : psum (l.set i v) 20 % 65535 ≠ 0 := by
  have p := psum_set l i v 20 hi (by omega)
  have hg : l.getD i 0 < 256 := by
    simp only [List.getD, List.getElem?_eq_getElem (show i < l.length by omega), Option.getD_some]
    exact hb _ (List.getElem_mem _)
  generalize l.getD i 0 = g at p hg hne
  unfold wgt at p
  split at p <;> omega
end Go.Proofs.Ytpmbhjmlghoogaa
