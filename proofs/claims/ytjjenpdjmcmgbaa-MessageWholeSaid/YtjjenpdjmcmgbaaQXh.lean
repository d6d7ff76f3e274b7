/- A match among a target's cells. No condition. -/
import Derived.Test.YtjjenpdjmcmgbaaQXg
namespace Go.Proofs.Ytjjenpdjmcmgbaa
open Go Ab
set_option linter.unusedSimpArgs false
set_option linter.unusedVariables false
set_option maxRecDepth 20000
/-- These cells, with a match's numbers behind the first o. -/
def putM (l : List V) (o : Nat) (w : Nat → Nat) : List V := l.take o ++ (mC w ++ l.drop (o + 22))
def updN (w : Nat → Nat) (j a : Nat) : Nat → Nat := fun i => if i = j then a else w i
theorem mC_length (w : Nat → Nat) : (mC w).length = 22 := cl_length ..
theorem putM_at {l : List V} {o j : Nat} {w : Nat → Nat} (ho : o ≤ l.length) (hj : j < 22) : (putM l o w)[o + j]? = some (.int .u64 (w j : Int)) := by
  unfold putM
  rw [List.getElem?_append_right (by simp; omega), List.length_take, Nat.min_eq_left ho, List.getElem?_append_left (by rw [mC_length]; omega), Nat.add_sub_cancel_left]
  exact cl_get hj
theorem putM_len {l : List V} {o : Nat} {w : Nat → Nat} (ho : o + 22 ≤ l.length) : (putM l o w).length = l.length := by
  simp only [putM, List.length_append, List.length_take, List.length_drop, mC_length]
  omega
theorem mC_upd {w : Nat → Nat} {j a : Nat} (hj : j < 22) : (mC w).set j (.int .u64 (a : Int)) = mC (updN w j a) := by
  apply List.ext_getElem?
  intro i
  by_cases hi : j = i
  · subst hi
    rw [List.getElem?_set_self (by rw [mC_length]; omega)]
    exact (cl_get hj).symm ▸ by simp [mC, updN, cl_get hj]
  · rw [List.getElem?_set_ne hi]
    rcases Nat.lt_or_ge i 22 with h | h
    · simp only [mC, cl_get h, updN]
      rw [if_neg (fun e => hi e.symm)]
    · rw [List.getElem?_eq_none (by rw [mC_length]; omega), List.getElem?_eq_none (by rw [mC_length]; omega)]
theorem putM_set {l : List V} {o j a : Nat} {w : Nat → Nat} (ho : o ≤ l.length) (hj : j < 22) : (putM l o w).set (o + j) (.int .u64 (a : Int)) = putM l o (updN w j a) := by
  unfold putM
  rw [List.set_append_right _ _ (by simp; omega), List.length_take, Nat.min_eq_left ho, Nat.add_sub_cancel_left, List.set_append_left _ _ (by rw [mC_length]; omega), mC_upd hj]
/-- A match's parser behind its bits: the first j fields. -/
def rdFs (bits : Nat) (rest : List Nat) : Nat → Option ((Nat → Nat) × List Nat)
  | 0 => some (fun _ => 0, rest)
  | j + 1 => (rdFs bits rest j).bind fun t => if bits / 2 ^ j % 2 = 0 then some t else (rdN (sz j) t.2).bind fun a => (rdN (sz j) a.2).bind fun b => if b.1 = 0 then none else some (updN (updN t.1 j a.1) (11 + j) b.1, b.2)
def rdM (rest : List Nat) : Option ((Nat → Nat) × List Nat) := (rdN 2 rest).bind fun n => if n.1 / 2 ^ 11 = 0 then rdFs n.1 n.2 11 else none
end Go.Proofs.Ytjjenpdjmcmgbaa
