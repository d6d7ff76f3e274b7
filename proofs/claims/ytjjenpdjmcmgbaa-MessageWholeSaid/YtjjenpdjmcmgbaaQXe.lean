/- Lists that grow while they are read. No condition. -/
import Derived.Test.YtjjenpdjmcmgbaaQXd
import Derived.Test.YtjjenpdjmcmgbaaQZc
namespace Go.Proofs.Ytjjenpdjmcmgbaa
open Go Ab
set_option linter.unusedSimpArgs false
set_option linter.unusedVariables false
set_option maxRecDepth 20000
/-- So many elements, one behind the other. -/
def rdMany {α : Type} (pe : List Nat → Option (α × List Nat)) (rest : List Nat) : Nat → Option (List α × List Nat)
  | 0 => some ([], rest)
  | n + 1 => (rdMany pe rest n).bind fun t => (pe t.2).map fun a => (t.1 ++ [a.1], a.2)
theorem rdMany_none {α : Type} {pe : List Nat → Option (α × List Nat)} {rest : List Nat} : ∀ {j n : Nat}, j ≤ n → rdMany pe rest j = none → rdMany pe rest n = none
  | j, 0, h, e => by
    obtain rfl : j = 0 := by omega
    exact e
  | j, n + 1, h, e => by
    rcases Nat.lt_or_ge n j with g | g
    · obtain rfl : j = n + 1 := by omega
      exact e
    · simp only [rdMany, rdMany_none g e, Option.bind_none]
theorem rdMany_len {α : Type} {pe : List Nat → Option (α × List Nat)} {rest : List Nat} : ∀ {n : Nat} {t : List α × List Nat}, rdMany pe rest n = some t → t.1.length = n
  | 0, t, e => by cases e; rfl
  | n + 1, t, e => by
    simp only [rdMany] at e
    cases h : rdMany pe rest n with
    | none => rw [h] at e; cases e
    | some u =>
      rw [h] at e
      simp only [Option.bind_some] at e
      cases g : pe u.2 with
      | none => rw [g] at e; cases e
      | some a =>
        rw [g] at e
        cases e
        simp [rdMany_len h]
/-- A list's parser: its length in two bytes, then its elements. -/
def rdL {α : Type} (pe : List Nat → Option (α × List Nat)) (rest : List Nat) : Option (List α × List Nat) := (rdN 2 rest).bind fun n => rdMany pe n.2 n.1
/-- The elements so far: no slice yet, or a row. -/
def bufR (s k : Nat) : List (List V) → V
  | [] => .nils
  | _ :: l => .sl s k 0 (l.length + 1)
theorem bufR_cons {s k : Nat} {es : List (List V)} (h : es ≠ []) : bufR s k es = .sl s k 0 es.length := by cases es <;> simp_all [bufR]
theorem bufR_snoc (s k : Nat) (es : List (List V)) (x : List V) : bufR s k (es ++ [x]) = .sl s k 0 (es.length + 1) := by rw [bufR_cons (by simp)]; simp
def killE (m : Mem) (k : Nat) (es : List (List V)) : Mem := match es with
  | [] => m
  | _ :: _ => m.set k .dead
theorem killE_len (m : Mem) (k : Nat) (es : List (List V)) : (killE m k es).length = m.length := by cases es <;> simp [killE]
theorem killE_at {m : Mem} {k n : Nat} {es : List (List V)} (h : es ≠ [] → n ≠ k) : (killE m k es)[n]? = m[n]? := by
  cases es with
  | nil => rfl
  | cons b l => exact List.getElem?_set_ne (fun e => h (by simp) e.symm)
section
variable {P : Program} {m : Mem} {t e : TypeId} {s by_ : Nat} {z x : List V}
theorem apR {es : List (List V)} {k n : Nat} (ht : P.underlying t = some (.slice e)) (hz : zeroE P e = some (z, s, by_)) (hu : isSliceT P t = true) (hby : by_ ≤ 1000) (hk : m[k]? = some (.row e s [x])) (hm : es ≠ [] → m[n]? = some (.row e s es)) (hl : es.length < 1000000) :
    appendA P t t (bufR s n es) (.sl s k 0 1) m = some (bufR s m.length (es ++ [x]), killE m n es ++ [.row e s (es ++ [x])]) := by
  rw [bufR_snoc]
  cases es with
  | nil => exact append_nil ht hz hu (cont_row hk rfl) (by simp) (by simp; omega) (by simp)
  | cons a r =>
    have hb : ((a :: r).length + [x].length) * by_ ≤ 140737488355328 := by
      have h1 : ((a :: r).length + [x].length) * by_ ≤ 1000001 * 1000 := Nat.mul_le_mul (by simp at hl ⊢; omega) hby
      omega
    have := append_sl (len := (a :: r).length) ht hz hu (cont_row hk rfl) (hm (by simp)) (by simp) hb (by simp at hl ⊢; omega)
    simpa [bufR, killE] using this
theorem bs1 {v : V} (ht : P.underlying t = some (.slice e)) (hz : zeroE P e = some (z, s, by_)) (hv : stys [v] = true) (hl : (cellsOfV v).length = s) (hs : s ≤ 1000) (hc : cellsB v = true) : bsliceV P t 1 [(0, v)] m = some (.sl s m.length 0 1, m ++ [.row e s [cellsOfV v]]) := by
  have h2 : Nat.ble 1 16777216 = true := by decide
  have h3 : frzQ P e m [(0, v)] = some ([(0, v)], m) := frzQ_nf _ _ hv
  have h4 : Nat.ble s 16777216 = true := by simp; omega
  have h5 : Nat.beq s s = true := by simp
  simp [bsliceV, ht, hz, h3, h2, h4, h5, fillE, hc, hl]
end
end Go.Proofs.Ytjjenpdjmcmgbaa
