/- What the reference reads of each Type, plain. No condition. -/
import Derived.Test.YtjjenpdjmcmgbaaDRd
namespace Go.Proofs.Ytjjenpdjmcmgbaa
open Go Ab
set_option linter.unusedSimpArgs false
set_option linter.unusedVariables false
set_option maxRecDepth 20000
theorem nS_eq {n : Nat} {r : List Nat} {p : Nat × List Nat} (h : rdN n r = some p) : nS n (some r) = some p.2 ∧ nV n (some r) = p.1 := by
  unfold nS nV
  rw [Option.bind_some, h]
  exact ⟨rfl, rfl⟩
theorem nS_eq0 {n : Nat} {r : List Nat} (h : rdN n r = none) : nS n (some r) = none := by
  unfold nS
  rw [Option.bind_some, h]
  rfl
def Got (S' S0 : Option (List Nat)) (t : Int) (i : Nat) (x : Ms) : Prop := S' = (S0.bind (rdBody t i)).map (·.2) ∧ ∀ p, S0.bind (rdBody t i) = some p → x = p.1
theorem Got.no {t : Int} {i : Nat} {x : Ms} {S' S0 : Option (List Nat)} (h : S' = none) (e : S0.bind (rdBody t i) = none) : Got S' S0 t i x := by
  unfold Got
  rw [e]
  exact ⟨h, fun p hp => by cases hp⟩
theorem Got.yes {t : Int} {i : Nat} {x : Ms} {S' S0 : Option (List Nat)} {r : List Nat} (h : S' = some r) (e : S0.bind (rdBody t i) = some (x, r)) : Got S' S0 t i x := by
  unfold Got
  rw [e]
  exact ⟨h, fun p hp => by cases hp; rfl⟩
theorem bd4 {t : Int} {i : Nat} {S0 : Option (List Nat)} {l1 l2 : List Nat} (ht : t = 4) (h1 : ∀ p, (nS 2 S0).bind rdP = some p → l1 = p.1) (h2 : ∀ p, (((nS 2 S0).bind rdP).map (·.2)).bind rdP = some p → l2 = p.1) :
    Got (((((nS 2 S0).bind rdP).map (·.2)).bind rdP).map (·.2)) S0 t i { e0 t i with sw := nV 2 S0, ports := l1, edge := l2 } := by
  have eB : ∀ rest, rdBody t i rest = (rdN 2 rest).bind fun a => (rdP a.2).bind fun b => (rdP b.2).map fun d => ({ e0 t i with sw := a.1, ports := b.1, edge := d.1 }, d.2) := fun rest => by unfold rdBody; rw [if_pos ht]
  cases S0 with
  | none => exact .no rfl rfl
  | some r =>
    cases d1 : rdN 2 r with
    | none => exact .no (by rw [nS_eq0 d1]; rfl) (by rw [Option.bind_some, eB, d1]; rfl)
    | some a =>
      obtain ⟨s1, v1⟩ := nS_eq d1
      rw [s1, Option.bind_some] at h1 h2 ⊢
      rw [v1]
      cases d2 : rdP a.2 with
      | none => exact .no rfl (by rw [Option.bind_some, eB, d1, Option.bind_some, d2]; rfl)
      | some b =>
        have e1 := h1 b d2
        rw [d2] at h2
        rw [Option.map_some, Option.bind_some] at h2 ⊢
        cases d3 : rdP b.2 with
        | none => exact .no rfl (by rw [Option.bind_some, eB, d1, Option.bind_some, d2, Option.bind_some, d3]; rfl)
        | some d =>
          have e2 := h2 d d3
          exact .yes rfl (by rw [Option.bind_some, eB, d1, Option.bind_some, d2, Option.bind_some, d3, e1, e2]; rfl)
theorem bd5 {t : Int} {i : Nat} {S0 : Option (List Nat)} {r : Ru} (ht : t = 5) (h1 : ∀ p, (nS 1 S0).bind rdR = some p → r = p.1) :
    Got (((nS 1 S0).bind rdR).map (·.2)) S0 t i { e0 t i with dd := IntKind.i8.wrap (nV 1 S0 : Int), r := r } := by
  have eB : ∀ rest, rdBody t i rest = (rdN 1 rest).bind fun a => (rdR a.2).map fun r => ({ e0 t i with dd := IntKind.i8.wrap (a.1 : Int), r := r.1 }, r.2) := fun rest => by unfold rdBody; rw [if_neg (by omega), if_pos ht]
  cases S0 with
  | none => exact .no rfl rfl
  | some r0 =>
    cases d1 : rdN 1 r0 with
    | none => exact .no (by rw [nS_eq0 d1]; rfl) (by rw [Option.bind_some, eB, d1]; rfl)
    | some a =>
      obtain ⟨s1, v1⟩ := nS_eq d1
      rw [s1, Option.bind_some] at h1 ⊢
      rw [v1]
      cases d2 : rdR a.2 with
      | none => exact .no rfl (by rw [Option.bind_some, eB, d1, Option.bind_some, d2]; rfl)
      | some b => exact .yes rfl (by rw [Option.bind_some, eB, d1, Option.bind_some, d2, h1 b d2]; rfl)
theorem bd6 {t : Int} {i : Nat} {S0 : Option (List Nat)} {l : List Nat} (ht : t = 6 ∨ t = 7) (h1 : ∀ p, (nS 2 S0).bind rdB = some p → l = p.1) :
    Got (((nS 2 S0).bind rdB).map (·.2)) S0 t i { e0 t i with port := nV 2 S0, frame := l } := by
  have eB : ∀ rest, rdBody t i rest = (rdN 2 rest).bind fun a => (rdB a.2).map fun b => ({ e0 t i with port := a.1, frame := b.1 }, b.2) := fun rest => by unfold rdBody; rw [if_neg (by omega), if_neg (by omega), if_pos ht]
  cases S0 with
  | none => exact .no rfl rfl
  | some r0 =>
    cases d1 : rdN 2 r0 with
    | none => exact .no (by rw [nS_eq0 d1]; rfl) (by rw [Option.bind_some, eB, d1]; rfl)
    | some a =>
      obtain ⟨s1, v1⟩ := nS_eq d1
      rw [s1, Option.bind_some] at h1 ⊢
      rw [v1]
      cases d2 : rdB a.2 with
      | none => exact .no rfl (by rw [Option.bind_some, eB, d1, Option.bind_some, d2]; rfl)
      | some b => exact .yes rfl (by rw [Option.bind_some, eB, d1, Option.bind_some, d2, h1 b d2]; rfl)
theorem bd11 {t : Int} {i : Nat} {S0 : Option (List Nat)} {l : List He} (ht : t = 11) (h1 : ∀ p, (nS 2 S0).bind rdHs = some p → l = p.1) :
    Got (((nS 2 S0).bind rdHs).map (·.2)) S0 t i { e0 t i with port := nV 2 S0, helds := l } := by
  have eB : ∀ rest, rdBody t i rest = (rdN 2 rest).bind fun a => (rdHs a.2).map fun b => ({ e0 t i with port := a.1, helds := b.1 }, b.2) := fun rest => by unfold rdBody; rw [if_neg (by omega), if_neg (by omega), if_neg (by omega), if_pos ht]
  cases S0 with
  | none => exact .no rfl rfl
  | some r0 =>
    cases d1 : rdN 2 r0 with
    | none => exact .no (by rw [nS_eq0 d1]; rfl) (by rw [Option.bind_some, eB, d1]; rfl)
    | some a =>
      obtain ⟨s1, v1⟩ := nS_eq d1
      rw [s1, Option.bind_some] at h1 ⊢
      rw [v1]
      cases d2 : rdHs a.2 with
      | none => exact .no rfl (by rw [Option.bind_some, eB, d1, Option.bind_some, d2]; rfl)
      | some b => exact .yes rfl (by rw [Option.bind_some, eB, d1, Option.bind_some, d2, h1 b d2]; rfl)
theorem bd12 {t : Int} {i : Nat} {S0 : Option (List Nat)} (ht : t = 12) :
    Got (if 1 < nV 1 (nS 2 S0) then none else nS 1 (nS 2 S0)) S0 t i { e0 t i with port := nV 2 S0, up := decide (nV 1 (nS 2 S0) = 1) } := by
  have eB : ∀ rest, rdBody t i rest = (rdN 2 rest).bind fun a => (rdFl a.2).map fun b => ({ e0 t i with port := a.1, up := b.1 }, b.2) := fun rest => by unfold rdBody; rw [if_neg (by omega), if_neg (by omega), if_neg (by omega), if_neg (by omega), if_pos ht]
  cases S0 with
  | none => exact .no (by rw [show nS 2 none = none from rfl, show nS 1 none = none from rfl, ite_self]) rfl
  | some r0 =>
    cases d1 : rdN 2 r0 with
    | none => exact .no (by rw [nS_eq0 d1, show nS 1 none = none from rfl, ite_self]) (by rw [Option.bind_some, eB, d1]; rfl)
    | some a =>
      obtain ⟨s1, v1⟩ := nS_eq d1
      rw [s1, v1]
      cases d2 : rdN 1 a.2 with
      | none => exact .no (by rw [nS_eq0 d2]; simp) (by rw [Option.bind_some, eB, d1, Option.bind_some]; unfold rdFl; rw [d2]; rfl)
      | some b =>
        obtain ⟨s2, v2⟩ := nS_eq d2
        rw [s2, v2]
        by_cases hb : 1 < b.1
        · rw [if_pos hb]
          exact .no rfl (by rw [Option.bind_some, eB, d1, Option.bind_some]; unfold rdFl; rw [d2, Option.bind_some, if_pos hb]; rfl)
        · rw [if_neg hb]
          exact .yes rfl (by rw [Option.bind_some, eB, d1, Option.bind_some]; unfold rdFl; rw [d2, Option.bind_some, if_neg hb]; rfl)
theorem bd13 {t : Int} {i : Nat} {S0 : Option (List Nat)} (ht : t = 13) : Got (nS 2 S0) S0 t i { e0 t i with code := nV 2 S0 } := by
  have eB : ∀ rest, rdBody t i rest = (rdN 2 rest).map fun a => ({ e0 t i with code := a.1 }, a.2) := fun rest => by unfold rdBody; rw [if_neg (by omega), if_neg (by omega), if_neg (by omega), if_neg (by omega), if_neg (by omega), if_pos ht]
  cases S0 with
  | none => exact .no rfl rfl
  | some r0 =>
    cases d1 : rdN 2 r0 with
    | none => exact .no (nS_eq0 d1) (by rw [Option.bind_some, eB, d1]; rfl)
    | some a =>
      obtain ⟨s1, v1⟩ := nS_eq d1
      rw [v1]
      exact .yes s1 (by rw [Option.bind_some, eB, d1]; rfl)
theorem bdN {t : Int} {i : Nat} {S0 : Option (List Nat)} (h4 : t ≠ 4) (h5 : t ≠ 5) (h6 : ¬ (t = 6 ∨ t = 7)) (h11 : t ≠ 11) (h12 : t ≠ 12) (h13 : t ≠ 13) : Got S0 S0 t i (e0 t i) := by
  have eB : ∀ rest, rdBody t i rest = some (e0 t i, rest) := fun rest => by unfold rdBody; rw [if_neg h4, if_neg h5, if_neg h6, if_neg h11, if_neg h12, if_neg h13]
  cases S0 with
  | none => exact .no rfl rfl
  | some r0 => exact .yes rfl (by rw [Option.bind_some, eB])
/-- A list of the caller's own, told as one that nobody writes. -/
theorem lend_buf {M : Mem} {kk E s : Nat} {es : List (List V)} (h : es ≠ [] → M[kk]? = some (.row E s es)) : lend1 M (bufR s kk es) = if es = [] then .nils else .isl s es := by
  cases es with
  | nil => rfl
  | cons a r =>
    rw [if_neg (by simp)]
    exact lend_row (h (by simp)) rfl
theorem wk_buf {s : Nat} {es : List (List V)} : Wk (if es = [] then .nils else .isl s es) (.isl s es) := by
  split
  · rename_i e
    rw [e]
    exact .nil
  · exact .eq
end Go.Proofs.Ytjjenpdjmcmgbaa
