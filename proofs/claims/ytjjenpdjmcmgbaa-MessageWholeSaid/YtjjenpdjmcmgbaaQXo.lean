/- What is read is within its bounds. No condition. -/
import Derived.Test.YtjjenpdjmcmgbaaQXn
namespace Go.Proofs.Ytjjenpdjmcmgbaa
open Go Ab
set_option linter.unusedSimpArgs false
set_option linter.unusedVariables false
set_option maxRecDepth 20000
theorem bind_some' {α β : Type} {p : Option α} {f : α → Option β} {b : β} (e : p.bind f = some b) : ∃ a, p = some a ∧ f a = some b := by
  cases p with
  | none => cases e
  | some a => exact ⟨a, rfl, e⟩
theorem rdN_lt {n : Nat} {rest : List Nat} {p : Nat × List Nat} (h : Byt rest) (e : rdN n rest = some p) : p.1 < 256 ^ n := by
  unfold rdN at e
  split at e
  · cases e; exact beV_lt h.1 n
  · cases e
theorem rdMany_all {α : Type} {pe : List Nat → Option (α × List Nat)} {P : α → Prop} (hP : ∀ r p, Byt r → pe r = some p → Byt p.2 ∧ P p.1) {rest : List Nat} (h : Byt rest) : ∀ {n : Nat} {t : List α × List Nat}, rdMany pe rest n = some t → ∀ a ∈ t.1, P a
  | 0, t, e => by cases e; intro a ha; cases ha
  | n + 1, t, e => by
    simp only [rdMany] at e
    obtain ⟨u, h1, e⟩ := bind_some' e
    obtain ⟨a, h2, rfl⟩ := map_some' e
    intro x hx
    rcases List.mem_append.1 hx with hx | hx
    · exact rdMany_all hP h h1 x hx
    · rw [List.mem_singleton.1 hx]
      exact (hP _ _ (rdMany_byt (fun r p hr he => (hP r p hr he).1) h h1) h2).2
theorem rdL_all {α : Type} {pe : List Nat → Option (α × List Nat)} {P : α → Prop} (hP : ∀ r p, Byt r → pe r = some p → Byt p.2 ∧ P p.1) {rest : List Nat} (h : Byt rest) {t : List α × List Nat} (e : rdL pe rest = some t) : t.1.length < 65536 ∧ ∀ a ∈ t.1, P a := by
  obtain ⟨u, h1, e⟩ := bind_some' e
  have := rdN_lt h h1
  exact ⟨by rw [rdMany_len e]; exact this, rdMany_all hP (rdN_byt h h1) e⟩
theorem i8r (x : Int) : -128 ≤ IntKind.i8.wrap x ∧ IntKind.i8.wrap x < 128 := by simp [IntKind.wrap, IntKind.bits, IntKind.signed]; omega
theorem i32r (x : Int) : -2147483648 ≤ IntKind.i32.wrap x ∧ IntKind.i32.wrap x ≤ 2147483647 := by simp [IntKind.wrap, IntKind.bits, IntKind.signed]; omega
theorem rdAc_wf {rest : List Nat} {p : Act × List Nat} (h : Byt rest) (e : rdAc rest = some p) : wfA p.1 := by
  obtain ⟨a, h1, e⟩ := bind_some' e
  obtain ⟨b, h2, e⟩ := bind_some' e
  obtain ⟨n, h3, rfl⟩ := map_some' e
  exact ⟨i8r _, i8r _, rdN_lt (rdN_byt (rdN_byt h h1) h2) h3⟩
theorem rdC_wf {rest : List Nat} {t : List Act × List Nat} (h : Byt rest) (e : rdL rdAc rest = some t) : wfC t.1 := by
  obtain ⟨h1, h2⟩ := rdL_all (P := wfA) (fun r p hr he => ⟨rdAc_byt hr he, rdAc_wf hr he⟩) h e
  exact ⟨by unfold lim; omega, h2⟩
theorem rdLL_wf {rest : List Nat} {t : List (List Act) × List Nat} (h : Byt rest) (e : rdL (rdL rdAc) rest = some t) : wfL t.1 := by
  obtain ⟨h1, h2⟩ := rdL_all (P := wfC) (fun r p hr he => ⟨rdL_byt (fun _ _ => rdAc_byt) hr he, rdC_wf hr he⟩) h e
  exact ⟨by unfold lim; omega, h2⟩
theorem rdFs_wf {bits : Nat} {rest : List Nat} (h : Byt rest) : ∀ {j : Nat} {t : (Nat → Nat) × List Nat}, j ≤ 11 → rdFs bits rest j = some t → U64 22 t.1
  | 0, t, _, e => by cases e; intro i _; show 0 < _; omega
  | j + 1, t, hj, e => by
    simp only [rdFs] at e
    obtain ⟨u, h1, e⟩ := bind_some' e
    have ih := rdFs_wf h (by omega) h1
    split at e
    · cases e; exact ih
    · obtain ⟨a, h2, e⟩ := bind_some' e
      obtain ⟨b, h3, e⟩ := bind_some' e
      have hu := rdFs_byt h h1
      have l1 := rdN_lt hu h2
      have l2 := rdN_lt (rdN_byt hu h2) h3
      obtain ⟨_, z2, _⟩ := sz_ok (show j < 11 by omega)
      have hp : 256 ^ sz j ≤ 256 ^ 8 := Nat.pow_le_pow_right (by omega) (by omega)
      split at e
      · cases e
      · cases e
        intro i hi
        show updN (updN u.1 j a.1) (11 + j) b.1 i < _
        unfold updN
        have := ih i hi
        split
        · omega
        · split <;> omega
theorem rdM_wf {rest : List Nat} (h : Byt rest) {t : (Nat → Nat) × List Nat} (e : rdM rest = some t) : U64 22 t.1 := by
  obtain ⟨n, h1, e⟩ := bind_some' e
  split at e
  · exact rdFs_wf (rdN_byt h h1) (by omega) e
  · cases e
theorem rdR_wf {rest : List Nat} {p : Ru × List Nat} (h : Byt rest) (e : rdR rest = some p) : wfR p.1 := by
  obtain ⟨a, h1, e⟩ := bind_some' e
  obtain ⟨b, h2, e⟩ := bind_some' e
  obtain ⟨w, h3, e⟩ := bind_some' e
  obtain ⟨t, h4, rfl⟩ := map_some' e
  have b1 := rdN_byt h h1
  have b2 := rdN_byt b1 h2
  have b3 := rdM_byt b2 h3
  have := i32r (a.1 : Int)
  exact ⟨⟨by show _ ≤ IntKind.i32.wrap (a.1 : Int); omega, by show IntKind.i32.wrap (a.1 : Int) < _; omega⟩, rdM_wf b2 h3, rdLL_wf b3 h4, rdN_lt b1 h2⟩
theorem rdH_wf {rest : List Nat} {p : He × List Nat} (h : Byt rest) (e : rdH rest = some p) : wfH p.1 := by
  obtain ⟨r, h1, e⟩ := bind_some' e
  obtain ⟨a, h2, e⟩ := bind_some' e
  obtain ⟨b, h3, rfl⟩ := map_some' e
  have b1 := rdR_byt h h1
  exact ⟨rdR_wf h h1, rdN_lt b1 h2, rdN_lt (rdN_byt b1 h2) h3⟩
theorem rdHs_wf {rest : List Nat} {t : List He × List Nat} (h : Byt rest) (e : rdHs rest = some t) : t.1.length < lim ∧ ∀ a ∈ t.1, wfH a := by
  obtain ⟨h1, h2⟩ := rdL_all (P := wfH) (fun r p hr he => ⟨rdH_byt hr he, rdH_wf hr he⟩) h e
  exact ⟨by unfold lim; omega, h2⟩
theorem rdP_wf {rest : List Nat} {t : List Nat × List Nat} (h : Byt rest) (e : rdP rest = some t) : t.1.length < lim ∧ ∀ p ∈ t.1, p < 65536 := by
  obtain ⟨h1, h2⟩ := rdL_all (P := fun p => p < 65536) (fun r p hr he => ⟨rdN_byt hr he, rdN_lt hr he⟩) h e
  exact ⟨by unfold lim; omega, h2⟩
theorem rdB_wf {rest : List Nat} {t : List Nat × List Nat} (h : Byt rest) (e : rdB rest = some t) : t.1.length < lim ∧ ∀ p ∈ t.1, p < 256 := by
  obtain ⟨h1, h2⟩ := rdL_all (P := fun p => p < 256) (fun r p hr he => ⟨rdN_byt hr he, by have := rdN_lt hr he; omega⟩) h e
  exact ⟨by unfold lim; omega, h2⟩
theorem wf_e0 {t : Int} {i : Nat} (ht : -128 ≤ t ∧ t < 128) (hi : i < 4294967296) : wfM (e0 t i) := by
  have h0 : (0 : Nat) < lim := by decide
  exact ⟨ht, hi, (by decide : -128 ≤ (0 : Int) ∧ (0 : Int) < 128), ⟨(by decide : -9223372036854775808 ≤ (0 : Int) ∧ (0 : Int) < 9223372036854775808), fun _ _ => (by decide : (0 : Nat) < 18446744073709551616), ⟨h0, fun _ h => by cases h⟩, (by decide : (0 : Nat) < 18446744073709551616)⟩,
    (by decide : (0 : Nat) < 65536), (by decide : (0 : Nat) < 65536), ⟨h0, fun _ h => by cases h⟩, ⟨h0, fun _ h => by cases h⟩, ⟨h0, fun _ h => by cases h⟩, ⟨h0, fun _ h => by cases h⟩, (by decide : (0 : Nat) < 65536)⟩
theorem rdBody_wf {t : Int} {i : Nat} {rest : List Nat} {p : Ms × List Nat} (ht : -128 ≤ t ∧ t < 128) (hi : i < 4294967296) (h : Byt rest) (e : rdBody t i rest = some p) : wfM p.1 := by
  have z := wf_e0 ht hi
  unfold rdBody at e
  split at e
  · obtain ⟨a, h1, e⟩ := bind_some' e
    obtain ⟨b, h2, e⟩ := bind_some' e
    obtain ⟨d, h3, rfl⟩ := map_some' e
    have b1 := rdN_byt h h1
    exact ⟨z.ty, z.id, z.dd, z.r, z.port, rdN_lt h h1, rdP_wf b1 h2, rdP_wf (rdP_byt b1 h2) h3, z.frame, z.helds, z.code⟩
  split at e
  · obtain ⟨a, h1, e⟩ := bind_some' e
    obtain ⟨b, h2, rfl⟩ := map_some' e
    exact ⟨z.ty, z.id, i8r _, rdR_wf (rdN_byt h h1) h2, z.port, z.sw, z.ports, z.edge, z.frame, z.helds, z.code⟩
  split at e
  · obtain ⟨a, h1, e⟩ := bind_some' e
    obtain ⟨b, h2, rfl⟩ := map_some' e
    exact ⟨z.ty, z.id, z.dd, z.r, rdN_lt h h1, z.sw, z.ports, z.edge, rdB_wf (rdN_byt h h1) h2, z.helds, z.code⟩
  split at e
  · obtain ⟨a, h1, e⟩ := bind_some' e
    obtain ⟨b, h2, rfl⟩ := map_some' e
    exact ⟨z.ty, z.id, z.dd, z.r, rdN_lt h h1, z.sw, z.ports, z.edge, z.frame, rdHs_wf (rdN_byt h h1) h2, z.code⟩
  split at e
  · obtain ⟨a, h1, e⟩ := bind_some' e
    obtain ⟨b, h2, rfl⟩ := map_some' e
    exact ⟨z.ty, z.id, z.dd, z.r, rdN_lt h h1, z.sw, z.ports, z.edge, z.frame, z.helds, z.code⟩
  split at e
  · obtain ⟨a, h1, rfl⟩ := map_some' e
    exact ⟨z.ty, z.id, z.dd, z.r, z.port, z.sw, z.ports, z.edge, z.frame, z.helds, rdN_lt h h1⟩
  · cases e
    exact z
/-- What the bytes say of their length. -/
def allB (b : List Nat) : Nat := b.getD 2 0 * 256 + b.getD 3 0
def tyB (b : List Nat) : Int := IntKind.i8.wrap ((b.getD 1 0 : Nat) : Int)
/-- A message's parser. -/
def rdMsg (b : List Nat) : Option Ms :=
  if isTy (tyB b) = true ∧ b.getD 0 0 = 1 ∧ b.length = allB b then
    (rdN 4 (b.drop 4)).bind fun i => (rdBody (tyB b) i.1 i.2).bind fun x => if x.2 = [] ∧ chkM x.1 = 0 then some x.1 else none
  else none
def short (b : List Nat) : Bool := decide (b.length < 8) || decide (b.length < allB b)
def decE (b : List Nat) : Int := if short b then 51 else if (rdMsg b).isSome then 0 else 70
def decX (b : List Nat) : Ms := if short b then e0 0 0 else (rdMsg b).getD (e0 0 0)
end Go.Proofs.Ytjjenpdjmcmgbaa
