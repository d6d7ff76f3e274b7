/- Any Type's way, read. No condition. What is read is within its bounds. No condition. The program's reading of a message: its ways out. No condition. -/
import Derived.Test.YtjjenpdjmcmgbaaDXm
import Derived.Test.YtjjenpdjmcmgbaaDZx
namespace Go.Proofs.Ytjjenpdjmcmgbaa
open Go Ab
set_option linter.unusedSimpArgs false
set_option linter.unusedVariables false
set_option maxRecDepth 20000
def e0 (t : Int) (i : Nat) : Ms := ⟨t, i, 0, ⟨0, w0, [], 0⟩, 0, false, 0, [], [], [], [], 0⟩
/-- A message's parser behind its head. -/
def rdBody (t : Int) (i : Nat) (rest : List Nat) : Option (Ms × List Nat) :=
  if t = 4 then (rdN 2 rest).bind fun a => (rdP a.2).bind fun b => (rdP b.2).map fun d => ({ e0 t i with sw := a.1, ports := b.1, edge := d.1 }, d.2)
  else if t = 5 then (rdN 1 rest).bind fun a => (rdR a.2).map fun r => ({ e0 t i with dd := IntKind.i8.wrap (a.1 : Int), r := r.1 }, r.2)
  else if t = 6 ∨ t = 7 then (rdN 2 rest).bind fun a => (rdB a.2).map fun b => ({ e0 t i with port := a.1, frame := b.1 }, b.2)
  else if t = 11 then (rdN 2 rest).bind fun a => (rdHs a.2).map fun b => ({ e0 t i with port := a.1, helds := b.1 }, b.2)
  else if t = 12 then (rdN 2 rest).bind fun a => (rdFl a.2).map fun b => ({ e0 t i with port := a.1, up := b.1 }, b.2)
  else if t = 13 then (rdN 2 rest).map fun a => ({ e0 t i with code := a.1 }, a.2)
  else some (e0 t i, rest)
/-- A message's cells with these rows. -/
def msK (L P E F H : V) (x : Ms) : List V := .int .i8 x.ty :: .int .u32 (x.id : Int) :: .int .i8 x.dd :: (rk4 x.r.rank x.r.w L x.r.ck ++ [.int .u16 (x.port : Int), .bool x.up, .int .u16 (x.sw : Int), P, E, F, H, .int .u16 (x.code : Int)])
theorem msK_C (x : Ms) : msK (cpsV x.r.l) (poV x.ports) (poV x.edge) (byV x.frame) (hesV x.helds) x = msC x := rfl
theorem K26 {L P E F H L' : V} {x : Ms} : (msK L P E F H x).set 26 L' = msK L' P E F H x := rfl
theorem K31 {L P E F H P' : V} {x : Ms} : (msK L P E F H x).set 31 P' = msK L P' E F H x := rfl
theorem K32 {L P E F H E' : V} {x : Ms} : (msK L P E F H x).set 32 E' = msK L P E' F H x := rfl
theorem K33 {L P E F H F' : V} {x : Ms} : (msK L P E F H x).set 33 F' = msK L P E F' H x := rfl
theorem K34 {L P E F H H' : V} {x : Ms} : (msK L P E F H x).set 34 H' = msK L P E F H' x := rfl
section
variable {f : FuncId} {vs : List V} {m : Mem} {c q ty : Nat} {l : List V} {p : Option (Ms × List Nat)}
theorem nil26 (hqc : q ≠ c) {P E F H : Ms → V} (h : Snd Try.prog f vs m (RQ c q ty l m (p.map fun x => (msK .nils (P x.1) (E x.1) (F x.1) (H x.1) x.1, x.2)))) : Snd Try.prog f vs m (RQ c q ty l m (p.map fun x => (msK (.isl 1 []) (P x.1) (E x.1) (F x.1) (H x.1) x.1, x.2))) := by
  have := RQ_nil 26 1 hqc h (fun t e => by obtain ⟨a, _, rfl⟩ := map_some' e; rfl)
  simpa only [Option.map_map, Function.comp_def, K26] using this
theorem nil31 (hqc : q ≠ c) {L E F H : Ms → V} (h : Snd Try.prog f vs m (RQ c q ty l m (p.map fun x => (msK (L x.1) .nils (E x.1) (F x.1) (H x.1) x.1, x.2)))) : Snd Try.prog f vs m (RQ c q ty l m (p.map fun x => (msK (L x.1) (.isl 1 []) (E x.1) (F x.1) (H x.1) x.1, x.2))) := by
  have := RQ_nil 31 1 hqc h (fun t e => by obtain ⟨a, _, rfl⟩ := map_some' e; rfl)
  simpa only [Option.map_map, Function.comp_def, K31] using this
theorem nil32 (hqc : q ≠ c) {L P F H : Ms → V} (h : Snd Try.prog f vs m (RQ c q ty l m (p.map fun x => (msK (L x.1) (P x.1) .nils (F x.1) (H x.1) x.1, x.2)))) : Snd Try.prog f vs m (RQ c q ty l m (p.map fun x => (msK (L x.1) (P x.1) (.isl 1 []) (F x.1) (H x.1) x.1, x.2))) := by
  have := RQ_nil 32 1 hqc h (fun t e => by obtain ⟨a, _, rfl⟩ := map_some' e; rfl)
  simpa only [Option.map_map, Function.comp_def, K32] using this
theorem nil33 (hqc : q ≠ c) {L P E H : Ms → V} (h : Snd Try.prog f vs m (RQ c q ty l m (p.map fun x => (msK (L x.1) (P x.1) (E x.1) .nils (H x.1) x.1, x.2)))) : Snd Try.prog f vs m (RQ c q ty l m (p.map fun x => (msK (L x.1) (P x.1) (E x.1) (.isl 1 []) (H x.1) x.1, x.2))) := by
  have := RQ_nil 33 1 hqc h (fun t e => by obtain ⟨a, _, rfl⟩ := map_some' e; rfl)
  simpa only [Option.map_map, Function.comp_def, K33] using this
theorem nil34 (hqc : q ≠ c) {L P E F : Ms → V} (h : Snd Try.prog f vs m (RQ c q ty l m (p.map fun x => (msK (L x.1) (P x.1) (E x.1) (F x.1) .nils x.1, x.2)))) : Snd Try.prog f vs m (RQ c q ty l m (p.map fun x => (msK (L x.1) (P x.1) (E x.1) (F x.1) (.isl 27 []) x.1, x.2))) := by
  have := RQ_nil 34 27 hqc h (fun t e => by obtain ⟨a, _, rfl⟩ := map_some' e; rfl)
  simpa only [Option.map_map, Function.comp_def, K34] using this
end
theorem snd_eq {f : FuncId} {vs : List V} {m : Mem} {c q ty : Nat} {l : List V} {p p' : Option (List V × List Nat)} (h : Snd Try.prog f vs m (RQ c q ty l m p)) (e : p = p') : Snd Try.prog f vs m (RQ c q ty l m p') := e ▸ h
theorem go_read {t : Int} (ht : isTy t = true) (a b : Nat) : ∃ f caps, goV t a b = .fn f [] caps ∧ enterable Try.prog f = true ∧
    ∀ {m : Mem} {c q i : Nat} {rest : List Nat}, Cr m c rest → Byt rest → m[q]? = some (.var 37 (mzR t i)) → q ≠ c → b ≠ c → b ≠ q → m[a]? = some (.var 64 [.fn 41 [] []]) → m[b]? = some (.var 105 [.fn 43 [] []]) →
      Snd Try.prog f ([.ptr c 0, .ptr q 0] ++ caps) m (RQ c q 37 (mzR t i) m ((rdBody t i rest).map fun x => (msC x.1, x.2))) := by
  unfold goV
  by_cases h4 : t = 4
  · rw [if_pos h4]
    refine ⟨_, _, rfl, en50, fun {m c q i rest} hc hB hq hqc hbc hbq ha hb => ?_⟩
    have h := snd_eq (snd50r hc hB hb hbc hbq hq hqc) (p' := (rdBody t i rest).map fun x => (msK .nils (poV x.1.ports) (poV x.1.edge) .nils .nils x.1, x.2)) (by
      unfold rdBody
      rw [if_pos h4]
      cases rdN 2 rest with
      | none => rfl
      | some a =>
        show (rdP a.2).bind _ = _
        cases h : rdP a.2 with
        | none => simp only [Option.bind_some, Option.bind_none, Option.map_none, h]
        | some b =>
          simp only [Option.bind_some, h]
          cases rdP b.2 with
          | none => rfl
          | some d => rfl)
    have h := nil34 hqc (L := fun _ => .nils) (P := fun x => poV x.ports) (E := fun x => poV x.edge) (F := fun _ => .nils) h
    have h := nil33 hqc (L := fun _ => .nils) (P := fun x => poV x.ports) (E := fun x => poV x.edge) (H := fun _ => .isl 27 []) h
    have h := nil26 hqc (P := fun x => poV x.ports) (E := fun x => poV x.edge) (F := fun _ => .isl 1 []) (H := fun _ => .isl 27 []) h
    refine snd_eq h ?_
    unfold rdBody
    rw [if_pos h4]
    cases rdN 2 rest with
    | none => rfl
    | some a =>
      simp only [Option.bind_some]
      cases rdP a.2 with
      | none => rfl
      | some b =>
        simp only [Option.bind_some]
        cases rdP b.2 with
        | none => rfl
        | some d => rfl
  rw [if_neg h4]
  by_cases h5 : t = 5
  · rw [if_pos h5]
    refine ⟨_, _, rfl, en51, fun {m c q i rest} hc hB hq hqc hbc hbq ha hb => ?_⟩
    have h := snd_eq (snd51r hc hB hq hqc) (p' := (rdBody t i rest).map fun x => (msK (cpsV x.1.r.l) .nils .nils .nils .nils x.1, x.2)) (by
      unfold rdBody
      rw [if_neg h4, if_pos h5]
      cases rdN 1 rest with
      | none => rfl
      | some a =>
        simp only [Option.bind_some]
        cases rdR a.2 with
        | none => rfl
        | some b => rfl)
    have h := nil34 hqc (L := fun x => cpsV x.r.l) (P := fun _ => .nils) (E := fun _ => .nils) (F := fun _ => .nils) h
    have h := nil33 hqc (L := fun x => cpsV x.r.l) (P := fun _ => .nils) (E := fun _ => .nils) (H := fun _ => .isl 27 []) h
    have h := nil32 hqc (L := fun x => cpsV x.r.l) (P := fun _ => .nils) (F := fun _ => .isl 1 []) (H := fun _ => .isl 27 []) h
    have h := nil31 hqc (L := fun x => cpsV x.r.l) (E := fun _ => .isl 1 []) (F := fun _ => .isl 1 []) (H := fun _ => .isl 27 []) h
    refine snd_eq h ?_
    unfold rdBody
    rw [if_neg h4, if_pos h5]
    cases rdN 1 rest with
    | none => rfl
    | some a =>
      simp only [Option.bind_some]
      cases rdR a.2 with
      | none => rfl
      | some b => rfl
  rw [if_neg h5]
  by_cases h6 : t = 6 ∨ t = 7
  · rw [if_pos h6]
    refine ⟨_, _, rfl, en46, fun {m c q i rest} hc hB hq hqc hbc hbq ha hb => ?_⟩
    have h := snd_eq (snd46r hc hB ha hq hqc) (p' := (rdBody t i rest).map fun x => (msK .nils .nils .nils (byV x.1.frame) .nils x.1, x.2)) (by
      unfold rdBody
      rw [if_neg h4, if_neg h5, if_pos h6]
      cases rdN 2 rest with
      | none => rfl
      | some a =>
        simp only [Option.bind_some]
        cases rdB a.2 with
        | none => rfl
        | some b => rfl)
    have h := nil34 hqc (L := fun _ => .nils) (P := fun _ => .nils) (E := fun _ => .nils) (F := fun x => byV x.frame) h
    have h := nil32 hqc (L := fun _ => .nils) (P := fun _ => .nils) (F := fun x => byV x.frame) (H := fun _ => .isl 27 []) h
    have h := nil31 hqc (L := fun _ => .nils) (E := fun _ => .isl 1 []) (F := fun x => byV x.frame) (H := fun _ => .isl 27 []) h
    have h := nil26 hqc (P := fun _ => .isl 1 []) (E := fun _ => .isl 1 []) (F := fun x => byV x.frame) (H := fun _ => .isl 27 []) h
    refine snd_eq h ?_
    unfold rdBody
    rw [if_neg h4, if_neg h5, if_pos h6]
    cases rdN 2 rest with
    | none => rfl
    | some a =>
      simp only [Option.bind_some]
      cases rdB a.2 with
      | none => rfl
      | some b => rfl
  rw [if_neg h6]
  by_cases h11 : t = 11
  · rw [if_pos h11]
    refine ⟨_, _, rfl, en54, fun {m c q i rest} hc hB hq hqc hbc hbq ha hb => ?_⟩
    have h := snd_eq (snd54r hc hB ha hq hqc) (p' := (rdBody t i rest).map fun x => (msK .nils .nils .nils .nils (hesV x.1.helds) x.1, x.2)) (by
      unfold rdBody
      rw [if_neg h4, if_neg h5, if_neg h6, if_pos h11]
      cases rdN 2 rest with
      | none => rfl
      | some a =>
        simp only [Option.bind_some]
        cases rdHs a.2 with
        | none => rfl
        | some b => rfl)
    have h := nil33 hqc (L := fun _ => .nils) (P := fun _ => .nils) (E := fun _ => .nils) (H := fun x => hesV x.helds) h
    have h := nil32 hqc (L := fun _ => .nils) (P := fun _ => .nils) (F := fun _ => .isl 1 []) (H := fun x => hesV x.helds) h
    have h := nil31 hqc (L := fun _ => .nils) (E := fun _ => .isl 1 []) (F := fun _ => .isl 1 []) (H := fun x => hesV x.helds) h
    have h := nil26 hqc (P := fun _ => .isl 1 []) (E := fun _ => .isl 1 []) (F := fun _ => .isl 1 []) (H := fun x => hesV x.helds) h
    refine snd_eq h ?_
    unfold rdBody
    rw [if_neg h4, if_neg h5, if_neg h6, if_pos h11]
    cases rdN 2 rest with
    | none => rfl
    | some a =>
      simp only [Option.bind_some]
      cases rdHs a.2 with
      | none => rfl
      | some b => rfl
  rw [if_neg h11]
  have rest3 : ∀ {f : FuncId} {vs : List V} {m : Mem} {c q i : Nat} {rest : List Nat}, q ≠ c → (∀ x r, rdBody t i rest = some (x, r) → x.r.l = [] ∧ x.ports = [] ∧ x.edge = [] ∧ x.frame = [] ∧ x.helds = []) → Snd Try.prog f vs m (RQ c q 37 (mzR t i) m ((rdBody t i rest).map fun x => (msK .nils .nils .nils .nils .nils x.1, x.2))) → Snd Try.prog f vs m (RQ c q 37 (mzR t i) m ((rdBody t i rest).map fun x => (msC x.1, x.2))) := by
    intro f vs m c q i rest hqc hx h
    have h := nil34 hqc (L := fun _ => .nils) (P := fun _ => .nils) (E := fun _ => .nils) (F := fun _ => .nils) h
    have h := nil33 hqc (L := fun _ => .nils) (P := fun _ => .nils) (E := fun _ => .nils) (H := fun _ => .isl 27 []) h
    have h := nil32 hqc (L := fun _ => .nils) (P := fun _ => .nils) (F := fun _ => .isl 1 []) (H := fun _ => .isl 27 []) h
    have h := nil31 hqc (L := fun _ => .nils) (E := fun _ => .isl 1 []) (F := fun _ => .isl 1 []) (H := fun _ => .isl 27 []) h
    have h := nil26 hqc (P := fun _ => .isl 1 []) (E := fun _ => .isl 1 []) (F := fun _ => .isl 1 []) (H := fun _ => .isl 27 []) h
    refine snd_eq h ?_
    cases e : rdBody t i rest with
    | none => rfl
    | some x =>
      obtain ⟨h1, h2, h3, h4, h5⟩ := hx x.1 x.2 e
      simp only [Option.map_some, ← msK_C, h1, h2, h3, h4, h5]
      rfl
  by_cases h12 : t = 12
  · rw [if_pos h12]
    have eB : ∀ i rest, rdBody t i rest = (rdN 2 rest).bind fun a => (rdFl a.2).map fun b => ({ e0 t i with port := a.1, up := b.1 }, b.2) := fun i rest => by
      unfold rdBody
      rw [if_neg h4, if_neg h5, if_neg h6, if_neg h11, if_pos h12]
    refine ⟨_, _, rfl, en57, fun {m c q i rest} hc hB hq hqc hbc hbq ha hb => rest3 hqc (fun x r e => ?_) (snd_eq (snd57r hc hB ha hq hqc) ?_)⟩
    · rw [eB] at e
      cases h1 : rdN 2 rest with
      | none => rw [h1] at e; cases e
      | some a =>
        rw [h1] at e
        simp only [Option.bind_some] at e
        obtain ⟨b, _, e⟩ := map_some' e
        cases e
        exact ⟨rfl, rfl, rfl, rfl, rfl⟩
    · rw [eB]
      cases rdN 2 rest with
      | none => rfl
      | some a =>
        simp only [Option.bind_some]
        cases rdFl a.2 with
        | none => rfl
        | some b => rfl
  rw [if_neg h12]
  by_cases h13 : t = 13
  · rw [if_pos h13]
    have eB : ∀ i rest, rdBody t i rest = (rdN 2 rest).map fun a => ({ e0 t i with code := a.1 }, a.2) := fun i rest => by
      unfold rdBody
      rw [if_neg h4, if_neg h5, if_neg h6, if_neg h11, if_neg h12, if_pos h13]
    refine ⟨_, _, rfl, en59, fun {m c q i rest} hc hB hq hqc hbc hbq ha hb => rest3 hqc (fun x r e => ?_) (snd_eq (snd59r hc hB hq hqc mz35) ?_)⟩
    · rw [eB] at e
      obtain ⟨b, _, e⟩ := map_some' e
      cases e
      exact ⟨rfl, rfl, rfl, rfl, rfl⟩
    · rw [eB]
      cases rdN 2 rest with
      | none => rfl
      | some a => rfl
  rw [if_neg h13, if_pos ht]
  have eB : ∀ i rest, rdBody t i rest = some (e0 t i, rest) := fun i rest => by
    unfold rdBody
    rw [if_neg h4, if_neg h5, if_neg h6, if_neg h11, if_neg h12, if_neg h13]
  refine ⟨_, _, rfl, en60, fun {m c q i rest} hc hB hq hqc hbc hbq ha hb => rest3 hqc (fun x r e => ?_) (snd_eq (snd60r hc hq) ?_)⟩
  · rw [eB] at e
    cases e
    exact ⟨rfl, rfl, rfl, rfl, rfl⟩
  · rw [eB]
    rfl
end Go.Proofs.Ytjjenpdjmcmgbaa
namespace Go.Proofs.Ytjjenpdjmcmgbaa
open Go Ab
set_option linter.unusedSimpArgs false
set_option linter.unusedVariables false
set_option maxRecDepth 20000
theorem bind_some' {α β : Type} {p : Option α} {f : α → Option β} {b : β} (e : p.bind f = some b) : ∃ a, p = some a ∧ f a = some b := by
  cases p with
  | none => cases e
  | some a => exact ⟨a, rfl, e⟩
theorem rdN_lt {n : Nat} {rest : List Nat} {p : Nat × List Nat} (h : Byt rest) (e : rdN n rest = some p) : p.1 < 256 ^ n := by
  unfold rdN at e
  split at e
  · cases e; exact beV_lt h.1 n
  · cases e
theorem rdMany_all {α : Type} {pe : List Nat → Option (α × List Nat)} {P : α → Prop} (hP : ∀ r p, Byt r → pe r = some p → Byt p.2 ∧ P p.1) {rest : List Nat} (h : Byt rest) : ∀ {n : Nat} {t : List α × List Nat}, rdMany pe rest n = some t → ∀ a ∈ t.1, P a
  | 0, t, e => by cases e; intro a ha; cases ha
  | n + 1, t, e => by
    simp only [rdMany] at e
    obtain ⟨u, h1, e⟩ := bind_some' e
    obtain ⟨a, h2, rfl⟩ := map_some' e
    intro x hx
    rcases List.mem_append.1 hx with hx | hx
    · exact rdMany_all hP h h1 x hx
    · rw [List.mem_singleton.1 hx]
      exact (hP _ _ (rdMany_byt (fun r p hr he => (hP r p hr he).1) h h1) h2).2
theorem rdL_all {α : Type} {pe : List Nat → Option (α × List Nat)} {P : α → Prop} (hP : ∀ r p, Byt r → pe r = some p → Byt p.2 ∧ P p.1) {rest : List Nat} (h : Byt rest) {t : List α × List Nat} (e : rdL pe rest = some t) : t.1.length < 65536 ∧ ∀ a ∈ t.1, P a := by
  obtain ⟨u, h1, e⟩ := bind_some' e
  have := rdN_lt h h1
  exact ⟨by rw [rdMany_len e]; exact this, rdMany_all hP (rdN_byt h h1) e⟩
theorem i8r (x : Int) : -128 ≤ IntKind.i8.wrap x ∧ IntKind.i8.wrap x < 128 := by simp [IntKind.wrap, IntKind.bits, IntKind.signed]; omega
theorem i32r (x : Int) : -2147483648 ≤ IntKind.i32.wrap x ∧ IntKind.i32.wrap x ≤ 2147483647 := by simp [IntKind.wrap, IntKind.bits, IntKind.signed]; omega
theorem rdAc_wf {rest : List Nat} {p : Act × List Nat} (h : Byt rest) (e : rdAc rest = some p) : wfA p.1 := by
  obtain ⟨a, h1, e⟩ := bind_some' e
  obtain ⟨b, h2, e⟩ := bind_some' e
  obtain ⟨n, h3, rfl⟩ := map_some' e
  exact ⟨i8r _, i8r _, rdN_lt (rdN_byt (rdN_byt h h1) h2) h3⟩
theorem rdC_wf {rest : List Nat} {t : List Act × List Nat} (h : Byt rest) (e : rdL rdAc rest = some t) : wfC t.1 := by
  obtain ⟨h1, h2⟩ := rdL_all (P := wfA) (fun r p hr he => ⟨rdAc_byt hr he, rdAc_wf hr he⟩) h e
  exact ⟨by unfold lim; omega, h2⟩
theorem rdLL_wf {rest : List Nat} {t : List (List Act) × List Nat} (h : Byt rest) (e : rdL (rdL rdAc) rest = some t) : wfL t.1 := by
  obtain ⟨h1, h2⟩ := rdL_all (P := wfC) (fun r p hr he => ⟨rdL_byt (fun _ _ => rdAc_byt) hr he, rdC_wf hr he⟩) h e
  exact ⟨by unfold lim; omega, h2⟩
theorem rdFs_wf {bits : Nat} {rest : List Nat} (h : Byt rest) : ∀ {j : Nat} {t : (Nat → Nat) × List Nat}, j ≤ 11 → rdFs bits rest j = some t → U64 22 t.1
  | 0, t, _, e => by cases e; intro i _; show 0 < _; omega
  | j + 1, t, hj, e => by
    simp only [rdFs] at e
    obtain ⟨u, h1, e⟩ := bind_some' e
    have ih := rdFs_wf h (by omega) h1
    split at e
    · cases e; exact ih
    · obtain ⟨a, h2, e⟩ := bind_some' e
      obtain ⟨b, h3, e⟩ := bind_some' e
      have hu := rdFs_byt h h1
      have l1 := rdN_lt hu h2
      have l2 := rdN_lt (rdN_byt hu h2) h3
      obtain ⟨_, z2, _⟩ := sz_ok (show j < 11 by omega)
      have hp : 256 ^ sz j ≤ 256 ^ 8 := Nat.pow_le_pow_right (by omega) (by omega)
      split at e
      · cases e
      · cases e
        intro i hi
        show updN (updN u.1 j a.1) (11 + j) b.1 i < _
        unfold updN
        have := ih i hi
        split
        · omega
        · split <;> omega
theorem rdM_wf {rest : List Nat} (h : Byt rest) {t : (Nat → Nat) × List Nat} (e : rdM rest = some t) : U64 22 t.1 := by
  obtain ⟨n, h1, e⟩ := bind_some' e
  split at e
  · exact rdFs_wf (rdN_byt h h1) (by omega) e
  · cases e
theorem rdR_wf {rest : List Nat} {p : Ru × List Nat} (h : Byt rest) (e : rdR rest = some p) : wfR p.1 := by
  obtain ⟨a, h1, e⟩ := bind_some' e
  obtain ⟨b, h2, e⟩ := bind_some' e
  obtain ⟨w, h3, e⟩ := bind_some' e
  obtain ⟨t, h4, rfl⟩ := map_some' e
  have b1 := rdN_byt h h1
  have b2 := rdN_byt b1 h2
  have b3 := rdM_byt b2 h3
  have := i32r (a.1 : Int)
  exact ⟨⟨by show _ ≤ IntKind.i32.wrap (a.1 : Int); omega, by show IntKind.i32.wrap (a.1 : Int) < _; omega⟩, rdM_wf b2 h3, rdLL_wf b3 h4, rdN_lt b1 h2⟩
theorem rdH_wf {rest : List Nat} {p : He × List Nat} (h : Byt rest) (e : rdH rest = some p) : wfH p.1 := by
  obtain ⟨r, h1, e⟩ := bind_some' e
  obtain ⟨a, h2, e⟩ := bind_some' e
  obtain ⟨b, h3, rfl⟩ := map_some' e
  have b1 := rdR_byt h h1
  exact ⟨rdR_wf h h1, rdN_lt b1 h2, rdN_lt (rdN_byt b1 h2) h3⟩
theorem rdHs_wf {rest : List Nat} {t : List He × List Nat} (h : Byt rest) (e : rdHs rest = some t) : t.1.length < lim ∧ ∀ a ∈ t.1, wfH a := by
  obtain ⟨h1, h2⟩ := rdL_all (P := wfH) (fun r p hr he => ⟨rdH_byt hr he, rdH_wf hr he⟩) h e
  exact ⟨by unfold lim; omega, h2⟩
theorem rdP_wf {rest : List Nat} {t : List Nat × List Nat} (h : Byt rest) (e : rdP rest = some t) : t.1.length < lim ∧ ∀ p ∈ t.1, p < 65536 := by
  obtain ⟨h1, h2⟩ := rdL_all (P := fun p => p < 65536) (fun r p hr he => ⟨rdN_byt hr he, rdN_lt hr he⟩) h e
  exact ⟨by unfold lim; omega, h2⟩
theorem rdB_wf {rest : List Nat} {t : List Nat × List Nat} (h : Byt rest) (e : rdB rest = some t) : t.1.length < lim ∧ ∀ p ∈ t.1, p < 256 := by
  obtain ⟨h1, h2⟩ := rdL_all (P := fun p => p < 256) (fun r p hr he => ⟨rdN_byt hr he, by have := rdN_lt hr he; omega⟩) h e
  exact ⟨by unfold lim; omega, h2⟩
theorem wf_e0 {t : Int} {i : Nat} (ht : -128 ≤ t ∧ t < 128) (hi : i < 4294967296) : wfM (e0 t i) := by
  have h0 : (0 : Nat) < lim := by decide
  exact ⟨ht, hi, (by decide : -128 ≤ (0 : Int) ∧ (0 : Int) < 128), ⟨(by decide : -9223372036854775808 ≤ (0 : Int) ∧ (0 : Int) < 9223372036854775808), fun _ _ => (by decide : (0 : Nat) < 18446744073709551616), ⟨h0, fun _ h => by cases h⟩, (by decide : (0 : Nat) < 18446744073709551616)⟩,
    (by decide : (0 : Nat) < 65536), (by decide : (0 : Nat) < 65536), ⟨h0, fun _ h => by cases h⟩, ⟨h0, fun _ h => by cases h⟩, ⟨h0, fun _ h => by cases h⟩, ⟨h0, fun _ h => by cases h⟩, (by decide : (0 : Nat) < 65536)⟩
theorem rdBody_wf {t : Int} {i : Nat} {rest : List Nat} {p : Ms × List Nat} (ht : -128 ≤ t ∧ t < 128) (hi : i < 4294967296) (h : Byt rest) (e : rdBody t i rest = some p) : wfM p.1 := by
  have z := wf_e0 ht hi
  unfold rdBody at e
  split at e
  · obtain ⟨a, h1, e⟩ := bind_some' e
    obtain ⟨b, h2, e⟩ := bind_some' e
    obtain ⟨d, h3, rfl⟩ := map_some' e
    have b1 := rdN_byt h h1
    exact ⟨z.ty, z.id, z.dd, z.r, z.port, rdN_lt h h1, rdP_wf b1 h2, rdP_wf (rdP_byt b1 h2) h3, z.frame, z.helds, z.code⟩
  split at e
  · obtain ⟨a, h1, e⟩ := bind_some' e
    obtain ⟨b, h2, rfl⟩ := map_some' e
    exact ⟨z.ty, z.id, i8r _, rdR_wf (rdN_byt h h1) h2, z.port, z.sw, z.ports, z.edge, z.frame, z.helds, z.code⟩
  split at e
  · obtain ⟨a, h1, e⟩ := bind_some' e
    obtain ⟨b, h2, rfl⟩ := map_some' e
    exact ⟨z.ty, z.id, z.dd, z.r, rdN_lt h h1, z.sw, z.ports, z.edge, rdB_wf (rdN_byt h h1) h2, z.helds, z.code⟩
  split at e
  · obtain ⟨a, h1, e⟩ := bind_some' e
    obtain ⟨b, h2, rfl⟩ := map_some' e
    exact ⟨z.ty, z.id, z.dd, z.r, rdN_lt h h1, z.sw, z.ports, z.edge, z.frame, rdHs_wf (rdN_byt h h1) h2, z.code⟩
  split at e
  · obtain ⟨a, h1, e⟩ := bind_some' e
    obtain ⟨b, h2, rfl⟩ := map_some' e
    exact ⟨z.ty, z.id, z.dd, z.r, rdN_lt h h1, z.sw, z.ports, z.edge, z.frame, z.helds, z.code⟩
  split at e
  · obtain ⟨a, h1, rfl⟩ := map_some' e
    exact ⟨z.ty, z.id, z.dd, z.r, z.port, z.sw, z.ports, z.edge, z.frame, z.helds, rdN_lt h h1⟩
  · cases e
    exact z
/-- What the bytes say of their length. -/
def allB (b : List Nat) : Nat := b.getD 2 0 * 256 + b.getD 3 0
def tyB (b : List Nat) : Int := IntKind.i8.wrap ((b.getD 1 0 : Nat) : Int)
/-- A message's parser. -/
def rdMsg (b : List Nat) : Option Ms :=
  if isTy (tyB b) = true ∧ b.getD 0 0 = 1 ∧ b.length = allB b then
    (rdN 4 (b.drop 4)).bind fun i => (rdBody (tyB b) i.1 i.2).bind fun x => if x.2 = [] ∧ chkM x.1 = 0 then some x.1 else none
  else none
def short (b : List Nat) : Bool := decide (b.length < 8) || decide (b.length < allB b)
def decE (b : List Nat) : Int := if short b then 51 else if (rdMsg b).isSome then 0 else 70
def decX (b : List Nat) : Ms := if short b then e0 0 0 else (rdMsg b).getD (e0 0 0)
theorem decX_wf {b : List Nat} (h : Byt b) : wfM (decX b) := by
  have z := wf_e0 (t := 0) (i := 0) (by decide) (by decide)
  unfold decX
  split
  · exact z
  cases e : rdMsg b with
  | none => exact z
  | some x =>
    unfold rdMsg at e
    split at e
    · obtain ⟨i, h1, e⟩ := bind_some' e
      obtain ⟨y, h2, e⟩ := bind_some' e
      split at e
      · cases e
        exact rdBody_wf (i8r _) (rdN_lt (h.drop 4) h1) (rdN_byt (h.drop 4) h1) h2
      · cases e
    · cases e
end Go.Proofs.Ytjjenpdjmcmgbaa
namespace Go.Proofs.Ytjjenpdjmcmgbaa
open Go Ab
set_option linter.unusedSimpArgs false
set_option linter.unusedVariables false
set_option maxRecDepth 20000
theorem or64 (a b : Nat) (ha : a < 256) (hb : b < 256) : bits .or .i64 ((a * 256 : Nat) : Int) (b : Int) = ((a * 256 + b : Nat) : Int) := by
  have e := Nat.shiftLeft_add_eq_or_of_lt (i := 8) (b := b) (by simpa using hb) a
  rw [Nat.shiftLeft_eq] at e
  rw [show a * 256 + b = a * 256 ||| b from e]
  have hx : a * 256 ||| b < 2 ^ 16 := Nat.or_lt_two_pow (by omega) (by omega)
  have h1 : (BitVec.ofInt 64 ((a * 256 : Nat) : Int)).toNat = a * 256 := by
    rw [BitVec.ofInt_natCast, BitVec.toNat_ofNat]; exact Nat.mod_eq_of_lt (by omega)
  have h2 : (BitVec.ofInt 64 (b : Int)).toNat = b := by
    rw [BitVec.ofInt_natCast, BitVec.toNat_ofNat]; exact Nat.mod_eq_of_lt (by omega)
  show IntKind.i64.wrap ((BitVec.ofInt 64 ((a * 256 : Nat) : Int) ||| BitVec.ofInt 64 (b : Int)).toNat : Int) = _
  rw [BitVec.toNat_or, h1, h2, IntKind.wrap_i64]
  omega
theorem sh64 (a : Nat) (ha : a < 256) : IntKind.i64.wrap ((a : Int) * 2 ^ min 8 IntKind.i64.bits) = ((a * 256 : Nat) : Int) := by
  simp [IntKind.wrap, IntKind.bits, IntKind.signed]; omega
theorem w8i (a : Nat) (ha : a < 256) : IntKind.i64.wrap (a : Int) = (a : Int) := by rw [IntKind.wrap_i64]; omega
theorem wksZ : Wks zM (msC (e0 0 0)) := by
  unfold zM mkC zR msC ruC
  repeat (first | exact .nil | refine .cons .eq ?_ | refine .cons .nil ?_)
theorem Wks.refl : ∀ l : List V, Wks l l
  | [] => .nil
  | _ :: l => .cons .eq (Wks.refl l)
theorem len8 {b : List Nat} (h : 8 ≤ b.length) : ∃ b0 b1 b2 b3 r, b = b0 :: b1 :: b2 :: b3 :: r := by
  match b, h with
  | b0 :: b1 :: b2 :: b3 :: r, _ => exact ⟨b0, b1, b2, b3, r, rfl⟩
def RD (b : List Nat) (r : CR) : Prop := ∃ m1 C, r = .ret (.tup [.agg C, .int .i64 (decE b)]) m1 ∧ Wks C (msC (decX b))
set_option maxHeartbeats 4000000 in
/-- Bytes that are too few. -/
theorem snd12a {b : List Nat} (hb : Byt b) (hs : short b = true) : Snd Try.prog 12 [byV b] [] (RD b) := by
  refine Snd_of_W fol rfl rfl (by kernel_rfl) (by kernel_rfl) ?_
  have lnr : ∀ M, lenV Try.prog M 34 (byV b) = some (.int .i64 (b.length : Int)) := fun M => by unfold byV; rw [lni34, List.length_map]
  have dE : decE b = 51 := by unfold decE; rw [hs]; rfl
  have dX : decX b = e0 0 0 := by unfold decX; rw [hs]; rfl
  have l8 : decide ((b.length : Int) < 8) = decide (b.length < 8) := by rw [Bool.eq_iff_iff]; simp; omega
  have fin : ∀ m1, RD b (.ret (.tup [.agg zM, .int .i64 51]) m1) := fun m1 => ⟨m1, zM, by rw [dE], by rw [dX]; exact wksZ⟩
  simp -implicitDefEqProofs only [sims.1, fx.1, keeps.1, tick_on]
  refine w_quiet ?_
  cases e8 : decide (b.length < 8)
  · obtain ⟨b0, b1, b2, b3, r, rfl⟩ := len8 (show 8 ≤ b.length by have := of_decide_eq_false e8; omega)
    have hall : allB (b0 :: b1 :: b2 :: b3 :: r) = b2 * 256 + b3 := rfl
    have ls : decide (((b0 :: b1 :: b2 :: b3 :: r).length : Int) < ((b2 * 256 + b3 : Nat) : Int)) = true := by
      unfold short at hs
      rw [e8, hall, Bool.false_or] at hs
      have := of_decide_eq_true hs
      simp only [decide_eq_true_eq]
      omega
    have h2 : b2 < 256 := hb.1 _ (by simp)
    have h3 : b3 < 256 := hb.1 _ (by simp)
    have i2 : ∀ {k : IntKind}, iaddrS 1 (byV (b0 :: b1 :: b2 :: b3 :: r)) (.int k 2) = some (.ip (byC b2)) := fun {k} => iaddrS_isl (j := 2) rfl
    have i3 : ∀ {k : IntKind}, iaddrS 1 (byV (b0 :: b1 :: b2 :: b3 :: r)) (.int k 3) = some (.ip (byC b3)) := fun {k} => iaddrS_isl (j := 3) rfl
    have c2 : (byC b2)[0]? = some (.int .u8 (b2 : Int)) := rfl
    have c3 : (byC b3)[0]? = some (.int .u8 (b3 : Int)) := rfl
    generalize hbb : (b0 :: b1 :: b2 :: b3 :: r) = b at *
    simp -implicitDefEqProofs only [sims.1, fx.1, keeps.1, tick_on, b_shl, Nat.reduceEqDiff, Int.reduceLT, Int.reduceToNat, lnr, l8, e8, i2, i3, c2, c3, sh64 b2 h2, w8i b2 h2, w8i b3 h3, or64 b2 b3 h2 h3, ls]
    simp only [zMx, List.length_nil]
    generalize hz : zM = z at fin ⊢
    have hl : z.length = 36 := by rw [← hz]; rfl
    have hp : partK true 36 z 0 = some (.agg z) := partK_row hl
    have sp : splice z 0 z = z := splice_all rfl
    simp -implicitDefEqProofs only [sims.1, fx.1, keeps.1, tick_on, Nat.reduceEqDiff, Nat.reduceLT, Nat.reduceLeDiff, rs12, hp, storeK_agg, hl, sp]
    exact fin _
  · simp -implicitDefEqProofs only [sims.1, fx.1, keeps.1, tick_on, Nat.reduceEqDiff, lnr, l8, e8]
    simp only [zMx, List.length_nil]
    generalize hz : zM = z at fin ⊢
    have hl : z.length = 36 := by rw [← hz]; rfl
    have hp : partK true 36 z 0 = some (.agg z) := partK_row hl
    have sp : splice z 0 z = z := splice_all rfl
    simp -implicitDefEqProofs only [sims.1, fx.1, keeps.1, tick_on, Nat.reduceEqDiff, Nat.reduceLT, Nat.reduceLeDiff, rs12, hp, storeK_agg, hl, sp]
    exact fin _
set_option maxHeartbeats 2000000 in
theorem boomR {Q : CR → Prop} {env : Env} {M : Mem} {l : List V} {v : V} (h1 : M[0]? = some (.var 37 l)) (hl : l.length = 36) (h2 : M[1]? = some (.var 38 [v])) (e2 : env 2 = .ptr 0 0) (e3 : env 3 = .ptr 1 0)
    (hq : ∀ m', Q (.ret (.tup [.agg zM, .int .i64 70]) m')) : endD Try.prog Try.prog.funcs[12] 20 [.ptr 0 0, .ptr 1 0] Q (.pan wrongV) env M := by
  have hlM : 1 < M.length := (List.getElem?_eq_some_iff.1 h2).1
  refine ⟨fun m' => m' = ((M ++ [B.var 62 []]).set 0 (B.var 37 zM)).set 1 (B.var 38 [.int .i64 70]), ?_, ?_⟩
  · refine SndD_of_W (k := 5) (j := 2) fol rfl rfl (by kernel_rfl) (by kernel_rfl) (by kernel_rfl) (by kernel_rfl) (by kernel_rfl) rfl ?_
    unfold wrongV
    have n1 : binV Try.prog .neq 20 (.ifc 62 (.agg [])) .nili = some (.bool true) := ne20
    have z1 : splice ([] : List V) 0 [] = [] := rfl
    have a1 : (M ++ [B.var 62 []])[M.length]? = some (.var 62 []) := by simp
    have a2 : (M ++ [B.var 62 []]).set M.length (.var 62 []) = M ++ [.var 62 []] := by simp
    have b37 : buildV Try.prog 37 [] = some (.agg zM) := by kernel_rfl
    have s1 : (M ++ [B.var 62 []])[0]? = some (.var 37 l) := by rw [List.getElem?_append_left (by omega), h1]
    have s2 : ((M ++ [B.var 62 []]).set 0 (.var 37 zM))[1]? = some (.var 38 [v]) := by rw [List.getElem?_set_ne (by omega), List.getElem?_append_left (by omega), h2]
    have s3 : storeK 1 ((M ++ [B.var 62 []]).set 0 (.var 37 zM)) (.ptr 1 0) (.int .i64 70) = some (((M ++ [B.var 62 []]).set 0 (.var 37 zM)).set 1 (.var 38 [.int .i64 70])) := stO _ _ rfl s2
    have sp : splice l 0 zM = zM := splice_all (by rw [hl]; rfl)
    have hzl : zM.length = 36 := rfl
    simp -implicitDefEqProofs only [sims.1, fx.1, keeps.1, tick_on, extractV, Nat.reduceAdd, Nat.reduceEqDiff, Nat.reduceLeDiff, Option.getD_some, evO_nili, n1, storeK_agg, z1, a1, a2]
    simp only [zMx]
    simp -implicitDefEqProofs only [sims.1, fx.1, keeps.1, tick_on, Nat.reduceEqDiff, Nat.reduceLT, s1, hl, sp, s2, Nat.le_refl]
  · rintro m' rfl
    refine ⟨.tup [.agg zM, .int .i64 70], ?_, hq _⟩
    have pz : partK true 36 zM 0 = some (.agg zM) := part37z
    rw [rs12, e2, e3, ld37, ld38, loadK_ptr, loadK_ptr, List.getElem?_set_ne (by omega), List.getElem?_set_self (by simp), List.getElem?_set_self (by simp; omega)]
    simp only [Option.bind_some, pz]
    rfl
theorem retR {Q : CR → Prop} {env : Env} {M : Mem} {l : List V} {v : V} (h1 : M[0]? = some (.var 37 l)) (hl : l.length = 36) (h2 : M[1]? = some (.var 38 [v])) (e2 : env 2 = .ptr 0 0) (e3 : env 3 = .ptr 1 0)
    (hq : Q (.ret (.tup [.agg l, v]) M)) : endD Try.prog Try.prog.funcs[12] 20 [.ptr 0 0, .ptr 1 0] Q .ret env M := by
  refine ⟨fun m' => m' = M, ?_, ?_⟩
  · refine SndD_of_W (k := 5) (j := 2) fol rfl rfl (by kernel_rfl) (by kernel_rfl) (by kernel_rfl) (by kernel_rfl) (by kernel_rfl) rfl ?_
    have n1 : binV Try.prog .neq 20 .nili .nili = some (.bool false) := ne20n
    simp -implicitDefEqProofs only [sims.1, keeps.1, tick_on, Nat.reduceEqDiff, Option.getD_none, evO_nili, n1]
  · rintro m' rfl
    refine ⟨_, ?_, hq⟩
    have pz : partK true 36 l 0 = some (.agg l) := partK_row hl
    rw [rs12, e2, e3, ld37, ld38, loadK_ptr, loadK_ptr, h1, h2]
    simp only [Option.bind_some, pz]
    rfl
end Go.Proofs.Ytjjenpdjmcmgbaa
