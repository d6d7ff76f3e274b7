/- Any Type's way, read. No condition. -/
import Derived.Test.YtjjenpdjmcmgbaaQXm
import Derived.Test.YtjjenpdjmcmgbaaQZx
namespace Go.Proofs.Ytjjenpdjmcmgbaa
open Go Ab
set_option linter.unusedSimpArgs false
set_option linter.unusedVariables false
set_option maxRecDepth 20000
def e0 (t : Int) (i : Nat) : Ms := ⟨t, i, 0, ⟨0, w0, [], 0⟩, 0, false, 0, [], [], [], [], 0⟩
/-- A message's parser behind its head. -/
def rdBody (t : Int) (i : Nat) (rest : List Nat) : Option (Ms × List Nat) :=
  if t = 4 then (rdN 2 rest).bind fun a => (rdP a.2).bind fun b => (rdP b.2).map fun d => ({ e0 t i with sw := a.1, ports := b.1, edge := d.1 }, d.2)
  else if t = 5 then (rdN 1 rest).bind fun a => (rdR a.2).map fun r => ({ e0 t i with dd := IntKind.i8.wrap (a.1 : Int), r := r.1 }, r.2)
  else if t = 6 ∨ t = 7 then (rdN 2 rest).bind fun a => (rdB a.2).map fun b => ({ e0 t i with port := a.1, frame := b.1 }, b.2)
  else if t = 11 then (rdN 2 rest).bind fun a => (rdHs a.2).map fun b => ({ e0 t i with port := a.1, helds := b.1 }, b.2)
  else if t = 12 then (rdN 2 rest).bind fun a => (rdFl a.2).map fun b => ({ e0 t i with port := a.1, up := b.1 }, b.2)
  else if t = 13 then (rdN 2 rest).map fun a => ({ e0 t i with code := a.1 }, a.2)
  else some (e0 t i, rest)
/-- A message's cells with these rows. -/
def msK (L P E F H : V) (x : Ms) : List V := .int .i8 x.ty :: .int .u32 (x.id : Int) :: .int .i8 x.dd :: (rk4 x.r.rank x.r.w L x.r.ck ++ [.int .u16 (x.port : Int), .bool x.up, .int .u16 (x.sw : Int), P, E, F, H, .int .u16 (x.code : Int)])
theorem msK_C (x : Ms) : msK (cpsV x.r.l) (poV x.ports) (poV x.edge) (byV x.frame) (hesV x.helds) x = msC x := rfl
theorem K26 {L P E F H L' : V} {x : Ms} : (msK L P E F H x).set 26 L' = msK L' P E F H x := rfl
theorem K31 {L P E F H P' : V} {x : Ms} : (msK L P E F H x).set 31 P' = msK L P' E F H x := rfl
theorem K32 {L P E F H E' : V} {x : Ms} : (msK L P E F H x).set 32 E' = msK L P E' F H x := rfl
theorem K33 {L P E F H F' : V} {x : Ms} : (msK L P E F H x).set 33 F' = msK L P E F' H x := rfl
theorem K34 {L P E F H H' : V} {x : Ms} : (msK L P E F H x).set 34 H' = msK L P E F H' x := rfl
section
variable {f : FuncId} {vs : List V} {m : Mem} {c q ty : Nat} {l : List V} {p : Option (Ms × List Nat)}
theorem nil26 (hqc : q ≠ c) {P E F H : Ms → V} (h : Snd Try.prog f vs m (RQ c q ty l m (p.map fun x => (msK .nils (P x.1) (E x.1) (F x.1) (H x.1) x.1, x.2)))) : Snd Try.prog f vs m (RQ c q ty l m (p.map fun x => (msK (.isl 1 []) (P x.1) (E x.1) (F x.1) (H x.1) x.1, x.2))) := by
  have := RQ_nil 26 1 hqc h (fun t e => by obtain ⟨a, _, rfl⟩ := map_some' e; rfl)
  simpa only [Option.map_map, Function.comp_def, K26] using this
theorem nil31 (hqc : q ≠ c) {L E F H : Ms → V} (h : Snd Try.prog f vs m (RQ c q ty l m (p.map fun x => (msK (L x.1) .nils (E x.1) (F x.1) (H x.1) x.1, x.2)))) : Snd Try.prog f vs m (RQ c q ty l m (p.map fun x => (msK (L x.1) (.isl 1 []) (E x.1) (F x.1) (H x.1) x.1, x.2))) := by
  have := RQ_nil 31 1 hqc h (fun t e => by obtain ⟨a, _, rfl⟩ := map_some' e; rfl)
  simpa only [Option.map_map, Function.comp_def, K31] using this
theorem nil32 (hqc : q ≠ c) {L P F H : Ms → V} (h : Snd Try.prog f vs m (RQ c q ty l m (p.map fun x => (msK (L x.1) (P x.1) .nils (F x.1) (H x.1) x.1, x.2)))) : Snd Try.prog f vs m (RQ c q ty l m (p.map fun x => (msK (L x.1) (P x.1) (.isl 1 []) (F x.1) (H x.1) x.1, x.2))) := by
  have := RQ_nil 32 1 hqc h (fun t e => by obtain ⟨a, _, rfl⟩ := map_some' e; rfl)
  simpa only [Option.map_map, Function.comp_def, K32] using this
theorem nil33 (hqc : q ≠ c) {L P E H : Ms → V} (h : Snd Try.prog f vs m (RQ c q ty l m (p.map fun x => (msK (L x.1) (P x.1) (E x.1) .nils (H x.1) x.1, x.2)))) : Snd Try.prog f vs m (RQ c q ty l m (p.map fun x => (msK (L x.1) (P x.1) (E x.1) (.isl 1 []) (H x.1) x.1, x.2))) := by
  have := RQ_nil 33 1 hqc h (fun t e => by obtain ⟨a, _, rfl⟩ := map_some' e; rfl)
  simpa only [Option.map_map, Function.comp_def, K33] using this
theorem nil34 (hqc : q ≠ c) {L P E F : Ms → V} (h : Snd Try.prog f vs m (RQ c q ty l m (p.map fun x => (msK (L x.1) (P x.1) (E x.1) (F x.1) .nils x.1, x.2)))) : Snd Try.prog f vs m (RQ c q ty l m (p.map fun x => (msK (L x.1) (P x.1) (E x.1) (F x.1) (.isl 27 []) x.1, x.2))) := by
  have := RQ_nil 34 27 hqc h (fun t e => by obtain ⟨a, _, rfl⟩ := map_some' e; rfl)
  simpa only [Option.map_map, Function.comp_def, K34] using this
end
theorem snd_eq {f : FuncId} {vs : List V} {m : Mem} {c q ty : Nat} {l : List V} {p p' : Option (List V × List Nat)} (h : Snd Try.prog f vs m (RQ c q ty l m p)) (e : p = p') : Snd Try.prog f vs m (RQ c q ty l m p') := e ▸ h
theorem go_read {t : Int} (ht : isTy t = true) (a b : Nat) : ∃ f caps, goV t a b = .fn f [] caps ∧ enterable Try.prog f = true ∧
    ∀ {m : Mem} {c q i : Nat} {rest : List Nat}, Cr m c rest → Byt rest → m[q]? = some (.var 37 (mzR t i)) → q ≠ c → b ≠ c → b ≠ q → m[a]? = some (.var 64 [.fn 41 [] []]) → m[b]? = some (.var 105 [.fn 43 [] []]) →
      Snd Try.prog f ([.ptr c 0, .ptr q 0] ++ caps) m (RQ c q 37 (mzR t i) m ((rdBody t i rest).map fun x => (msC x.1, x.2))) := by
  unfold goV
  by_cases h4 : t = 4
  · rw [if_pos h4]
    refine ⟨_, _, rfl, en50, fun {m c q i rest} hc hB hq hqc hbc hbq ha hb => ?_⟩
    have h := snd_eq (snd50r hc hB hb hbc hbq hq hqc) (p' := (rdBody t i rest).map fun x => (msK .nils (poV x.1.ports) (poV x.1.edge) .nils .nils x.1, x.2)) (by
      unfold rdBody
      rw [if_pos h4]
      cases rdN 2 rest with
      | none => rfl
      | some a =>
        show (rdP a.2).bind _ = _
        cases h : rdP a.2 with
        | none => simp only [Option.bind_some, Option.bind_none, Option.map_none, h]
        | some b =>
          simp only [Option.bind_some, h]
          cases rdP b.2 with
          | none => rfl
          | some d => rfl)
    have h := nil34 hqc (L := fun _ => .nils) (P := fun x => poV x.ports) (E := fun x => poV x.edge) (F := fun _ => .nils) h
    have h := nil33 hqc (L := fun _ => .nils) (P := fun x => poV x.ports) (E := fun x => poV x.edge) (H := fun _ => .isl 27 []) h
    have h := nil26 hqc (P := fun x => poV x.ports) (E := fun x => poV x.edge) (F := fun _ => .isl 1 []) (H := fun _ => .isl 27 []) h
    refine snd_eq h ?_
    unfold rdBody
    rw [if_pos h4]
    cases rdN 2 rest with
    | none => rfl
    | some a =>
      simp only [Option.bind_some]
      cases rdP a.2 with
      | none => rfl
      | some b =>
        simp only [Option.bind_some]
        cases rdP b.2 with
        | none => rfl
        | some d => rfl
  rw [if_neg h4]
  by_cases h5 : t = 5
  · rw [if_pos h5]
    refine ⟨_, _, rfl, en51, fun {m c q i rest} hc hB hq hqc hbc hbq ha hb => ?_⟩
    have h := snd_eq (snd51r hc hB hq hqc) (p' := (rdBody t i rest).map fun x => (msK (cpsV x.1.r.l) .nils .nils .nils .nils x.1, x.2)) (by
      unfold rdBody
      rw [if_neg h4, if_pos h5]
      cases rdN 1 rest with
      | none => rfl
      | some a =>
        simp only [Option.bind_some]
        cases rdR a.2 with
        | none => rfl
        | some b => rfl)
    have h := nil34 hqc (L := fun x => cpsV x.r.l) (P := fun _ => .nils) (E := fun _ => .nils) (F := fun _ => .nils) h
    have h := nil33 hqc (L := fun x => cpsV x.r.l) (P := fun _ => .nils) (E := fun _ => .nils) (H := fun _ => .isl 27 []) h
    have h := nil32 hqc (L := fun x => cpsV x.r.l) (P := fun _ => .nils) (F := fun _ => .isl 1 []) (H := fun _ => .isl 27 []) h
    have h := nil31 hqc (L := fun x => cpsV x.r.l) (E := fun _ => .isl 1 []) (F := fun _ => .isl 1 []) (H := fun _ => .isl 27 []) h
    refine snd_eq h ?_
    unfold rdBody
    rw [if_neg h4, if_pos h5]
    cases rdN 1 rest with
    | none => rfl
    | some a =>
      simp only [Option.bind_some]
      cases rdR a.2 with
      | none => rfl
      | some b => rfl
  rw [if_neg h5]
  by_cases h6 : t = 6 ∨ t = 7
  · rw [if_pos h6]
    refine ⟨_, _, rfl, en46, fun {m c q i rest} hc hB hq hqc hbc hbq ha hb => ?_⟩
    have h := snd_eq (snd46r hc hB ha hq hqc) (p' := (rdBody t i rest).map fun x => (msK .nils .nils .nils (byV x.1.frame) .nils x.1, x.2)) (by
      unfold rdBody
      rw [if_neg h4, if_neg h5, if_pos h6]
      cases rdN 2 rest with
      | none => rfl
      | some a =>
        simp only [Option.bind_some]
        cases rdB a.2 with
        | none => rfl
        | some b => rfl)
    have h := nil34 hqc (L := fun _ => .nils) (P := fun _ => .nils) (E := fun _ => .nils) (F := fun x => byV x.frame) h
    have h := nil32 hqc (L := fun _ => .nils) (P := fun _ => .nils) (F := fun x => byV x.frame) (H := fun _ => .isl 27 []) h
    have h := nil31 hqc (L := fun _ => .nils) (E := fun _ => .isl 1 []) (F := fun x => byV x.frame) (H := fun _ => .isl 27 []) h
    have h := nil26 hqc (P := fun _ => .isl 1 []) (E := fun _ => .isl 1 []) (F := fun x => byV x.frame) (H := fun _ => .isl 27 []) h
    refine snd_eq h ?_
    unfold rdBody
    rw [if_neg h4, if_neg h5, if_pos h6]
    cases rdN 2 rest with
    | none => rfl
    | some a =>
      simp only [Option.bind_some]
      cases rdB a.2 with
      | none => rfl
      | some b => rfl
  rw [if_neg h6]
  by_cases h11 : t = 11
  · rw [if_pos h11]
    refine ⟨_, _, rfl, en54, fun {m c q i rest} hc hB hq hqc hbc hbq ha hb => ?_⟩
    have h := snd_eq (snd54r hc hB ha hq hqc) (p' := (rdBody t i rest).map fun x => (msK .nils .nils .nils .nils (hesV x.1.helds) x.1, x.2)) (by
      unfold rdBody
      rw [if_neg h4, if_neg h5, if_neg h6, if_pos h11]
      cases rdN 2 rest with
      | none => rfl
      | some a =>
        simp only [Option.bind_some]
        cases rdHs a.2 with
        | none => rfl
        | some b => rfl)
    have h := nil33 hqc (L := fun _ => .nils) (P := fun _ => .nils) (E := fun _ => .nils) (H := fun x => hesV x.helds) h
    have h := nil32 hqc (L := fun _ => .nils) (P := fun _ => .nils) (F := fun _ => .isl 1 []) (H := fun x => hesV x.helds) h
    have h := nil31 hqc (L := fun _ => .nils) (E := fun _ => .isl 1 []) (F := fun _ => .isl 1 []) (H := fun x => hesV x.helds) h
    have h := nil26 hqc (P := fun _ => .isl 1 []) (E := fun _ => .isl 1 []) (F := fun _ => .isl 1 []) (H := fun x => hesV x.helds) h
    refine snd_eq h ?_
    unfold rdBody
    rw [if_neg h4, if_neg h5, if_neg h6, if_pos h11]
    cases rdN 2 rest with
    | none => rfl
    | some a =>
      simp only [Option.bind_some]
      cases rdHs a.2 with
      | none => rfl
      | some b => rfl
  rw [if_neg h11]
  have rest3 : ∀ {f : FuncId} {vs : List V} {m : Mem} {c q i : Nat} {rest : List Nat}, q ≠ c → (∀ x r, rdBody t i rest = some (x, r) → x.r.l = [] ∧ x.ports = [] ∧ x.edge = [] ∧ x.frame = [] ∧ x.helds = []) → Snd Try.prog f vs m (RQ c q 37 (mzR t i) m ((rdBody t i rest).map fun x => (msK .nils .nils .nils .nils .nils x.1, x.2))) → Snd Try.prog f vs m (RQ c q 37 (mzR t i) m ((rdBody t i rest).map fun x => (msC x.1, x.2))) := by
    intro f vs m c q i rest hqc hx h
    have h := nil34 hqc (L := fun _ => .nils) (P := fun _ => .nils) (E := fun _ => .nils) (F := fun _ => .nils) h
    have h := nil33 hqc (L := fun _ => .nils) (P := fun _ => .nils) (E := fun _ => .nils) (H := fun _ => .isl 27 []) h
    have h := nil32 hqc (L := fun _ => .nils) (P := fun _ => .nils) (F := fun _ => .isl 1 []) (H := fun _ => .isl 27 []) h
    have h := nil31 hqc (L := fun _ => .nils) (E := fun _ => .isl 1 []) (F := fun _ => .isl 1 []) (H := fun _ => .isl 27 []) h
    have h := nil26 hqc (P := fun _ => .isl 1 []) (E := fun _ => .isl 1 []) (F := fun _ => .isl 1 []) (H := fun _ => .isl 27 []) h
    refine snd_eq h ?_
    cases e : rdBody t i rest with
    | none => rfl
    | some x =>
      obtain ⟨h1, h2, h3, h4, h5⟩ := hx x.1 x.2 e
      simp only [Option.map_some, ← msK_C, h1, h2, h3, h4, h5]
      rfl
  by_cases h12 : t = 12
  · rw [if_pos h12]
    have eB : ∀ i rest, rdBody t i rest = (rdN 2 rest).bind fun a => (rdFl a.2).map fun b => ({ e0 t i with port := a.1, up := b.1 }, b.2) := fun i rest => by
      unfold rdBody
      rw [if_neg h4, if_neg h5, if_neg h6, if_neg h11, if_pos h12]
    refine ⟨_, _, rfl, en57, fun {m c q i rest} hc hB hq hqc hbc hbq ha hb => rest3 hqc (fun x r e => ?_) (snd_eq (snd57r hc hB ha hq hqc) ?_)⟩
    · rw [eB] at e
      cases h1 : rdN 2 rest with
      | none => rw [h1] at e; cases e
      | some a =>
        rw [h1] at e
        simp only [Option.bind_some] at e
        obtain ⟨b, _, e⟩ := map_some' e
        cases e
        exact ⟨rfl, rfl, rfl, rfl, rfl⟩
    · rw [eB]
      cases rdN 2 rest with
      | none => rfl
      | some a =>
        simp only [Option.bind_some]
        cases rdFl a.2 with
        | none => rfl
        | some b => rfl
  rw [if_neg h12]
  by_cases h13 : t = 13
  · rw [if_pos h13]
    have eB : ∀ i rest, rdBody t i rest = (rdN 2 rest).map fun a => ({ e0 t i with code := a.1 }, a.2) := fun i rest => by
      unfold rdBody
      rw [if_neg h4, if_neg h5, if_neg h6, if_neg h11, if_neg h12, if_pos h13]
    refine ⟨_, _, rfl, en59, fun {m c q i rest} hc hB hq hqc hbc hbq ha hb => rest3 hqc (fun x r e => ?_) (snd_eq (snd59r hc hB hq hqc mz35) ?_)⟩
    · rw [eB] at e
      obtain ⟨b, _, e⟩ := map_some' e
      cases e
      exact ⟨rfl, rfl, rfl, rfl, rfl⟩
    · rw [eB]
      cases rdN 2 rest with
      | none => rfl
      | some a => rfl
  rw [if_neg h13, if_pos ht]
  have eB : ∀ i rest, rdBody t i rest = some (e0 t i, rest) := fun i rest => by
    unfold rdBody
    rw [if_neg h4, if_neg h5, if_neg h6, if_neg h11, if_neg h12, if_neg h13]
  refine ⟨_, _, rfl, en60, fun {m c q i rest} hc hB hq hqc hbc hbq ha hb => rest3 hqc (fun x r e => ?_) (snd_eq (snd60r hc hq) ?_)⟩
  · rw [eB] at e
    cases e
    exact ⟨rfl, rfl, rfl, rfl, rfl⟩
  · rw [eB]
    rfl
end Go.Proofs.Ytjjenpdjmcmgbaa
