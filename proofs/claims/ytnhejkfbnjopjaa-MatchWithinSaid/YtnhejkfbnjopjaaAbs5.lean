/- The evaluator's literals, slices and appends, and that they answer as the machine does. No condition. -/
import Derived.Test.YtnhejkfbnjopjaaAbs4
namespace Go.Proofs.Ytnhejkfbnjopjaa.Ab
open Go
set_option linter.unusedSimpArgs false
set_option linter.unusedVariables false

theorem splice_cons {α : Type} {l : List α} {i : Nat} {v : α} {r : List α} (h : i + (r.length + 1) ≤ l.length) : splice (l.set i v) (i + 1) r = splice l i (v :: r) := by
  apply List.ext_getElem?
  intro j
  rw [splice_get (by simp; omega), splice_get (by simpa using h)]
  simp only [List.length_cons]
  by_cases h1 : j < i
  · rw [if_pos (by omega), if_pos h1, List.getElem?_set_ne (by omega)]
  · rw [if_neg h1]
    by_cases h2 : j = i
    · subst h2
      rw [if_pos (by omega), if_pos (by omega), List.getElem?_set_self (by omega)]
      simp
    · by_cases h3 : j < i + (r.length + 1)
      · rw [if_neg (by omega), if_pos (by omega), if_pos h3, show j - i = (j - (i + 1)) + 1 by omega, List.getElem?_cons_succ]
      · rw [if_neg (by omega), if_neg (by omega), if_neg h3, List.getElem?_set_ne (by omega)]

theorem splice_nil {α : Type} (l : List α) (i : Nat) : splice l i [] = l := by simp [splice]

theorem fold_splice (off : Nat) : ∀ (vs : List Value) (k : Nat) (cells : Array Value), off + k + vs.length ≤ cells.size →
    ((vs.zipIdx k).foldl (fun (cs : Array Value) (x : Value × Nat) => cs.setIfInBounds (off + x.2) x.1) cells).toList = splice cells.toList (off + k) vs
  | [], k, cells, _ => by simp [splice_nil]
  | v :: r, k, cells, h => by
    simp only [List.zipIdx_cons, List.foldl_cons, List.length_cons] at h ⊢
    rw [fold_splice off r (k + 1) _ (by simp; omega), ← splice_cons (by simp; omega)]
    simp [Array.toList_setIfInBounds, Nat.add_assoc]

section
variable {P : Program} {N : Nat} {ρ : Pl} {I : Nat → Prop} {w : World} {m : Mem}

def fillV (place : Nat → Option (Nat × Nat)) (l : List V) : List (Nat × V) → Option (List V)
  | [] => some l
  | (i, v) :: rest => match place i with
    | none => none
    | some (off, size) =>
      bif Nat.beq (cellsOfV v).length size && cellsB v then
        if off + (cellsOfV v).length ≤ l.length then fillV place (splice l off (cellsOfV v)) rest else none
      else none

/-- Parts of a literal, each with its number. -/
def Rparts (N : Nat) (ρ : Pl) (I : Nat → Prop) (w : World) : List (Nat × V) → List (Nat × Value) → Prop
  | [], [] => True
  | (i, v) :: r, (j, x) :: s => i = j ∧ RV N ρ I w v x ∧ Rparts N ρ I w r s
  | _, _ => False

theorem fillV_sound {place : Nat → Option (Nat × Nat)} : ∀ {ps : List (Nat × V)} {qs : List (Nat × Value)} {l l' : List V} {c : Array Value}, Rparts N ρ I w ps qs → Rc N ρ I w l c 0 → l.length = c.size →
    fillV place l ps = some l' → ∃ c', Instr.fill place c qs = some c' ∧ Rc N ρ I w l' c' 0 ∧ l'.length = c'.size
  | [], [], l, l', c, _, h1, h2, h => by cases h; exact ⟨c, rfl, h1, h2⟩
  | [], _ :: _, _, _, _, hp, _, _, _ => by simp [Rparts] at hp
  | _ :: _, [], _, _, _, hp, _, _, _ => by simp [Rparts] at hp
  | (i, v) :: r, (j, x) :: s, l, l', c, hp, h1, h2, h => by
    simp only [Rparts] at hp
    obtain ⟨rfl, hv, hr⟩ := hp
    simp only [fillV] at h
    split at h
    · cases h
    · rename_i off size hpl
      cases hc : Nat.beq (cellsOfV v).length size && cellsB v with
      | false => rw [hc] at h; cases h
      | true =>
        rw [hc] at h
        simp only [cond_true] at h
        simp only [Bool.and_eq_true, Nat.beq_eq] at hc
        obtain ⟨k1, k2, k3⟩ := cellsOfV_sound hc.2 hv
        split at h
        · rename_i hb
          have hsz : (splice c.toList off x.cells.toList).length = c.size := by rw [splice_length (by simp; omega)]; simp
          have hf : x.cells.zipIdx.foldl (fun cs (y, j) => cs.setIfInBounds (off + j) y) c = (splice c.toList off x.cells.toList).toArray := by
            rw [← Array.foldl_toList, Array.toList_zipIdx]
            have := fold_splice off x.cells.toList 0 c (by simp; omega)
            apply Array.toList_inj.1
            simpa using this
          have := Rc.splice (off := off) h1 k1 k2 hb (by omega)
          rw [Nat.zero_add] at this
          obtain ⟨c', e1, e2, e3⟩ := fillV_sound hr this (by rw [splice_length hb, List.size_toArray, hsz, h2]) h
          refine ⟨c', ?_, e2, e3⟩
          simp only [Instr.fill, hpl]
          rw [if_neg (by rw [← k2, hc.1]; simp; omega)]
          rw [hf]
          exact e1
        · cases h

def placesT (P : Program) (fs : List Field) : Option (List (Nat × Nat)) := fs.mapM fun f => (P.info? f.type).map fun i => (f.offset, i.size)

theorem run_sizeOf' {t : TypeId} {i : TypeInfo} (h : P.info? t = some i) : (sizeOf t).run P w = .ok i.size w := by simp [sizeOf, typeInfo, h]

theorem run_places (fs : List Field) : ∀ l : List (Nat × Nat), placesT P fs = some l → (fs.mapM fun f => (do pure (f.offset, ← sizeOf f.type) : Sem (Nat × Nat))).run P w = .ok l w := by
  induction fs with
  | nil => intro l h; simp [placesT] at h; subst h; simp
  | cons f r ih =>
    intro l h
    simp only [placesT, List.mapM_cons, bind, Option.bind_eq_some_iff, Option.map_eq_some_iff, pure, Option.some.injEq] at h
    obtain ⟨p, ⟨i, h1, rfl⟩, ps, h2, rfl⟩ := h
    have := ih ps h2
    rw [List.mapM_cons]
    simp only [Sem.run_bind, run_sizeOf' h1, Result.andThen_ok, Sem.run_pure]
    rw [this]
    rfl

def buildV (P : Program) (t : TypeId) (ps : List (Nat × V)) : Option V :=
  match P.info? t with
  | none => none
  | some inf => match inf.zero with
    | none => none
    | some z => bif cellsB (constV z) then match P.underlying t with
      | some (.struct fs) => match placesT P fs.toList with
        | some pl => (fillV (fun i => pl[i]?) (cellsOfV (constV z)) ps).map .agg
        | none => none
      | some (.array _ e) => match P.info? e with
        | some ie => (fillV (fun i => some (i * ie.size, ie.size)) (cellsOfV (constV z)) ps).map .agg
        | none => none
      | _ => none
      else none

theorem buildV_sound {t : TypeId} {ps : List (Nat × V)} {qs : Array (Nat × Value)} {v : V} (hp : Rparts N ρ I w ps qs.toList) (h : buildV P t ps = some v) :
    ∃ x, (Instr.build t qs).run P w = .ok x w ∧ RV N ρ I w v x := by
  unfold buildV at h
  split at h
  · cases h
  · rename_i inf hi
    split at h
    · cases h
    · rename_i z hz
      cases hc : cellsB (constV z) with
      | false => rw [hc] at h; cases h
      | true =>
        rw [hc] at h
        simp only [cond_true] at h
        obtain ⟨k1, k2, _⟩ := cellsOfV_sound hc (RV_constV N ρ I w z)
        split at h
        · rename_i fs hu
          split at h
          · rename_i pl hpl
            rw [Option.map_eq_some_iff] at h
            obtain ⟨l, h1, rfl⟩ := h
            obtain ⟨c, e1, e2, e3⟩ := fillV_sound hp k1 k2 h1
            refine ⟨.agg c, ?_, by simp only [RV]; exact ⟨c, rfl, e3, e2⟩⟩
            have hm : (fs.mapM fun f => (do pure (f.offset, ← sizeOf f.type) : Sem (Nat × Nat))).run P w = .ok pl.toArray w := by
              rw [Array.mapM_eq_mapM_toList]
              simp only [Sem.run_map, run_places _ _ hpl, Result.andThen_ok]
            simp only [Instr.build, zeroValue, typeInfo, Sem.run_bind, run_program, Result.andThen_ok, hi, hz, Sem.run_pure, run_underlying hu, hm]
            have : (fun x : Nat => pl.toArray[x]?) = fun i : Nat => pl[i]? := by funext i; simp
            rw [this, e1]
            rfl
          · cases h
        · rename_i n e hu
          split at h
          · rename_i ie hie
            rw [Option.map_eq_some_iff] at h
            obtain ⟨l, h1, rfl⟩ := h
            obtain ⟨c, e1, e2, e3⟩ := fillV_sound hp k1 k2 h1
            refine ⟨.agg c, ?_, by simp only [RV]; exact ⟨c, rfl, e3, e2⟩⟩
            simp only [Instr.build, zeroValue, typeInfo, Sem.run_bind, run_program, Result.andThen_ok, hi, hz, Sem.run_pure, run_underlying hu, sizeOf, hie, e1]
          · cases h
        · cases h
end
end Go.Proofs.Ytnhejkfbnjopjaa.Ab
